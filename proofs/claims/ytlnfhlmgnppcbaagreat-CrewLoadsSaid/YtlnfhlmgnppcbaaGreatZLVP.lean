/- The levels of a truck and what was loaded on it, by the accepted events. Plain theorems, no program. -/
import Derived.Test.YtlnfhlmgnppcbaaGreatZCUA
namespace Go.Proofs.YtlnfhlmgnppcbaaGreat
set_option linter.unusedVariables false
set_option linter.unusedSimpArgs false
def loadsL (f : Fl) (l : List Ev) (truck : Int) : List (Int × Int) := lvR f.bikes.toNat truck startS (runE f l).2 [(0, 0)]
def loadsE (f : Fl) (truck : Int) : Int := if fleetE f ≠ 0 then fleetE f else if truck < 0 ∨ (f.nt : Int) ≤ truck then 7 else 0
theorem mvP_mvR (f : Fl) (l : List Ev) (truck t : Int) : mvP truck t (fun _ => false) (runE f l).2 0 0 = mvR f.bikes.toNat truck t startS (runE f l).2 0 0 :=
  mv_same truck t _ startS _ 0 0 (Inv.start _) (run_path f l).1 (fun i _ => by simp [onB, startS])
/-! As the program makes the levels: each moment's level, then without those that change nothing. -/
def setLast (out : List (Int × Int)) (c : Int) : List (Int × Int) := out.set (out.length - 1) ((out.getD (out.length - 1) (0, 0)).1, c)
def rawS (out : List (Int × Int)) (a c : Int) : List (Int × Int) := if (out.getD (out.length - 1) (0, 0)).1 = a then setLast out c else out ++ [(a, c)]
def rawL (n : Nat) (truck : Int) : CSt → List Ev → List (Int × Int) → List (Int × Int)
  | _, [], out => out
  | s, e :: l, out => rawL n truck (applyK s e) l (rawS out e.at' (cntN (applyK s e).F 4 truck n))
def ddS (out : List (Int × Int)) (x : Int × Int) : List (Int × Int) := if out.length ≠ 0 ∧ (out.getD (out.length - 1) (0, 0)).2 = x.2 then out else out ++ [x]
def ddL (l : List (Int × Int)) : List (Int × Int) := l.foldl ddS []
inductive RawJ : List (Int × Int) → List (Int × Int) → List Ev → Prop
  | set {A : List (Int × Int)} {y : Int × Int} {l : List Ev} (h : ∀ e ∈ l, y.1 < e.at') (h0 : 0 ≤ y.1) : RawJ (A ++ [y]) (ddL (A ++ [y])) l
  | zero {c c' : Int} {l : List Ev} (h : ∀ e ∈ l, 0 ≤ e.at') (hc : c = c' ∨ ∃ e l', l = e :: l' ∧ e.at' = 0) : RawJ [(0, c)] [(0, c')] l
  | wait {A : List (Int × Int)} {y : Int × Int} {a c : Int} {l : List Ev} (h : ∀ e ∈ l, a ≤ e.at') (ha : 0 < a) (hn : ∃ e l', l = e :: l' ∧ e.at' = a) : RawJ ((A ++ [y]) ++ [(a, c)]) (ddL (A ++ [y])) l
end Go.Proofs.YtlnfhlmgnppcbaaGreat
