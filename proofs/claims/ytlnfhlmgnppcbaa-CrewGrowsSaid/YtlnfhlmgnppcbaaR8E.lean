/- Values of the queue of a search: nodes with a travel time and a number of edges. -/
import Derived.Test.YtlnfhlmgnppcbaaA
import Derived.Test.YtlnfhlmgnppcbaaBB
import Derived.BigQuiet
import Derived.WalkLawsBesides
namespace Go.Proofs.Ytlnfhlmgnppcbaa
open Go.RowKit
namespace QT
set_option linter.unusedVariables false
set_option linter.unusedSimpArgs false
set_option maxRecDepth 8000
structure T where
  node : Int
  secs : Int
  edges : Int
deriving DecidableEq
instance : Inhabited T := ⟨⟨0, 0, 0⟩⟩
def vv (x : T) : Value := .agg #[.int .i64 x.node, .int .i64 x.secs, .int .i64 x.edges]
def ec (x : T × Int) : List Value := [.int .i64 x.1.node, .int .i64 x.1.secs, .int .i64 x.1.edges, .int .i64 x.2]
abbrev D := Unit
def ltL (s e s' e' : Int) : Bool := decide (s < s') || (decide (s = s') && decide (e < e'))
def lt (d : D) (a b : T) : Bool := ltL a.secs a.edges b.secs b.edges
def F (d : D) : Value := .func (.func 140) #[] #[]
theorem lt_ord (d : D) : Ord (lt d) := by
  refine ⟨fun {a b} h => ?_, fun {a b c} h1 h2 => ?_⟩
  · simp [lt, ltL] at *; omega
  · simp [lt, ltL] at *; omega
theorem before141 (a0 a1 b0 b1 : Int) (w : World) : Calls Try.prog 141 #[.agg #[.int .i64 a0, .int .i64 a1], .agg #[.int .i64 b0, .int .i64 b1]] w fun e w' => e = .returned (.bool (ltL a0 a1 b0 b1)) ∧ Below w.heap.size w w' := by
  go_enter Try.func141, Try.ntmps141
  go_wp2
  all_goals go_returns
  all_goals exact ⟨by simp [ltL, *]; try omega, by (repeat' (first | (with_reducible exact Below.refl _ _) | (with_reducible assumption) | (with_reducible refine Below.drew ?_) | (with_reducible refine below_drewN ?_ _) | (with_reducible refine Below.alloc ?_ ?_ _) | (with_reducible refine Below.setCell ?_ ?_ _) | go_size))⟩
theorem less140 (x y : T) (w : World) : Calls Try.prog 140 #[vv x, vv y] w fun e w' => e = .returned (.bool (lt () x y)) ∧ Below w.heap.size w w' := by
  have C := fun w => before141 x.secs x.edges y.secs y.edges w
  unfold lt
  generalize ltL x.secs x.edges y.secs y.edges = r at *
  unfold vv at *
  go_enter Try.func140, Try.ntmps140
  go_wp2_with (go_at_call 141; refine (C _).mono ?_; rintro e w1 ⟨rfl, hb⟩)
  go_returns
  refine ⟨rfl, ?_⟩
  have hb2 := (((Below.refl w.heap.size w).alloc (Nat.le_refl _) _).alloc (by simp) _).trans (hb.mono (by go_size))
  (repeat' (first | (with_reducible exact Below.refl _ _) | (with_reducible assumption) | (with_reducible refine Below.drew ?_) | (with_reducible refine below_drewN ?_ _) | (with_reducible refine Below.alloc ?_ ?_ _) | (with_reducible refine Below.setCell ?_ ?_ _) | go_size))
def fn (d : D) : Nat := 140
theorem less (d : D) (x y : T) (w : World) : Calls Try.prog (fn d) #[vv x, vv y] w fun e w' => e = .returned (.bool (lt d x y)) ∧ Below w.heap.size w w' := less140 x y w
end QT
end Go.Proofs.Ytlnfhlmgnppcbaa
