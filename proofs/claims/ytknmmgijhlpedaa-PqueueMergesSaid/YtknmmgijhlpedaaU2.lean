/- Push, Pop and Peek beside their references, the empty queue and any other in one form. -/
import Derived.Test.YtknmmgijhlpedaaU1
namespace Go.Proofs.Ytknmmgijhlpedaa
open Go.RowKit
set_option linter.unusedVariables false
set_option linter.unusedSimpArgs false
namespace QI
def hdT (d : D) (l : List T) : T := if l = [] then ⟨0, 0⟩ else l.getD (minIx (lt d) l) default
def hdB (l : List T) : Bool := !l.isEmpty
def hdL (d : D) (l : List T) : List T := l.eraseIdx (minIx (lt d) l)
theorem hdL_len (d : D) (l : List T) : (hdL d l).length ≤ l.length := List.length_eraseIdx_le ..
theorem refpop18 (w : World) (base : Nat) (v : Value) (l : List T) (d : Bool) (h : IL w base v l) (hl : l.length < 1000000) :
    Calls Try.prog 18 #[v, .bool d] w fun e w' => ∃ v', e = .returned (.tuple #[v', vv (hdT d l), .bool (hdB l)]) ∧ IL w' w.heap.size v' (hdL d l) ∧ Below w.heap.size w w' := by
  by_cases h0 : l = []
  · subst h0
    obtain ⟨ao, cap, rfl, hn, hc, hsl, hnone⟩ := Row.sl h (lf_len _)
    refine (refpop_none w ao cap d).mono ?_
    rintro e w' ⟨rfl, hb⟩
    exact ⟨_, rfl, IL.nil _ _, hb⟩
  · refine (refpop_some w base v l d h h0 hl).mono ?_
    rintro e w' ⟨v', rfl, hi, hb⟩
    refine ⟨v', ?_, hi, hb⟩
    unfold hdT hdB
    rw [if_neg h0, show l.isEmpty = false by cases l; exact absurd rfl h0; rfl]; rfl
theorem pop19 (d : D) (w : World) (base q : Nat) (ow : Option Nat) (l : List T) (N : Int) (h : Q w base q ow d l N) (hN : N ≤ 1000000) :
    Calls Try.prog 19 #[.pointer (some ⟨q, 0, none⟩)] w fun e w' => e = .returned (.tuple #[vv (hdT d l), .bool (hdB l)]) ∧ Q w' base q ow d (hdL d l) N ∧ Off (FP q ow) w w' := by
  by_cases h0 : l = []
  · subst h0
    refine (pop_none d w base q ow N h).mono ?_
    rintro e w' ⟨rfl, hb⟩
    exact ⟨rfl, h.below hb, Off.of_below hb⟩
  · refine (pop_some d w base q ow l N h h0 hN).mono ?_
    rintro e w' ⟨rfl, hq, ho⟩
    refine ⟨?_, hq, ho⟩
    unfold hdT hdB
    rw [if_neg h0, show l.isEmpty = false by cases l; exact absurd rfl h0; rfl]; rfl
theorem peek20 (d : D) (w : World) (base q : Nat) (ow : Option Nat) (l : List T) (N : Int) (h : Q w base q ow d l N) :
    Calls Try.prog 20 #[.pointer (some ⟨q, 0, none⟩)] w fun e w' => e = .returned (.tuple #[vv (hdT d l), .bool (hdB l)]) ∧ Below w.heap.size w w' := by
  by_cases h0 : l = []
  · subst h0
    refine (peek_none d w base q ow N h).mono ?_
    rintro e w' ⟨rfl, hb⟩
    exact ⟨rfl, hb⟩
  · refine (peek_some d w base q ow l N h h0).mono ?_
    rintro e w' ⟨rfl, hb⟩
    refine ⟨?_, hb⟩
    unfold hdT hdB
    rw [if_neg h0, show l.isEmpty = false by cases l; exact absurd rfl h0; rfl]; rfl
end QI
end Go.Proofs.Ytknmmgijhlpedaa
