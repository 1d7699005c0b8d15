/- The law PqueueWords. -/
import Derived.Test.YtknmmgijhlpedaaW2
namespace Go.Proofs.Ytknmmgijhlpedaa
open Go.RowKit Go.ChangeShapes Go.WideShapes Go.Deep
set_option linter.unusedVariables false
set_option linter.unusedSimpArgs false
open QS
set_option maxHeartbeats 2000000 in
set_option maxRecDepth 100000 in
theorem run_pqueueWords {H : Type} {enc : TypeId × Value → H} (W : World) (base : Nat) (v0 : Value) (d0 : DataW H) (p0 : List MemPlace) (hv0 : Value.okWide Try.prog W .any base 49 v0) (h0 : DataW.Trod enc Try.prog W 0 (fun _ => true) true 49 v0 d0 p0)
    (v1 : Value) (d1 : DataW H) (p1 : List MemPlace) (hv1 : Value.okWide Try.prog W .any base 5 v1) (h1 : DataW.Trod enc Try.prog W 0 (fun _ => true) true 5 v1 d1 p1) :
    Calls Try.prog 7 #[v0, v1] W fun e w' => e = .returned (.bool true) ∧ Below W.heap.size W w' := by
  obtain ⟨a, n, c, S, rfl, hn, hc, hS, hz⟩ := open_words hv0 h0
  obtain ⟨x, rfl, rfl, rfl, hx⟩ := open_int Try.underlying5 hv1 h1
  have hx0 : 0 ≤ x ∧ x ≤ 255 := by
    simp only [Lit.wf, Bool.and_eq_true, decide_eq_true_eq] at hx; have m1 : IntKind.min .u8 = 0 := by decide
    have m2 : IntKind.max .u8 = 255 := by decide
    omega
  clear hv0 h0 hv1 h1 hx
  by_cases hn2 : n ≤ 100
  · exact words W a n c S x hn hc hS hz hn2 hx0.1 hx0.2
  · have t1 : (100 : Int) < (n : Int) := by omega
    clear hS hz
    go_enter Try.func7, Try.ntmps7
    go_wp2_with (go_at_call 9; refine (QI.awake9 _).mono ?_; rintro e w1 ⟨rfl, hb⟩)
    go_returns
    exact ⟨rfl, hb⟩
end Go.Proofs.Ytknmmgijhlpedaa
