/- The law PqueueRuns. -/
import Derived.Test.YtknmmgijhlpedaaU3
import Derived.Test.YtknmmgijhlpedaaU4
namespace Go.Proofs.Ytknmmgijhlpedaa
open Go.RowKit Go.ChangeShapes Go.WideShapes Go.Deep
set_option linter.unusedVariables false
set_option linter.unusedSimpArgs false
open QI
set_option maxHeartbeats 2000000 in
set_option maxRecDepth 100000 in
theorem run_pqueueRuns {H : Type} {enc : TypeId × Value → H} (W : World) (base : Nat) (v0 : Value) (d0 : DataW H) (p0 : List MemPlace) (hv0 : Value.okWide Try.prog W .any base 35 v0) (h0 : DataW.Trod enc Try.prog W 0 (fun _ => true) true 35 v0 d0 p0)
    (v1 : Value) (d1 : DataW H) (p1 : List MemPlace) (hv1 : Value.okWide Try.prog W .any base 4 v1) (h1 : DataW.Trod enc Try.prog W 0 (fun _ => true) true 4 v1 d1 p1) :
    Calls Try.prog 4 #[v0, v1] W fun e w' => e = .returned (.bool true) ∧ Below W.heap.size W w' := by
  obtain ⟨a, n, c, K, rfl, hn, hc, hK⟩ := open_ops hv0 h0
  obtain ⟨b, rfl, rfl, rfl⟩ := open_bool Try.underlying4 hv1 h1
  clear hv0 h0 hv1 h1
  by_cases hn2 : 200 < n
  · have t1 : (200 : Int) < (n : Int) := by omega
    clear hK
    go_enter Try.func4, Try.ntmps4
    go_wp2_with (go_at_call 9; refine (awake9 _).mono ?_; rintro e w1 ⟨rfl, hb⟩)
    go_returns
    exact ⟨rfl, hb⟩
  cases b
  · exact runs_false W a n c K hn hc hK (by omega)
  · exact runs_true W a n c K hn hc hK (by omega)
end Go.Proofs.Ytknmmgijhlpedaa
