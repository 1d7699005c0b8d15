/- The law PqueueMerges. -/
import Derived.Test.YtknmmgijhlpedaaX1
import Derived.Test.YtknmmgijhlpedaaX2
namespace Go.Proofs.Ytknmmgijhlpedaa
open Go.RowKit Go.ChangeShapes Go.WideShapes Go.Deep
set_option linter.unusedVariables false
set_option linter.unusedSimpArgs false
open QI
set_option maxHeartbeats 2000000 in
set_option maxRecDepth 100000 in
theorem run_pqueueMerges {H : Type} {enc : TypeId × Value → H} (W : World) (base : Nat) (v0 : Value) (d0 : DataW H) (p0 : List MemPlace) (hv0 : Value.okWide Try.prog W .any base 22 v0) (h0 : DataW.Trod enc Try.prog W 0 (fun _ => true) true 22 v0 d0 p0)
    (v1 : Value) (d1 : DataW H) (p1 : List MemPlace) (hv1 : Value.okWide Try.prog W .any base 22 v1) (h1 : DataW.Trod enc Try.prog W 0 (fun _ => true) true 22 v1 d1 p1)
    (v2 : Value) (d2 : DataW H) (p2 : List MemPlace) (hv2 : Value.okWide Try.prog W .any base 4 v2) (h2 : DataW.Trod enc Try.prog W 0 (fun _ => true) true 4 v2 d2 p2)
    (v3 : Value) (d3 : DataW H) (p3 : List MemPlace) (hv3 : Value.okWide Try.prog W .any base 3 v3) (h3 : DataW.Trod enc Try.prog W 0 (fun _ => true) true 3 v3 d3 p3) :
    Calls Try.prog 5 #[v0, v1, v2, v3] W fun e w' => e = .returned (.bool true) ∧ Below W.heap.size W w' := by
  obtain ⟨a, n, c, K, rfl, hn, hc, hK, hab⟩ := open_keys hv0 h0
  obtain ⟨a2, n2, c2, K2, rfl, hm, hc2, hK2, hab2⟩ := open_keys hv1 h1
  obtain ⟨b, rfl, rfl, rfl⟩ := open_bool Try.underlying4 hv2 h2
  obtain ⟨x, rfl, rfl, rfl, hx⟩ := open_int Try.underlying3 hv3 h3
  clear hv0 h0 hv1 h1 hv2 h2 hv3 h3 hx
  by_cases hn2 : n ≤ 100
  · by_cases hm2 : n2 ≤ 100
    · cases b
      · exact merges_false W a n c K hn hc hK hab hn2 a2 n2 c2 K2 hm hc2 hK2 hab2 hm2 x
      · exact merges_true W a n c K hn hc hK hab hn2 a2 n2 c2 K2 hm hc2 hK2 hab2 hm2 x
    · have t1 : (n : Int) ≤ 100 := by omega
      have t2 : (100 : Int) < (n2 : Int) := by omega
      clear hK hab hK2 hab2
      go_enter Try.func5, Try.ntmps5
      go_wp2_with (go_at_call 9; refine (awake9 _).mono ?_; rintro e w1 ⟨rfl, hb⟩)
      go_returns
      exact ⟨rfl, hb⟩
  · have t1 : (100 : Int) < (n : Int) := by omega
    clear hK hab hK2 hab2
    go_enter Try.func5, Try.ntmps5
    go_wp2_with (go_at_call 9; refine (awake9 _).mono ?_; rintro e w1 ⟨rfl, hb⟩)
    go_returns
    exact ⟨rfl, hb⟩
end Go.Proofs.Ytknmmgijhlpedaa
