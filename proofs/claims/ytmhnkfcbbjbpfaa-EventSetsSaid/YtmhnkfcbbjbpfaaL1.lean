/- The law EventSets. -/
import Derived.Test.YtmhnkfcbbjbpfaaAW2
namespace Go.Proofs.Ytmhnkfcbbjbpfaa
open Go.RowKit Go.ChangeShapes Go.WideShapes Go.Deep
set_option linter.unusedVariables false
set_option linter.unusedSimpArgs false
set_option maxRecDepth 4000 in
set_option maxHeartbeats 4000000 in
theorem run_eventSets {H : Type} {enc : TypeId × Value → H} (W : World) (base : Nat) (v0 : Value) (d0 : DataW H) (p0 : List MemPlace) (hv0 : Value.okWide Try.prog W .any base 34 v0) (h0 : DataW.Trod enc Try.prog W 0 (fun _ => true) true 34 v0 d0 p0) :
    Calls Try.prog 5 #[v0] W fun e w' => e = .returned (.bool true) ∧ Below W.heap.size W w' := by
  obtain ⟨ao, n, c, F, rfl, hs, _⟩ := open_events hv0 h0
  clear hv0 h0
  have AW := Lib.hid (fun w' => awake14 w')
  have hmc := hs.hm
  have hcc := hs.hc
  have HS := Lib.hid hs
  clear hs
  by_cases hn : 100 < n
  · have tn : (100 : Int) < (n : Int) := by omega
    go_enter Try.func5, Try.ntmps5
    go_wp2_with fail
    refine (AW.out _).mono ?_
    rintro e w1 ⟨rfl, b1⟩
    have B1 := Lib.hid b1
    clear b1
    go_wp2_with fail
    go_returns
    exact ⟨rfl, B1.out⟩
  · have tn : (n : Int) ≤ 100 := by omega
    have C1 := Lib.hid (set22 ao n c F W HS.out (by omega))
    go_enter Try.func5, Try.ntmps5
    go_wp2_with fail
    refine C1.out.mono ?_
    rintro e w1 ⟨v, m, R, rfl, hm, hrow, hb⟩
    obtain ⟨bo, bc, rfl, S1⟩ := EvRow.toSl hrow
    have HM := Lib.hid hm
    have SS := Lib.hid S1
    have B1 := Lib.hid hb
    have C2 := Lib.hid (set23 ao n c F w1 (HS.out.below hb) (by omega))
    clear hm hrow hb S1 C1
    go_wp2_with fail
    refine C2.out.mono ?_
    rintro e w2 ⟨v, m2, R2, rfl, hm, hrow, hb⟩
    obtain ⟨bo2, bc2, rfl, S2⟩ := EvRow.toSl hrow
    have C3 := same21 bo m bc R bo2 m2 bc2 R2 w2 (SS.out.below hb) S2
    rw [decide_eq_true (HM.out.trans hm.symm)] at C3
    replace C3 := Lib.hid C3
    have B2 := Lib.hid (B1.out.trans (hb.mono B1.out.size))
    clear hm hrow hb S2 C2
    go_wp2_with fail
    refine C3.out.mono ?_
    rintro e w3 ⟨rfl, hb⟩
    have B3 := Lib.hid (B2.out.trans (hb.mono B2.out.size))
    clear hb C3
    go_wp2_with fail
    refine (AW.out _).mono ?_
    rintro e w4 ⟨rfl, hb⟩
    have B4 := Lib.hid (B3.out.trans (hb.mono B3.out.size))
    clear hb
    go_wp2_with fail
    go_returns
    exact ⟨rfl, B4.out⟩
end Go.Proofs.Ytmhnkfcbbjbpfaa
