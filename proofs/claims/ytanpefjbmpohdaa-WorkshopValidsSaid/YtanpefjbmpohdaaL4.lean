/- The law WorkshopValids. -/
import Derived.Test.YtanpefjbmpohdaaL1
namespace Go.Proofs.Ytanpefjbmpohdaa
open Go.RowKit Go.ChangeShapes Go.WideShapes Go.Deep
set_option linter.unusedVariables false
set_option linter.unusedSimpArgs false
set_option maxHeartbeats 4000000 in
theorem run_workshopValids {H : Type} {enc : TypeId × Value → H} (W : World) (base : Nat) (v0 : Value) (d0 : DataW H) (p0 : List MemPlace) (hv0 : Value.okWide Try.prog W .any base 22 v0) (h0 : DataW.Trod enc Try.prog W 0 (fun _ => true) true 22 v0 d0 p0)
    (v1 : Value) (d1 : DataW H) (p1 : List MemPlace) (hv1 : Value.okWide Try.prog W .any base 23 v1) (h1 : DataW.Trod enc Try.prog W 0 (fun _ => true) true 23 v1 d1 p1)
    (v2 : Value) (d2 : DataW H) (p2 : List MemPlace) (hv2 : Value.okWide Try.prog W .any base 26 v2) (h2 : DataW.Trod enc Try.prog W 0 (fun _ => true) true 26 v2 d2 p2) :
    Calls Try.prog 4 #[v0, v1, v2] W fun e w' => e = .returned (.bool true) ∧ Below W.heap.size W w' := by
  obtain ⟨ao, m, c, J, rfl, hj, _⟩ := open_jobs hv0 h0
  obtain ⟨am, k, c2, M, rfl, hm, _⟩ := open_mechs hv1 h1
  obtain ⟨al, n, c3, L, rfl, hl, hb⟩ := open_works hv2 h2
  have q1 := hj.hm
  have q2 := hj.hc
  have q3 := hm.hm
  have q4 := hm.hc
  have q5 := hl.hm
  have q6 := hl.hc
  have S := Lib.hid hj
  have T := Lib.hid hm
  have U := Lib.hid hl
  have HT := Lib.hid (fun i (hi : i < n) => (hb i hi).2.2.2)
  have FW := few9 ao am m c k c2 W q1 q2 q3 q4
  generalize fewB m k = f at *
  have HFW := Lib.hid FW
  clear hv0 h0 hv1 h1 hv2 h2 hj hm hl hb FW
  by_cases hf : f = true ∧ n ≤ 40
  · obtain ⟨rfl, hn⟩ := hf
    have tn : (n : Int) ≤ 40 := by omega
    have C1 := Lib.hid (valid16 ao am al m c k c2 n c3 J M L W S.out T.out U.out HT.out)
    go_enter Try.func4, Try.ntmps4
    go_wp2_with fail
    refine HFW.out.mono ?_
    rintro e w1 ⟨rfl, rfl⟩
    clear HFW
    go_wp2_with fail
    refine C1.out.mono ?_
    rintro e w2 ⟨rfl, b2⟩
    have B2 := Lib.hid b2
    have S2 := Lib.hid (S.out.below b2)
    have T2 := Lib.hid (T.out.below b2)
    have U2 := Lib.hid (U.out.below b2)
    have C2 := Lib.hid (valid17 ao am al m c k c2 n c3 J M L w2 S2.out T2.out U2.out HT.out)
    clear b2 C1 S T U
    generalize vB m J k M n L = vb at *
    have tvb : (vb == vb) = true := by simp
    go_wp2_with fail
    refine C2.out.mono ?_
    rintro e w3 ⟨rfl, b3⟩
    have B3 := Lib.hid (B2.out.trans (b3.mono B2.out.size))
    have U3 := Lib.hid (U2.out.below b3)
    have E1 := Lib.hid (end18 al n c3 L w3 U3.out)
    clear b3 C2 S2 T2 U2 B2
    obtain ⟨en, hen⟩ : ∃ en, en = endL L n := ⟨_, rfl⟩
    rw [← hen] at E1
    have HEN := Lib.hid hen
    have ten : (en == en) = true := by simp
    clear hen
    go_wp2_with fail
    refine E1.out.mono ?_
    rintro e w4 ⟨rfl, b4⟩
    have B4 := Lib.hid (B3.out.trans (b4.mono B3.out.size))
    have E2 := Lib.hid (end19 al n c3 L w4 (U3.out.below b4))
    rw [← HEN.out] at E2
    clear b4 B3 U3 E1
    go_wp2_with fail
    refine E2.out.mono ?_
    rintro e w5 ⟨rfl, b5⟩
    have B5 := Lib.hid (B4.out.trans (b5.mono B4.out.size))
    clear b5 E2 B4
    go_wp2_with fail
    refine (awake10 _).mono ?_
    rintro e w6 ⟨rfl, b6⟩
    have B6 := Lib.hid (B5.out.trans (b6.mono B5.out.size))
    clear b6 B5
    go_wp2_with fail
    go_returns
    exact ⟨rfl, B6.out⟩
  · cases f
    · go_enter Try.func4, Try.ntmps4
      go_wp2_with fail
      refine HFW.out.mono ?_
      rintro e w1 ⟨rfl, rfl⟩
      clear HFW
      go_wp2_with fail
      refine (awake10 _).mono ?_
      rintro e w2 ⟨rfl, b2⟩
      have B2 := Lib.hid b2
      clear b2
      go_wp2_with fail
      go_returns
      exact ⟨rfl, B2.out⟩
    · have tn : (40 : Int) < (n : Int) := by
        have : ¬ n ≤ 40 := fun h => hf ⟨rfl, h⟩
        omega
      clear hf
      go_enter Try.func4, Try.ntmps4
      go_wp2_with fail
      refine HFW.out.mono ?_
      rintro e w1 ⟨rfl, rfl⟩
      clear HFW
      go_wp2_with fail
      refine (awake10 _).mono ?_
      rintro e w2 ⟨rfl, b2⟩
      have B2 := Lib.hid b2
      clear b2
      go_wp2_with fail
      go_returns
      exact ⟨rfl, B2.out⟩
end Go.Proofs.Ytanpefjbmpohdaa
