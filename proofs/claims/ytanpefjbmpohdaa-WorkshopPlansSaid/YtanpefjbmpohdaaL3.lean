/- The law WorkshopPlans. -/
import Derived.Test.YtanpefjbmpohdaaL1
namespace Go.Proofs.Ytanpefjbmpohdaa
open Go.RowKit Go.ChangeShapes Go.WideShapes Go.Deep
set_option linter.unusedVariables false
set_option linter.unusedSimpArgs false
set_option maxHeartbeats 4000000 in
theorem run_workshopPlans {H : Type} {enc : TypeId × Value → H} (W : World) (base : Nat) (v0 : Value) (d0 : DataW H) (p0 : List MemPlace) (hv0 : Value.okWide Try.prog W .any base 22 v0) (h0 : DataW.Trod enc Try.prog W 0 (fun _ => true) true 22 v0 d0 p0)
    (v1 : Value) (d1 : DataW H) (p1 : List MemPlace) (hv1 : Value.okWide Try.prog W .any base 23 v1) (h1 : DataW.Trod enc Try.prog W 0 (fun _ => true) true 23 v1 d1 p1) :
    Calls Try.prog 3 #[v0, v1] W fun e w' => e = .returned (.bool true) ∧ Below W.heap.size W w' := by
  obtain ⟨ao, m, c, J, rfl, hj, _⟩ := open_jobs hv0 h0
  obtain ⟨am, k, c2, M, rfl, hm, _⟩ := open_mechs hv1 h1
  have q1 := hj.hm
  have q2 := hj.hc
  have q3 := hm.hm
  have q4 := hm.hc
  have S := Lib.hid hj
  have T := Lib.hid hm
  have FW := few9 ao am m c k c2 W q1 q2 q3 q4
  generalize fewB m k = f at *
  have HFW := Lib.hid FW
  clear hv0 h0 hv1 h1 hj hm FW
  go_enter Try.func3, Try.ntmps3
  go_wp2_with fail
  refine HFW.out.mono ?_
  rintro e w1 ⟨rfl, rfl⟩
  cases f
  · go_wp2_with fail
    refine (awake10 _).mono ?_
    rintro e w2 ⟨rfl, b2⟩
    have B2 := Lib.hid b2
    clear b2
    go_wp2_with fail
    go_returns
    exact ⟨rfl, B2.out⟩
  · have P1 := Lib.hid (plan11 ao am m c k c2 J M W S.out T.out)
    clear HFW
    go_wp2_with fail
    refine P1.out.mono ?_
    rintro e w1 ⟨a1, e1, rfl, s1, b1⟩
    have B1 := Lib.hid b1
    have S1 := Lib.hid (S.out.below b1)
    have T1 := Lib.hid (T.out.below b1)
    have L1 := Lib.hid s1
    have P2 := Lib.hid (plan12 ao am m c k c2 J M w1 S1.out T1.out)
    clear b1 s1 P1 S T
    go_wp2_with fail
    refine P2.out.mono ?_
    rintro e w2 ⟨a2, e2, rfl, s2, b2⟩
    have B2 := Lib.hid (B1.out.trans (b2.mono B1.out.size))
    have S2 := Lib.hid (S1.out.below b2)
    have T2 := Lib.hid (T1.out.below b2)
    have L2 := Lib.hid (And.intro (L1.out.below b2) s2)
    have C1 := Lib.hid (check13 ao am m c k c2 J M w2 S2.out T2.out)
    clear b2 s2 P2 S1 T1 L1 B1
    go_wp2_with fail
    refine C1.out.mono ?_
    rintro e w3 ⟨rfl, b3⟩
    have B3 := Lib.hid (B2.out.trans (b3.mono B2.out.size))
    have S3 := Lib.hid (S2.out.below b3)
    have T3 := Lib.hid (T2.out.below b3)
    have L3 := Lib.hid (And.intro (L2.out.1.below b3) (L2.out.2.below b3))
    have C2 := Lib.hid (check14 ao am m c k c2 J M w3 S3.out T3.out)
    clear b3 C1 S2 T2 L2 B2
    generalize chkE m J k M = ce at *
    have tce : (ce == ce) = true := by simp
    go_wp2_with fail
    refine C2.out.mono ?_
    rintro e w4 ⟨rfl, b4⟩
    have B4 := Lib.hid (B3.out.trans (b4.mono B3.out.size))
    have SM := Lib.hid (same15 a1 a2 _ e1 e2 _ w4 (L3.out.1.below b4) (L3.out.2.below b4))
    clear b4 C2 S3 T3 L3 B3
    go_wp2_with fail
    refine SM.out.mono ?_
    rintro e w5 ⟨rfl, b5⟩
    have B5 := Lib.hid (B4.out.trans (b5.mono B4.out.size))
    clear b5 SM B4
    go_wp2_with fail
    refine (awake10 _).mono ?_
    rintro e w6 ⟨rfl, b6⟩
    have B6 := Lib.hid (B5.out.trans (b6.mono B5.out.size))
    clear b6 B5
    go_wp2_with fail
    go_returns
    exact ⟨rfl, B6.out⟩
end Go.Proofs.Ytanpefjbmpohdaa
