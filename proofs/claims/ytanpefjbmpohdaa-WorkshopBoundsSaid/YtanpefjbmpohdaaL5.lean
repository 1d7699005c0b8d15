/- The law WorkshopBounds. -/
import Derived.Test.YtanpefjbmpohdaaL1
namespace Go.Proofs.Ytanpefjbmpohdaa
open Go.RowKit Go.ChangeShapes Go.WideShapes Go.Deep
set_option linter.unusedVariables false
set_option linter.unusedSimpArgs false
set_option maxHeartbeats 4000000 in
theorem run_workshopBounds {H : Type} {enc : TypeId × Value → H} (W : World) (base : Nat) (v0 : Value) (d0 : DataW H) (p0 : List MemPlace) (hv0 : Value.okWide Try.prog W .any base 22 v0) (h0 : DataW.Trod enc Try.prog W 0 (fun _ => true) true 22 v0 d0 p0)
    (v1 : Value) (d1 : DataW H) (p1 : List MemPlace) (hv1 : Value.okWide Try.prog W .any base 23 v1) (h1 : DataW.Trod enc Try.prog W 0 (fun _ => true) true 23 v1 d1 p1) :
    Calls Try.prog 5 #[v0, v1] W fun e w' => e = .returned (.bool true) ∧ Below W.heap.size W w' := by
  obtain ⟨ao, m, c, J, rfl, hj, _⟩ := open_jobs hv0 h0
  obtain ⟨am, k, c2, M, rfl, hm, _⟩ := open_mechs hv1 h1
  have q1 := hj.hm
  have q2 := hj.hc
  have q3 := hm.hm
  have q4 := hm.hc
  have S := Lib.hid hj
  have T := Lib.hid hm
  have FW := few9 ao am m c k c2 W q1 q2 q3 q4
  generalize fewB m k = f at *
  have HFW := Lib.hid FW
  clear hv0 h0 hv1 h1 hj hm FW
  go_enter Try.func5, Try.ntmps5
  go_wp2_with fail
  refine HFW.out.mono ?_
  rintro e w1 ⟨rfl, rfl⟩
  cases f
  · go_wp2_with fail
    refine (awake10 _).mono ?_
    rintro e w2 ⟨rfl, b2⟩
    have B2 := Lib.hid b2
    clear b2
    go_wp2_with fail
    go_returns
    exact ⟨rfl, B2.out⟩
  · have P1 := Lib.hid (bound20 ao am m c k c2 J M W S.out T.out)
    clear HFW
    go_wp2_with fail
    refine P1.out.mono ?_
    rintro e w1 ⟨rfl, b1⟩
    have B1 := Lib.hid b1
    have P2 := Lib.hid (bound21 ao am m c k c2 J M w1 (S.out.below b1) (T.out.below b1))
    unfold Bnd at P2
    clear b1 P1 S T
    generalize (if chkE m J k M = 0 then bndV m J k M else 0) = bv at *
    generalize chkE m J k M = ce at *
    have tce : (ce == ce) = true := by simp
    have tbv : (bv == bv) = true := by simp
    go_wp2_with fail
    refine P2.out.mono ?_
    rintro e w2 ⟨rfl, b2⟩
    have B2 := Lib.hid (B1.out.trans (b2.mono B1.out.size))
    clear b2 P2 B1
    go_wp2_with fail
    refine (awake10 _).mono ?_
    rintro e w6 ⟨rfl, b6⟩
    have B6 := Lib.hid (B2.out.trans (b6.mono B2.out.size))
    clear b6 B2
    go_wp2_with fail
    go_returns
    exact ⟨rfl, B6.out⟩
end Go.Proofs.Ytanpefjbmpohdaa
