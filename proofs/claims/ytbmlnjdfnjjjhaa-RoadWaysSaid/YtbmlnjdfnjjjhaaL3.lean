/- The law RoadWays. -/
import Derived.Test.YtbmlnjdfnjjjhaaL0
namespace Go.Proofs.Ytbmlnjdfnjjjhaa
open Go.RowKit Go.ChangeShapes Go.WideShapes Go.Deep
set_option linter.unusedVariables false
set_option linter.unusedSimpArgs false
open Rd
set_option maxHeartbeats 4000000 in
theorem run_roadWays {H : Type} {enc : TypeId × Value → H} (W : World) (base : Nat) (v0 : Value) (d0 : DataW H) (p0 : List MemPlace) (hv0 : Value.okWide Try.prog W .any base 24 v0) (h0 : DataW.Trod enc Try.prog W 0 (fun _ => true) true 24 v0 d0 p0)
    (v1 : Value) (d1 : DataW H) (p1 : List MemPlace) (hv1 : Value.okWide Try.prog W .any base 3 v1) (h1 : DataW.Trod enc Try.prog W 0 (fun _ => true) true 3 v1 d1 p1)
    (v2 : Value) (d2 : DataW H) (p2 : List MemPlace) (hv2 : Value.okWide Try.prog W .any base 3 v2) (h2 : DataW.Trod enc Try.prog W 0 (fun _ => true) true 3 v2 d2 p2) :
    Calls Try.prog 5 #[v0, v1, v2] W fun e w' => e = .returned (.bool true) ∧ Below W.heap.size W w' := by
  obtain ⟨N, ao, m, c, E, rfl, _, hn, _⟩ := open_road hv0 h0
  obtain ⟨src, rfl, rfl, rfl, _⟩ := open_int Try.underlying3 hv1 h1
  obtain ⟨dst, rfl, rfl, rfl, _⟩ := open_int Try.underlying3 hv2 h2
  clear hv0 h0 hv1 h1 hv2 h2
  obtain ⟨w0, hw0⟩ : ∃ w0, w0 = W.alloc (.cells #[.int .i64 N, .slice ao m c] 24) := ⟨_, rfl⟩
  have b0 : Below W.heap.size W w0 := by rw [hw0]; exact (Below.refl _ _).alloc (Nat.le_refl _) _
  have x0 : w0.heap[W.heap.size]? = some (.cells #[.int .i64 N, .slice ao m c] 24) := by rw [hw0]; exact heap_alloc_new W _
  have r0 : w0.cell? ⟨W.heap.size, 0, none⟩ = some (.int .i64 N) := cell_at x0 0
  have r1 : w0.cell? ⟨W.heap.size, 1, none⟩ = some (.slice ao m c) := cell_at x0 1
  have B0 := Lib.hid b0
  have HW := Lib.hid hw0
  have n0 := Lib.hid (hn.below b0)
  have FW := few9 N ao m c w0 hn.hm hn.hc
  obtain ⟨f, hf⟩ : ∃ f, f = decide (m ≤ 60 ∨ (512 < m ∧ m ≤ 600)) := ⟨_, rfl⟩
  rw [← hf] at FW
  have HFW := Lib.hid FW
  clear hn b0 x0 hw0 FW hf
  go_enter Try.func5, Try.ntmps5
  go_wp2_with fail
  rw [← HW.out]
  clear HW
  refine HFW.out.mono ?_
  rintro e w1 ⟨rfl, b1⟩
  have d0 := cell_kept b1 r0
  have d1 := cell_kept b1 r1
  have zd := szs (cell_lt d0)
  dsimp only at zd
  have B1 := Lib.hid (B0.out.trans (b1.mono B0.out.size))
  have n1 := Lib.hid (n0.out.below b1)
  clear b1 r0 r1
  cases f
  · go_wp2_with fail
    refine (awake10 _).mono ?_
    rintro e w2 ⟨rfl, b2⟩
    have B2 := Lib.hid (B1.out.trans (b2.mono B1.out.size))
    clear b2
    go_wp2_with fail
    go_returns
    exact ⟨rfl, B2.out⟩
  · have T1 := Lib.hid (way19 N ao m c E src dst w1 n1.out)
    go_wp2_with fail
    refine T1.out.mono ?_
    rintro e w2 hT
    obtain ⟨a1, c1, rfl, u1, x1, i1, b2⟩ := hT.val
    have e0 := cell_kept b2 d0
    have e1 := cell_kept b2 d1
    have ze := szs (cell_lt e0)
    dsimp only at ze
    have B2 := Lib.hid (B1.out.trans (b2.mono B1.out.size))
    have n2 := Lib.hid (n1.out.below b2)
    have I1 := Lib.hid i1
    have T2 := Lib.hid (way20 N ao m c E src dst w2 n2.out)
    clear b2 d0 d1 zd i1 hT
    go_wp2_with fail
    refine T2.out.mono ?_
    rintro e w3 hT
    obtain ⟨a2, c2, rfl, u2, x2, i2, b3⟩ := hT.val
    have g0 := cell_kept b3 e0
    have g1 := cell_kept b3 e1
    have zg := szs (cell_lt g0)
    dsimp only at zg
    have B3 := Lib.hid (B2.out.trans (b3.mono B2.out.size))
    have n3 := Lib.hid (n2.out.below b3)
    have I3 := Lib.hid (And.intro (I1.out.below b3) i2)
    clear b3 e0 e1 ze i2 hT
    have SM := Lib.hid (same15 w3 _ _ _ _ _ _ I3.out.1 I3.out.2 u1 u2 x1 x2)
    have h64 : (wayV N m E src dst).1.length ≤ 9223372036854775807 := by omega
    generalize (wayV N m E src dst).1.length = tn at *
    generalize (wayV N m E src dst).2 = te at *
    clear g0 g1 zg
    go_wp2_with fail
    refine SM.out.mono ?_
    rintro e w4 ⟨rfl, b4⟩
    have B4 := Lib.hid (B3.out.trans (b4.mono B3.out.size))
    clear b4
    go_wp2_with fail
    refine (awake10 _).mono ?_
    rintro e w5 ⟨rfl, b5⟩
    have B5 := Lib.hid (B4.out.trans (b5.mono B4.out.size))
    clear b5
    go_wp2_with fail
    go_returns
    exact ⟨rfl, B5.out⟩
end Go.Proofs.Ytbmlnjdfnjjjhaa
