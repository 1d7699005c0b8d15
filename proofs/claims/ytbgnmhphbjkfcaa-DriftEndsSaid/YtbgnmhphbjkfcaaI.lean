/- The laws DriftBounds and DriftExact walked. -/
import Derived.Test.YtbgnmhphbjkfcaaH
namespace Go.Proofs.Ytbgnmhphbjkfcaa
open Go.RowKit Go.ChangeShapes Go.WideShapes Go.Deep
set_option linter.unusedVariables false
set_option linter.unusedSimpArgs false

theorem boundsV_form (len : Nat) (L : Nat → Sy) (p t : Int) : ∃ x y z : Int, boundsV len L p t = .tuple #[.agg #[.int .i64 x, .int .i64 y], .int .i64 z] := by
  unfold boundsV; split
  · exact ⟨_, _, _, rfl⟩
  split
  · exact ⟨_, _, _, rfl⟩
  split
  · exact ⟨_, _, _, rfl⟩
  · exact ⟨_, _, _, rfl⟩

set_option maxHeartbeats 1000000 in
theorem run_driftBounds {H : Type} {enc : TypeId × Value → H} (W : World) (base : Nat) (v0 : Value) (d0 : DataW H) (p0 : List MemPlace) (hv0 : Value.okWide Try.prog W .any base 29 v0) (h0 : DataW.Trod enc Try.prog W 0 (fun _ => true) true 29 v0 d0 p0)
    (v1 : Value) (d1 : DataW H) (p1 : List MemPlace) (hv1 : Value.okWide Try.prog W .any base 3 v1) (h1 : DataW.Trod enc Try.prog W 0 (fun _ => true) true 3 v1 d1 p1)
    (v2 : Value) (d2 : DataW H) (p2 : List MemPlace) (hv2 : Value.okWide Try.prog W .any base 3 v2) (h2 : DataW.Trod enc Try.prog W 0 (fun _ => true) true 3 v2 d2 p2) :
    Calls Try.prog 4 #[v0, v1, v2] W fun e w' => e = .returned (.bool true) ∧ Below W.heap.size W w' := by
  obtain ⟨a, len, cap, L, rfl, hl, hm, hS, _⟩ := open_sync hv0 h0
  obtain ⟨p, rfl, rfl, rfl, _⟩ := open_int Try.underlying3 hv1 h1
  obtain ⟨t, rfl, rfl, rfl, _⟩ := open_int Try.underlying3 hv2 h2
  clear hv0 hv1 h0 h1 hv2 h2
  by_cases hbig : 100 < len
  · clear hS
    go_enter Try.func4, Try.ntmps4
    go_wp2_with (go_at_call 12; refine (awake12 _).mono ?_; rintro e w3 ⟨rfl, hb3⟩)
    go_returns
    exact ⟨rfl, hb3⟩
  have k1 : decide ((100 : Int) < (len : Int)) = false := by simp; omega
  obtain ⟨x, y, z, E⟩ := boundsV_form len L p t
  have C := fun w h => bounds13 a len cap L p t w hl hm h
  have D := fun w h => bounds14 a len cap L p t w hl hm h
  have F := fun w h => check15 a len cap L w hl hm h
  have G := fun w h => check16 a len cap L w hl hm h
  rw [E] at C D
  clear E
  generalize checkE len L = q at *
  have HS := Lib.hid hS
  clear hS
  go_enter Try.func4, Try.ntmps4
  go_wp2_with fail
  refine (C _ HS.out).mono ?_
  rintro e w1 ⟨rfl, hb1⟩
  have HS1 := Lib.hid ((HS.out.kept hb1).kept ((Below.refl _ _).alloc (Nat.le_refl _) (.cells #[.int .i64 x, .int .i64 y] 23)))
  go_wp2_with fail
  refine (D _ HS1.out).mono ?_
  rintro e w2 ⟨rfl, hb2⟩
  have x0 : w2.cell? ⟨w1.heap.size, 0, none⟩ = some (.int .i64 x) := cell_kept hb2 (by simp [go_sem])
  have x1 : w2.cell? ⟨w1.heap.size, 1, none⟩ = some (.int .i64 y) := cell_kept hb2 (by simp [go_sem])
  have HB : Below W.heap.size W w2 := (hb1.alloc hb1.size _).trans (hb2.mono (by have := hb1.size; go_size))
  have HS2 := Lib.hid ((HS1.out.kept hb2).kept ((Below.refl _ _).alloc (Nat.le_refl _) (.cells #[.int .i64 x, .int .i64 y] 23)))
  clear hb1 hb2 C D HS HS1
  go_wp2_with fail
  refine (F _ HS2.out).mono ?_
  rintro e w3 ⟨rfl, hb3⟩
  have x2 := cell_kept hb3 (cell_kept ((Below.refl _ _).alloc (Nat.le_refl _) (.cells #[.int .i64 x, .int .i64 y] 23)) x0)
  have x3 := cell_kept hb3 (cell_kept ((Below.refl _ _).alloc (Nat.le_refl _) (.cells #[.int .i64 x, .int .i64 y] 23)) x1)
  have y2 : w3.cell? ⟨w2.heap.size, 0, none⟩ = some (.int .i64 x) := cell_kept hb3 (by simp [go_sem])
  have y3 : w3.cell? ⟨w2.heap.size, 1, none⟩ = some (.int .i64 y) := cell_kept hb3 (by simp [go_sem])
  have HB3 : Below W.heap.size W w3 := (HB.alloc HB.size _).trans (hb3.mono (by have := HB.size; go_size))
  have HS3 := Lib.hid (HS2.out.kept hb3)
  clear hb3 HS2 HB x0 x1 F
  go_wp2_with fail
  refine (G _ HS3.out).mono ?_
  rintro e w4 ⟨rfl, hb4⟩
  have x4 := cell_kept hb4 x2
  have x5 := cell_kept hb4 x3
  have y4 := cell_kept hb4 y2
  have y5 := cell_kept hb4 y3
  have HB4 : Below W.heap.size W w4 := HB3.trans (hb4.mono HB3.size)
  clear hb4 HS3 HB3 x2 x3 y2 y3 G
  go_wp2_with (go_at_call 12; refine (awake12 _).mono ?_; rintro e w5 ⟨rfl, hb5⟩)
  go_returns
  exact ⟨rfl, HB4.trans (hb5.mono HB4.size)⟩

theorem ex_lo (s p : Int) (h2 : 0 ≤ p) (h3 : p ≤ 100000) : (1000000 + p) * elLo s p ≤ s * 1000000 ∧ s * 1000000 < (1000000 + p) * elLo s p + 1000000 + p := by
  unfold elLo
  have h := Int.mul_ediv_add_emod (s * 1000000) (1000000 + p)
  have h0 := Int.emod_nonneg (s * 1000000) (show (1000000 + p) ≠ 0 by omega)
  have h1 := Int.emod_lt_of_pos (s * 1000000) (show 0 < 1000000 + p by omega)
  omega
theorem ex_hi (s p : Int) (h2 : 0 ≤ p) (h3 : p ≤ 100000) : s * 1000000 ≤ (1000000 - p) * elHi s p ∧ (1000000 - p) * elHi s p - 1000000 + p < s * 1000000 := by
  unfold elHi
  have h := Int.mul_ediv_add_emod (s * 1000000 + (1000000 - p) - 1) (1000000 - p)
  have h0 := Int.emod_nonneg (s * 1000000 + (1000000 - p) - 1) (show (1000000 - p) ≠ 0 by omega)
  have h1 := Int.emod_lt_of_pos (s * 1000000 + (1000000 - p) - 1) (show 0 < 1000000 - p by omega)
  omega

set_option maxHeartbeats 1000000 in
theorem run_driftExact {H : Type} {enc : TypeId × Value → H} (W : World) (base : Nat) (v0 : Value) (d0 : DataW H) (p0 : List MemPlace) (hv0 : Value.okWide Try.prog W .any base 3 v0) (h0 : DataW.Trod enc Try.prog W 0 (fun _ => true) true 3 v0 d0 p0)
    (v1 : Value) (d1 : DataW H) (p1 : List MemPlace) (hv1 : Value.okWide Try.prog W .any base 3 v1) (h1 : DataW.Trod enc Try.prog W 0 (fun _ => true) true 3 v1 d1 p1) :
    Calls Try.prog 6 #[v0, v1] W fun e w' => e = .returned (.bool true) ∧ Below W.heap.size W w' := by
  obtain ⟨s, rfl, rfl, rfl, _⟩ := open_int Try.underlying3 hv0 h0
  obtain ⟨p, rfl, rfl, rfl, _⟩ := open_int Try.underlying3 hv1 h1
  clear hv0 hv1 h0 h1
  have C := fun w => elapsed10 s p w
  by_cases hok : isMom s = true ∧ isRate p = true
  · have E : elapsedV s p = .tuple #[.agg #[.int .i64 (elLo s p), .int .i64 (elHi s p)], .int .i64 0] := by rw [elapsedV, if_pos hok]
    rw [E] at C
    clear E
    obtain ⟨g1, g2⟩ := hok
    obtain ⟨s0, s1⟩ := isMom_iff.1 g1
    obtain ⟨q0, q1⟩ := isRate_iff.1 g2
    obtain ⟨b0, b1, b2, b3⟩ := el_bd s p s0 s1 q0 q1
    obtain ⟨l0, l1⟩ := ex_lo s p q0 q1
    obtain ⟨u0, u1⟩ := ex_hi s p q0 q1
    have m1 := mul_bd (x := elLo s p) (y := 1000000 + p) (by omega) (by omega) (by omega) (by omega)
    generalize elLo s p = lo at *
    generalize elHi s p = hi at *
    have m2 : (1000000 - p) * hi ≤ 9448876797800000 := by
      have h1 : (1000000 - p) * hi ≤ 1100000 * hi := Int.mul_le_mul_of_nonneg_right (by omega) (by omega)
      omega
    have m3 : 0 ≤ (1000000 - p) * hi := Int.mul_nonneg (by omega) (by omega)
    have m4 : 0 ≤ (1000000 + p) * lo := Int.mul_nonneg (by omega) (by omega)
    have m5 : (1000000 + p) * lo ≤ 4724438398900000 := by rw [Int.mul_comm]; exact m1.2
    clear m1
    go_enter Try.func6, Try.ntmps6
    go_wp2_with fail
    refine (C _).mono ?_
    rintro e w1 ⟨rfl, hb1⟩
    go_wp2_with (go_at_call 17; refine (moment17 _ _).mono ?_; rintro e w' ⟨rfl, rfl⟩)
    go_region
    go_wp2_with (go_at_call 12; refine (awake12 _).mono ?_; rintro e w5 ⟨rfl, hb5⟩)
    go_returns
    exact ⟨rfl, (hb1.alloc hb1.size _).trans (below_drewN (Below.refl _ _) 1 |>.trans (hb5.mono (by have := hb1.size; go_size)))⟩
  · have E : elapsedV s p = .tuple #[.agg #[.int .i64 0, .int .i64 0], .int .i64 1] := by rw [elapsedV, if_neg hok]
    rw [E] at C
    clear E
    have g : isMom s = false ∨ (isMom s = true ∧ p < 0) ∨ (isMom s = true ∧ ¬ p < 0 ∧ 100000 < p) := by
      cases h1 : isMom s
      · simp
      · simp [h1] at hok ⊢
        have := isRate_no.1 hok
        omega
    clear hok
    rcases g with g1 | ⟨g1, g2⟩ | ⟨g1, g2, g3⟩
    all_goals
      go_enter Try.func6, Try.ntmps6
      go_wp2_with fail
      refine (C _).mono ?_
      rintro e w1 ⟨rfl, hb1⟩
      go_wp2_with (first | (go_at_call 17; refine (moment17 _ _).mono ?_; rintro e w' ⟨rfl, rfl⟩) | (go_at_call 12; refine (awake12 _).mono ?_; rintro e w5 ⟨rfl, hb5⟩))
      go_returns
      exact ⟨rfl, (hb1.alloc hb1.size _).trans (hb5.mono (by have := hb1.size; go_size))⟩
end Go.Proofs.Ytbgnmhphbjkfcaa
