/- Crew's reference: travel times, equal routes. -/
import Derived.Test.YtlnfhlmgnppcbaaGreatRFA
import Derived.Test.YtlnfhlmgnppcbaaGreatCTA
import Derived.BigQuiet
import Derived.BigRegion
namespace Go.Proofs.YtlnfhlmgnppcbaaGreat
open Go.RowKit Go.ChangeShapes Go.WideShapes Go.Deep
set_option linter.unusedVariables false
set_option linter.unusedSimpArgs false
set_option maxRecDepth 8000
open Rd
set_option maxHeartbeats 4000000 in
theorem secs55 {g : Ng} {n : Nat} (h : NOk g n) (hr : roadE g.N g.em g.E = 0) (w : World) (hg : g.In w) {a b : Int} (ha : 0 ≤ a ∧ a < n) (hb : 0 ≤ b ∧ b < n) :
    Calls Tryz.prog 55 #[.agg g.cells, .int .i64 a, .int .i64 b] w fun e w' => e = .returned (.int .i64 (g.S a b)) ∧ Below w.heap.size w w' := by
  have BB : Hid (Below w.heap.size w (w.alloc (.cells g.cells 32))) := Lib.hid (by (repeat' (first | (with_reducible exact Below.refl _ _) | (with_reducible assumption) | (with_reducible refine Below.drew ?_) | (with_reducible refine below_drewN ?_ _) | (with_reducible refine Below.alloc ?_ ?_ _) | (with_reducible refine Below.setCell ?_ ?_ _) | go_size)))
  have X0 := Lib.hid (al_at w (.cells g.cells 32) rfl)
  obtain ⟨w1, hw1⟩ : ∃ w1, w1 = w.alloc (.cells g.cells 32) := ⟨_, rfl⟩
  rw [← hw1] at BB X0
  have HW1 := Lib.hid hw1
  have TI := Lib.hid (timesR_ok h hr w1 (hg.below BB.out).net ha)
  have HCC : Hid (g.cells = #[.int .i64 g.N, .slice g.ea g.em g.ec, .slice g.ta g.tn g.tc, .slice g.na g.nn g.nc, .int .i64 g.h]) := Lib.hid rfl
  rw [HCC.out] at X0 HW1 ⊢
  have n0 := cell_at X0.out 0
  have n1 := cell_at X0.out 1
  try dsimp only at n0 n1
  have zn := szs (cell_lt n0)
  have h16 : n ≤ 9223372036854775807 := by have := h.right.n2; omega
  obtain ⟨m, rfl⟩ := Int.eq_ofNat_of_zero_le hb.1
  have hm : m < n := by omega
  have tm : (m : Int) < (n : Int) := by omega
  clear hw1 hg h hr hb
  go_enter Tryz.func55, Tryz.ntmps55
  go_wp2_with fail
  rw [← HW1.out]
  go_wp2_with fail
  refine TI.out.mono ?_
  rintro e w2 ⟨t, rfl, hN, b2⟩
  have c0 := hN.cell hm
  have zt := szs (cell_lt c0)
  dsimp only at zt
  have B2 := Lib.hid (BB.out.trans (b2.mono BB.out.size))
  clear TI hN b2 n0 n1 zn
  go_wp2_with fail
  go_returns
  exact ⟨rfl, B2.out⟩
set_option maxHeartbeats 4000000 in
theorem sameRoute25 (r : Int) (a1 a2 : Option Addr) (n c1 c2 : Nat) (V1 V2 : Nat → Int) (w : World) (h1 : Sl w 1 a1 n c1 (nf V1)) (h2 : Sl w 1 a2 n c2 (nf V2)) (he : ∀ i, i < n → V1 i = V2 i) :
    Calls Tryz.prog 25 #[.agg #[.int .i64 r, .slice a1 n c1], .agg #[.int .i64 r, .slice a2 n c2]] w fun e w' => e = .returned (.bool true) ∧ Below w.heap.size w w' := by
  have m1 := h1.hm
  have m2 := h2.hm
  have k1 := h1.hc
  have k2 := h2.hc
  have BB : Hid (Below w.heap.size w ((w.alloc (.cells #[.int .i64 r, .slice a1 n c1] 51)).alloc (.cells #[.int .i64 r, .slice a2 n c2] 51))) := Lib.hid (by (repeat' (first | (with_reducible exact Below.refl _ _) | (with_reducible assumption) | (with_reducible refine Below.drew ?_) | (with_reducible refine below_drewN ?_ _) | (with_reducible refine Below.alloc ?_ ?_ _) | (with_reducible refine Below.setCell ?_ ?_ _) | go_size)))
  have X0 := Lib.hid (al_keep (al_at w (.cells #[.int .i64 r, .slice a1 n c1] 51) rfl) (.cells #[.int .i64 r, .slice a2 n c2] 51))
  have X1 := Lib.hid (al_at (w.alloc (.cells #[.int .i64 r, .slice a1 n c1] 51)) (.cells #[.int .i64 r, .slice a2 n c2] 51) (k := w.heap.size + 1) (by simp))
  obtain ⟨w1, hw1⟩ : ∃ w1, w1 = (w.alloc (.cells #[.int .i64 r, .slice a1 n c1] 51)).alloc (.cells #[.int .i64 r, .slice a2 n c2] 51) := ⟨_, rfl⟩
  rw [← hw1] at BB X0 X1
  have HW1 := Lib.hid hw1
  have H1 := Lib.hid (h1.below BB.out)
  have H2 := Lib.hid (h2.below BB.out)
  have HE := Lib.hid he
  clear h1 h2 he hw1
  have n0 := cell_at X0.out 0
  have n1 := cell_at X0.out 1
  have o0 := cell_at X1.out 0
  have o1 := cell_at X1.out 1
  try dsimp only at n0 n1 o0 o1
  have zn := szs (cell_lt n0)
  have zo := szs (cell_lt o0)
  dsimp only at zn zo
  have tn : ((n : Int) != (n : Int)) = false := by simp
  go_enter Tryz.func25, Tryz.ntmps25
  go_wp2_with fail
  rw [← HW1.out]
  go_wp2_with fail
  clear n0 n1 o0 o1 zn zo
  go_loopw [5] (fun s5 wr => ∃ j : Nat, s5 = .int .i64 j ∧ j ≤ n ∧ Hid (Below w1.heap.size w1 wr)) (fun s5 _ => n - (intOf s5).toNat)
  case atStart => exact ⟨0, rfl, by omega, Lib.hid (Below.refl _ _)⟩
  case round =>
    obtain ⟨j, rfl, hj, hrel⟩ := hrel
    have HR := hrel
    clear hrel
    by_cases hlt : j < n
    · have tj : (j : Int) < (n : Int) := by omega
      obtain ⟨g, o, rfl, hg, x0⟩ := (H1.out.below HR.out).num hlt
      obtain ⟨g2, o2, rfl, hg2, y0⟩ := (H2.out.below HR.out).num hlt
      have zg := szs hg
      have zg2 := szs hg2
      rw [← HE.out j hlt] at y0
      generalize V1 j = x at *
      have n0 := cell_kept HR.out (cell_at X0.out 0)
      have n1 := cell_kept HR.out (cell_at X0.out 1)
      have o0 := cell_kept HR.out (cell_at X1.out 0)
      have o1 := cell_kept HR.out (cell_at X1.out 1)
      try dsimp only at n0 n1 o0 o1
      have zn := szs (cell_lt n0)
      have zo := szs (cell_lt o0)
      dsimp only at zn zo
      go_wp2_with fail
      (refine region_all (fun i : Nat => World.drewN _ i) mixed (by kernel_rfl) ⟨1, rfl⟩ ?_; (repeat (any_goals (first | go_big_quiet_step (fail) | quiet_step (fail) | (refine wpQuiet_step (fun K hK => ?_); go_simp; split <;> (refine hK _ ?_; clear hK K))))); (all_goals (refine wpQuiet_nil (fun nq => ?_))))
      go_wp2_with fail
      go_roundw
      case rel => exact ⟨j + 1, by go_num, by omega, Lib.hid (below_drewN HR.out _)⟩
      case measure => simp [intOf]; omega
    · obtain rfl : j = n := by omega
      have n0 := cell_kept HR.out (cell_at X0.out 0)
      have n1 := cell_kept HR.out (cell_at X0.out 1)
      try dsimp only at n0 n1
      have zn := szs (cell_lt n0)
      dsimp only at zn
      go_wp2_with fail
      go_returns
      exact ⟨rfl, BB.out.trans (HR.out.mono BB.out.size)⟩
end Go.Proofs.YtlnfhlmgnppcbaaGreat
