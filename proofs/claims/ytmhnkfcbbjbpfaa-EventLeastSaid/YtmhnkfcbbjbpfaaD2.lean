/- The order of events, as the reference compares them. -/
import Derived.Test.YtmhnkfcbbjbpfaaD
namespace Go.Proofs.Ytmhnkfcbbjbpfaa
open Go.RowKit Go.ChangeShapes Go.WideShapes Go.Deep
set_option linter.unusedVariables false
set_option linter.unusedSimpArgs false
set_option maxHeartbeats 4000000 in
theorem less20 (v u : Ev) (w : World) : Calls Try.prog 20 #[.agg (eC v), .agg (eC u)] w fun e w' => e = .returned (.bool (ltE v u)) ∧ Grew w w' := by
  have hE : cmpE v u = cmpL ((keyE v).drop 0) ((keyE u).drop 0) := rfl
  have HE := Lib.hid hE
  have KD := Lib.hid (fun (j : Nat) (hj : j < 9) => cmpL_drop v u hj)
  have KV := Lib.hid (fun (j : Nat) (hj : j < 9) => kC_get v hj)
  have KU := Lib.hid (fun (j : Nat) (hj : j < 9) => kC_get u hj)
  obtain ⟨r, hr⟩ : ∃ r, r = cmpE v u := ⟨_, rfl⟩
  rw [← hr] at HE
  have HL : Hid (ltE v u = decide (r < 0)) := Lib.hid (by rw [hr]; rfl)
  obtain ⟨lb, hlb⟩ : ∃ lb, lb = ltE v u := ⟨_, rfl⟩
  rw [← hlb] at HL ⊢
  obtain ⟨kv, hkv⟩ : ∃ kv : Nat → Int, kv = fun j => (keyE v).getD j 0 := ⟨_, rfl⟩
  obtain ⟨ku, hku⟩ : ∃ ku : Nat → Int, ku = fun j => (keyE u).getD j 0 := ⟨_, rfl⟩
  have HKV := Lib.hid hkv
  have HKU := Lib.hid hku
  unfold eC
  clear hE hr hkv hku hlb
  obtain ⟨v1, v2, v3, v4, v5, v6, v7, v8, v9⟩ := v
  obtain ⟨n1, n2, n3, n4, n5, n6, n7, n8, n9⟩ := u
  dsimp only
  go_enter Try.func20, Try.ntmps20
  go_wp2_with fail
  obtain ⟨wb, hwb⟩ : ∃ wb, wb = ((w.alloc (.cells #[.int .i64 v1, .int .i64 v2, .int .i64 v3, .int .i64 v4, .int .i64 v5, .int .i64 v6, .int .i64 v7, .int .i64 v8, .int .i64 v9] 26)).alloc (.cells #[.int .i64 n1, .int .i64 n2, .int .i64 n3, .int .i64 n4, .int .i64 n5, .int .i64 n6, .int .i64 n7, .int .i64 n8, .int .i64 n9] 26)) := ⟨_, rfl⟩
  obtain ⟨wc, hwc⟩ : ∃ wc, wc = wb.alloc (.cells #[.int .i64 v3, .int .i64 v1, .int .i64 v2, .int .i64 v4, .int .i64 v5, .int .i64 v6, .int .i64 v7, .int .i64 v8, .int .i64 v9] 3) := ⟨_, rfl⟩
  obtain ⟨wd, hwd⟩ : ∃ wd, wd = wc.alloc (.cells #[.int .i64 n3, .int .i64 n1, .int .i64 n2, .int .i64 n4, .int .i64 n5, .int .i64 n6, .int .i64 n7, .int .i64 n8, .int .i64 n9] 3) := ⟨_, rfl⟩
  rw [← hwb, ← hwc, ← hwd]
  have hz2 : wb.heap.size = w.heap.size + 2 := by rw [hwb]; simp
  have hz3 : wc.heap.size = w.heap.size + 3 := by rw [hwc]; simp [hz2]
  have x1 : wc.heap[w.heap.size + 2]? = some (.cells (kC ⟨v1, v2, v3, v4, v5, v6, v7, v8, v9⟩) 3) := by rw [hwc, ← hz2]; exact heap_alloc_new wb _
  have x2 : wd.heap[w.heap.size + 3]? = some (.cells (kC ⟨n1, n2, n3, n4, n5, n6, n7, n8, n9⟩) 3) := by rw [hwd, ← hz3]; exact heap_alloc_new wc _
  have bcd : Below wc.heap.size wc wd := by rw [hwd]; exact (Below.refl _ _).alloc (Nat.le_refl _) _
  have X1 := Lib.hid ((bcd.block _ (block_lt x1)).trans x1)
  have X2 := Lib.hid x2
  have G0 : Hid (Grew w wd) := Lib.hid (by rw [hwd, hwc, hwb]; (repeat' (first | (with_reducible exact Grew.refl _) | (with_reducible assumption) | (with_reducible refine Grew.drew ?_) | (with_reducible refine Grew.drewN ?_ _) | (with_reducible refine Grew.alloc ?_ _))))
  clear hwb hwc hwd hz2 hz3 x1 x2 bcd
  go_loopw [7] (fun i wr => ∃ j : Nat, i = .int .i64 j ∧ j ≤ 9 ∧ Hid (r = cmpL ((keyE ⟨v1, v2, v3, v4, v5, v6, v7, v8, v9⟩).drop j) ((keyE ⟨n1, n2, n3, n4, n5, n6, n7, n8, n9⟩).drop j) ∧ Grew wd wr)) (fun i _ => 9 - (intOf i).toNat)
  case atStart => exact ⟨0, rfl, by omega, Lib.hid ⟨HE.out, Grew.refl _⟩⟩
  case round =>
    obtain ⟨j, rfl, hj, hrel⟩ := hrel
    have GR := Lib.hid (G0.out.trans hrel.out.2)
    by_cases hlt : j < 9
    · have tj : (j : Int) < 9 := by omega
      have y1 := (hrel.out.2.1.block _ (block_lt X1.out)).trans X1.out
      have y2 := (hrel.out.2.1.block _ (block_lt X2.out)).trans X2.out
      have ca := (cell_at y1 j).trans (KV.out j hlt)
      have cb := (cell_at y2 j).trans (KU.out j hlt)
      have kd := KD.out j hlt
      have z1 := szs (block_lt y1)
      have z2 := szs (block_lt y2)
      obtain ⟨x, hx⟩ : ∃ x, x = (keyE ⟨v1, v2, v3, v4, v5, v6, v7, v8, v9⟩).getD j 0 := ⟨_, rfl⟩
      obtain ⟨y, hy⟩ : ∃ y, y = (keyE ⟨n1, n2, n3, n4, n5, n6, n7, n8, n9⟩).getD j 0 := ⟨_, rfl⟩
      rw [← hx] at ca kd
      rw [← hy] at cb kd
      have hr := hrel.out.1
      rw [kd] at hr
      have HR := Lib.hid hr
      have HG := Lib.hid hrel.out.2
      clear hrel y1 y2 kd hx hy hr
      obtain ⟨wo, rfl⟩ : ∃ wo : World, wo = wr := ⟨_, rfl⟩
      by_cases he : x = y
      · have t : (x != y) = false := by simp [he]
        have hh := HR.out
        rw [if_pos (by simp [cmp1, he])] at hh
        have HR2 := Lib.hid hh
        clear he HR hh
        go_wp2_with fail
        (refine region_all (fun i : Nat => World.drewN _ i) mixed (by kernel_rfl) ⟨1, rfl⟩ ?_; (repeat (any_goals (first | go_big_quiet_step (fail) | quiet_step (fail) | (refine wpQuiet_step (fun K hK => ?_); go_simp; split <;> (refine hK _ ?_; clear hK K))))); (all_goals (refine wpQuiet_nil (fun nq => ?_))))
        go_wp2_with fail
        go_roundw
        case rel => exact ⟨j + 1, by go_num, by omega, Lib.hid ⟨HR2.out, HG.out.drewN nq⟩⟩
        case measure => simp [intOf]; omega
      · have t : (x != y) = true := by simp [he]
        have hh := HR.out
        have hc : ¬ cmp1 x y = 0 := by unfold cmp1; split; omega; split <;> omega
        rw [if_neg hc] at hh
        have HR2 : Hid (lb = decide (x < y)) := Lib.hid (by
          rw [HL.out, hh]
          unfold cmp1
          by_cases h1 : x < y
          · simp [h1]
          · by_cases h2 : y < x
            · simp [h1, h2]
            · omega)
        obtain ⟨b, hb⟩ : ∃ b, b = decide (x < y) := ⟨_, rfl⟩
        have hb' := hb.symm
        rw [← hb] at HR2
        clear he HR hh hc hb
        have wq : ∀ n, (wo.drewN n).drew.cell? ⟨w.heap.size + 2, j, none⟩ = some (.int .i64 x) := fun n => ca
        cases b
        all_goals
          go_wp2_with fail
          (focus (refine region_all (fun i : Nat => World.drewN _ i) mixed (by kernel_rfl) ⟨1, rfl⟩ ?_; (repeat (any_goals (first | go_big_quiet_step (fail) | quiet_step (fail) | (refine wpQuiet_step (fun K hK => ?_); go_simp; split <;> (refine hK _ ?_; clear hK K))))); (all_goals (refine wpQuiet_nil (fun nq => ?_)))))
          obtain ⟨w4, hw4⟩ : ∃ w4, w4 = wo.drewN nq := ⟨_, rfl⟩
          go_wp2_with fail
          rw [← hw4]
          have ca2 : w4.cell? ⟨w.heap.size + 2, j, none⟩ = some (.int .i64 x) := by rw [hw4]; exact ca
          have cb2 : w4.cell? ⟨w.heap.size + 3, j, none⟩ = some (.int .i64 y) := by rw [hw4]; exact cb
          have G4 : Hid (Grew w w4) := Lib.hid (by rw [hw4]; exact GR.out.drewN nq)
          clear hw4 wq
          (focus (refine region_all (fun i : Nat => World.drewN _ i) mixed (by kernel_rfl) ⟨1, rfl⟩ ?_; (repeat (any_goals (first | go_big_quiet_step (fail) | quiet_step (fail) | (refine wpQuiet_step (fun K hK => ?_); go_simp; split <;> (refine hK _ ?_; clear hK K))))); (all_goals (refine wpQuiet_nil (fun nq => ?_)))))
          go_wp2_with fail
          go_returns
          exact ⟨by rw [HR2.out]; rfl, G4.out.drewN _⟩
    · obtain rfl : j = 9 := by omega
      have HR2 : Hid (lb = false) := Lib.hid (by rw [HL.out, hrel.out.1]; rfl)
      clear hrel
      go_wp2_with fail
      go_returns
      exact ⟨by rw [HR2.out]; rfl, GR.out⟩
end Go.Proofs.Ytmhnkfcbbjbpfaa
