/- The test of an event's numbers, both sides. -/
import Derived.Test.YtlnfhlmgnppcbaaCR4
namespace Go.Proofs.Ytlnfhlmgnppcbaa
open Go.RowKit Go.ChangeShapes Go.WideShapes Go.Deep
set_option linter.unusedVariables false
set_option linter.unusedSimpArgs false
theorem eC_get (v : Ev) {j : Nat} (hj : j < 9) : (eC v)[j]? = some (.int .i64 ((nums v).getD j 0)) := by
  rcases (by omega : j = 0 ∨ j = 1 ∨ j = 2 ∨ j = 3 ∨ j = 4 ∨ j = 5 ∨ j = 6 ∨ j = 7 ∨ j = 8) with rfl | rfl | rfl | rfl | rfl | rfl | rfl | rfl | rfl <;> rfl
theorem framed_no {v : Ev} {j : Nat} (hj : j < 9) (h : okN ((nums v).getD j 0) = false) : framedB v = false := by
  cases e : framedB v with
  | false => rfl
  | true =>
    have hl : j < (nums v).length := hj
    have hm : (nums v).getD j 0 ∈ nums v := by rw [List.getD, List.getElem?_eq_getElem hl]; exact List.getElem_mem _
    rw [List.all_eq_true.1 e _ hm] at h
    cases h
theorem framed_yes {v : Ev} (h : ((nums v).take 9).all okN = true) : framedB v = true := h
theorem framed_more {v : Ev} {j : Nat} (hj : j < 9) (h1 : ((nums v).take j).all okN = true) (h2 : okN ((nums v).getD j 0) = true) : ((nums v).take (j + 1)).all okN = true := by
  rw [take_succ_get (l := nums v) hj, List.all_append, h1, List.all_cons, h2]
  rfl
set_option maxRecDepth 4000 in
set_option maxHeartbeats 4000000 in
theorem framed33 (v : Ev) (w : World) : Calls Try.prog 33 #[.agg (eC v)] w fun e w' => e = .returned (.bool (framedB v)) ∧ Below w.heap.size w w' := by
  have HG := Lib.hid (fun (j : Nat) (hj : j < 9) => eC_get v hj)
  have HN := Lib.hid (fun (j : Nat) (hj : j < 9) => framed_no (v := v) hj)
  have HY := Lib.hid (fun h => framed_yes (v := v) h)
  have HM := Lib.hid (fun (j : Nat) (hj : j < 9) => framed_more (v := v) hj)
  have BW : Hid (Below w.heap.size w ((w.alloc (.cells (eC v) 24)).alloc (.cells (eC v) 3))) := Lib.hid (by (repeat' (first | (with_reducible exact Below.refl _ _) | (with_reducible assumption) | (with_reducible refine Below.drew ?_) | (with_reducible refine below_drewN ?_ _) | (with_reducible refine Below.alloc ?_ ?_ _) | (with_reducible refine Below.setCell ?_ ?_ _) | go_size)))
  have HC : Hid (((w.alloc (.cells (eC v) 24)).alloc (.cells (eC v) 3)).heap[w.heap.size + 1]? = some (.cells (eC v) 3 (0, 0))) := Lib.hid (by
    have h := heap_alloc_new (w.alloc (.cells (eC v) 24)) (.cells (eC v) 3)
    rwa [show (w.alloc (.cells (eC v) 24)).heap.size = w.heap.size + 1 by simp] at h)
  obtain ⟨N, hN⟩ : ∃ N, N = nums v := ⟨_, rfl⟩
  obtain ⟨r, hr⟩ : ∃ r, r = framedB v := ⟨_, rfl⟩
  rw [← hN] at HG HN HY HM
  rw [← hr] at HN HY ⊢
  clear hN hr
  obtain ⟨v1, v2, v3, v4, v5, v6, v7, v8, v9⟩ := v
  unfold eC at *
  dsimp only at HG BW HC ⊢
  go_enter Try.func33, Try.ntmps33
  go_wp2_with fail
  generalize (World.alloc (World.alloc w _) _) = W at *
  generalize #[Value.int .i64 v1, .int .i64 v2, .int .i64 v3, .int .i64 v4, .int .i64 v5, .int .i64 v6, .int .i64 v7, .int .i64 v8, .int .i64 v9] = A at *
  go_loopw [25] (fun s25 wr => ∃ j : Nat, s25 = .int .i64 j ∧ j ≤ 9 ∧ wr = W ∧ Hid ((N.take j).all okN = true)) (fun s25 _ => 9 - (intOf s25).toNat)
  case atStart => exact ⟨0, rfl, by omega, rfl, Lib.hid rfl⟩
  case round =>
    obtain ⟨j, rfl, hj, rfl, hrel⟩ := hrel
    have HREL := hrel
    clear hrel
    by_cases hlt : j < 9
    · have tj : (j : Int) < 9 := by omega
      have cA := (cell_at HC.out j).trans (HG.out j hlt)
      have fA := free_at HC.out j
      have zA := szs (block_lt HC.out)
      have HN' := Lib.hid (HN.out j hlt)
      have HM' := Lib.hid (HM.out j hlt HREL.out)
      generalize N.getD j 0 = x at *
      by_cases x1 : x < -1125899906842624
      · have y := HN'.out (by simp [okN]; omega)
        go_wp2_with fail
        go_returns
        exact ⟨by simp [y], BW.out⟩
      · by_cases x2 : 1125899906842624 < x
        · have y := HN'.out (by simp [okN]; omega)
          have x1' : -1125899906842624 ≤ x := by omega
          go_wp2_with fail
          go_returns
          exact ⟨by simp [y], BW.out⟩
        · have HR := Lib.hid (HM'.out (by simp [okN]; omega))
          have x1' : -1125899906842624 ≤ x := by omega
          have x2' : x ≤ 1125899906842624 := by omega
          go_wp2_with fail
          go_roundw
          case rel => exact ⟨j + 1, by go_num, by omega, trivial, HR⟩
          case measure => simp [intOf]; omega
    · obtain rfl : j = 9 := by omega
      have y := HY.out HREL.out
      go_wp2_with fail
      go_returns
      exact ⟨by simp [y], BW.out⟩
set_option maxRecDepth 4000 in
set_option maxHeartbeats 4000000 in
theorem framed34 (v : Ev) (w : World) : Calls Try.prog 34 #[.agg (eC v)] w fun e w' => e = .returned (.bool (framedB v)) ∧ Below w.heap.size w w' := by
  have HG := Lib.hid (fun (j : Nat) (hj : j < 9) => eC_get v hj)
  have HN := Lib.hid (fun (j : Nat) (hj : j < 9) => framed_no (v := v) hj)
  have HY := Lib.hid (fun h => framed_yes (v := v) h)
  have HM := Lib.hid (fun (j : Nat) (hj : j < 9) => framed_more (v := v) hj)
  have BW : Hid (Below w.heap.size w ((w.alloc (.cells (eC v) 24)).alloc (.cells (eC v) 3))) := Lib.hid (by (repeat' (first | (with_reducible exact Below.refl _ _) | (with_reducible assumption) | (with_reducible refine Below.drew ?_) | (with_reducible refine below_drewN ?_ _) | (with_reducible refine Below.alloc ?_ ?_ _) | (with_reducible refine Below.setCell ?_ ?_ _) | go_size)))
  have HC : Hid (((w.alloc (.cells (eC v) 24)).alloc (.cells (eC v) 3)).heap[w.heap.size + 1]? = some (.cells (eC v) 3 (0, 0))) := Lib.hid (by
    have h := heap_alloc_new (w.alloc (.cells (eC v) 24)) (.cells (eC v) 3)
    rwa [show (w.alloc (.cells (eC v) 24)).heap.size = w.heap.size + 1 by simp] at h)
  obtain ⟨N, hN⟩ : ∃ N, N = nums v := ⟨_, rfl⟩
  obtain ⟨r, hr⟩ : ∃ r, r = framedB v := ⟨_, rfl⟩
  rw [← hN] at HG HN HY HM
  rw [← hr] at HN HY ⊢
  clear hN hr
  obtain ⟨v1, v2, v3, v4, v5, v6, v7, v8, v9⟩ := v
  unfold eC at *
  dsimp only at HG BW HC ⊢
  go_enter Try.func34, Try.ntmps34
  go_wp2_with fail
  generalize (World.alloc (World.alloc w _) _) = W at *
  generalize #[Value.int .i64 v1, .int .i64 v2, .int .i64 v3, .int .i64 v4, .int .i64 v5, .int .i64 v6, .int .i64 v7, .int .i64 v8, .int .i64 v9] = A at *
  go_loopw [4] (fun s4 wr => ∃ j : Nat, s4 = .int .i64 j ∧ j ≤ 9 ∧ wr = W ∧ Hid ((N.take j).all okN = true)) (fun s4 _ => 9 - (intOf s4).toNat)
  case atStart => exact ⟨0, rfl, by omega, rfl, Lib.hid rfl⟩
  case round =>
    obtain ⟨j, rfl, hj, rfl, hrel⟩ := hrel
    have HREL := hrel
    clear hrel
    by_cases hlt : j < 9
    · have tj : (j : Int) < 9 := by omega
      have cA := (cell_at HC.out j).trans (HG.out j hlt)
      have fA := free_at HC.out j
      have zA := szs (block_lt HC.out)
      have HN' := Lib.hid (HN.out j hlt)
      have HM' := Lib.hid (HM.out j hlt HREL.out)
      generalize N.getD j 0 = x at *
      by_cases x1 : x < -1125899906842624
      · have y := HN'.out (by simp [okN]; omega)
        go_wp2_with fail
        go_returns
        exact ⟨by simp [y], BW.out⟩
      · by_cases x2 : 1125899906842624 < x
        · have y := HN'.out (by simp [okN]; omega)
          have x1' : -1125899906842624 ≤ x := by omega
          go_wp2_with fail
          go_returns
          exact ⟨by simp [y], BW.out⟩
        · have HR := Lib.hid (HM'.out (by simp [okN]; omega))
          have x1' : -1125899906842624 ≤ x := by omega
          have x2' : x ≤ 1125899906842624 := by omega
          go_wp2_with fail
          go_roundw
          case rel => exact ⟨j + 1, by go_num, by omega, trivial, HR⟩
          case measure => simp [intOf]; omega
    · obtain rfl : j = 9 := by omega
      have y := HY.out HREL.out
      go_wp2_with fail
      go_returns
      exact ⟨by simp [y], BW.out⟩
end Go.Proofs.Ytlnfhlmgnppcbaa
