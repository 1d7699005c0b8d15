/- Encode: an event as bytes, the program's and the reference's. -/
import Derived.Test.YtlnfhlmgnppcbaaEVA
import Derived.Test.YtlnfhlmgnppcbaaWI2
import Derived.Test.YtlnfhlmgnppcbaaBC
namespace Go.Proofs.Ytlnfhlmgnppcbaa
open Go.RowKit Go.ChangeShapes Go.WideShapes Go.Deep
set_option linter.unusedVariables false
set_option linter.unusedSimpArgs false
theorem nums_get (v : Ev) {j : Nat} (hj : j < 9) : (eC v)[j]? = some (.int .i64 ((nums v).getD j 0)) := by
  rcases (by omega : j = 0 ∨ j = 1 ∨ j = 2 ∨ j = 3 ∨ j = 4 ∨ j = 5 ∨ j = 6 ∨ j = 7 ∨ j = 8) with rfl | rfl | rfl | rfl | rfl | rfl | rfl | rfl | rfl <;> rfl
theorem index_nums (v : Ev) {j : Nat} (hj : j < 9) (w : World) : (Instr.index 65 (.agg (eC v)) (.int .i64 j)).run Try.prog w = .ok (.int .i64 ((nums v).getD j 0)) w := by
  rcases (by omega : j = 0 ∨ j = 1 ∨ j = 2 ∨ j = 3 ∨ j = 4 ∨ j = 5 ∨ j = 6 ∨ j = 7 ∨ j = 8) with rfl | rfl | rfl | rfl | rfl | rfl | rfl | rfl | rfl <;> kernel_rfl
theorem inN.get {v : Ev} (h : inN v) {j : Nat} (hj : j < 9) : inI ((nums v).getD j 0) := by
  refine h _ ?_
  have hl : j < (nums v).length := hj
  have : (nums v).getD j 0 = (nums v)[j] := by rw [List.getD, List.getElem?_eq_getElem hl]; rfl
  rw [this]; exact List.getElem_mem _
set_option maxRecDepth 4000 in
set_option maxHeartbeats 4000000 in
theorem encode23 (v : Ev) (w : World) (hv : inN v) : Calls Try.prog 23 #[.agg (eC v)] w (Bytes w (encE v)) := by
  have HV := Lib.hid (fun (j : Nat) (hj : j < 9) => hv.get hj)
  have HT := Lib.hid (fun (j : Nat) (hj : j < 9) => take_succ_get (l := nums v) (j := j) hj)
  have HX := Lib.hid (fun (j : Nat) (hj : j < 9) (w' : World) => index_nums v hj w')
  have HL := Lib.hid (fun (j : Nat) (hj : j ≤ 9) => (encL_len ((nums v).take j) (fun x hx => hv x (List.mem_of_mem_take hx))))
  have HE : Hid (encE v = encL ((nums v).take 9)) := Lib.hid rfl
  clear hv
  obtain ⟨N, hN⟩ : ∃ N, N = nums v := ⟨_, rfl⟩
  obtain ⟨r, hr⟩ : ∃ r, r = encE v := ⟨_, rfl⟩
  rw [← hN] at HV HT HX HL HE
  rw [← hr] at HE ⊢
  have HLN : Hid (N.length = 9) := Lib.hid (by rw [hN]; rfl)
  clear hN hr
  unfold eC at *
  obtain ⟨v1, v2, v3, v4, v5, v6, v7, v8, v9⟩ := v
  dsimp only at HX ⊢
  go_enter Try.func23, Try.ntmps23
  go_wp2_with fail
  go_loopw [3, 25] (fun s3 s25 wr => ∃ (j k : Nat) (R : Nat → Nat), s25 = .int .i64 j ∧ j ≤ 9 ∧ k ≤ 90 ∧ Hid (ents R k = encL (N.take j) ∧ BRow wr w.heap.size s3 k R ∧ Below w.heap.size w wr)) (fun _ s25 _ => 9 - (intOf s25).toNat)
  case atStart => exact ⟨0, 0, fun _ => 0, rfl, by omega, by omega, Lib.hid ⟨rfl, ⟨rfl, .inl ⟨rfl, rfl⟩⟩, by (repeat' (first | (with_reducible exact Below.refl _ _) | (with_reducible assumption) | (with_reducible refine Below.drew ?_) | (with_reducible refine below_drewN ?_ _) | (with_reducible refine Below.alloc ?_ ?_ _) | (with_reducible refine Below.setCell ?_ ?_ _) | go_size))⟩⟩
  case round =>
    obtain ⟨j, k, R, rfl, hj, hk, hrel⟩ := hrel
    have HREL := hrel
    clear hrel
    by_cases hlt : j < 9
    · have tj : (j : Int) < 9 := by omega
      obtain ⟨bo, bc, rfl, S3⟩ := BRow.toSl HREL.out.2.1
      have hix := HX.out j hlt wr
      obtain ⟨x, hx⟩ : ∃ x, x = N.getD j 0 := ⟨_, rfl⟩
      have hxi := HV.out j hlt
      have ht := HT.out j hlt
      rw [← hx] at hix hxi ht
      have CP := Lib.hid (putInt43 bo k bc R x wr S3 (by omega) hxi)
      have HTT := Lib.hid ht
      clear hx hxi ht S3
      go_wp2_with fail
      refine CP.out.mono ?_
      rintro e w1 ⟨u, m, R', rfl, hm, hrow, hb⟩
      have HB := Lib.hid (HREL.out.2.2.trans (hb.mono HREL.out.2.2.size))
      have HROW := Lib.hid (Row.base_mono hrow HREL.out.2.2.size)
      have HM : Hid (ents R' m = encL (N.take (j + 1))) := Lib.hid (by rw [hm, HREL.out.1, HTT.out, encL_snoc])
      have hm90 : m ≤ 90 := by
        have h1 := congrArg List.length HM.out
        rw [ents_len] at h1
        have h2 := HL.out (j + 1) (by omega)
        rw [List.length_take, HLN.out] at h2
        omega
      clear hb hrow hm CP hix
      go_wp2_with fail
      go_roundw
      case rel => exact ⟨j + 1, m, R', by go_num, by omega, hm90, Lib.hid ⟨HM.out, HROW.out, HB.out⟩⟩
      case measure => simp [intOf]; omega
    · obtain rfl : j = 9 := by omega
      go_wp2_with fail
      go_returns
      exact ⟨_, k, R, rfl, by rw [HE.out]; exact HREL.out.1, HREL.out.2.1, HREL.out.2.2⟩
set_option maxRecDepth 4000 in
set_option maxHeartbeats 4000000 in
theorem encode36 (v : Ev) (w : World) (hv : inN v) : Calls Try.prog 36 #[.agg (eC v)] w (Bytes w (encE v)) := by
  have HV := Lib.hid (fun (j : Nat) (hj : j < 9) => hv.get hj)
  have HT := Lib.hid (fun (j : Nat) (hj : j < 9) => take_succ_get (l := nums v) (j := j) hj)
  have HG := Lib.hid (fun (j : Nat) (hj : j < 9) => nums_get v hj)
  have HL := Lib.hid (fun (j : Nat) (hj : j ≤ 9) => (encL_len ((nums v).take j) (fun x hx => hv x (List.mem_of_mem_take hx))))
  have HE : Hid (encE v = encL ((nums v).take 9)) := Lib.hid rfl
  clear hv
  obtain ⟨N, hN⟩ : ∃ N, N = nums v := ⟨_, rfl⟩
  obtain ⟨r, hr⟩ : ∃ r, r = encE v := ⟨_, rfl⟩
  rw [← hN] at HV HT HG HL HE
  rw [← hr] at HE ⊢
  have HLN : Hid (N.length = 9) := Lib.hid (by rw [hN]; rfl)
  clear hN hr
  unfold eC at *
  obtain ⟨v1, v2, v3, v4, v5, v6, v7, v8, v9⟩ := v
  dsimp only at HG ⊢
  go_enter Try.func36, Try.ntmps36
  go_wp2_with fail
  obtain ⟨wa, hwa⟩ : ∃ wa, wa = w.alloc (.cells #[.int .i64 v1, .int .i64 v2, .int .i64 v3, .int .i64 v4, .int .i64 v5, .int .i64 v6, .int .i64 v7, .int .i64 v8, .int .i64 v9] 24) := ⟨_, rfl⟩
  obtain ⟨wb, hwb⟩ : ∃ wb, wb = wa.alloc (.cells #[.int .i64 v1, .int .i64 v2, .int .i64 v3, .int .i64 v4, .int .i64 v5, .int .i64 v6, .int .i64 v7, .int .i64 v8, .int .i64 v9] 3) := ⟨_, rfl⟩
  rw [← hwa, ← hwb]
  have hz : wa.heap.size = w.heap.size + 1 := by rw [hwa]; simp
  have hzb : wb.heap.size = w.heap.size + 2 := by rw [hwb]; simp [hz]
  have X0 : Hid (wb.heap[w.heap.size + 1]? = some (.cells #[.int .i64 v1, .int .i64 v2, .int .i64 v3, .int .i64 v4, .int .i64 v5, .int .i64 v6, .int .i64 v7, .int .i64 v8, .int .i64 v9] 3)) := Lib.hid (by rw [hwb, ← hz]; exact heap_alloc_new wa _)
  have B0 : Hid (Below w.heap.size w wb) := Lib.hid (by rw [hwb, hwa]; (repeat' (first | (with_reducible exact Below.refl _ _) | (with_reducible assumption) | (with_reducible refine Below.drew ?_) | (with_reducible refine below_drewN ?_ _) | (with_reducible refine Below.alloc ?_ ?_ _) | (with_reducible refine Below.setCell ?_ ?_ _) | go_size)))
  clear hwa hwb hz
  go_loopw [4, 5] (fun s4 s5 wr => ∃ (j k : Nat) (R : Nat → Nat), s5 = .int .i64 j ∧ j ≤ 9 ∧ k ≤ 90 ∧ Hid (ents R k = encL (N.take j) ∧ BRow wr w.heap.size s4 k R ∧ Below wb.heap.size wb wr)) (fun _ s5 _ => 9 - (intOf s5).toNat)
  case atStart => exact ⟨0, 0, fun _ => 0, rfl, by omega, by omega, Lib.hid ⟨rfl, ⟨rfl, .inl ⟨rfl, rfl⟩⟩, Below.refl _ _⟩⟩
  case round =>
    obtain ⟨j, k, R, rfl, hj, hk, hrel⟩ := hrel
    have HREL := hrel
    clear hrel
    by_cases hlt : j < 9
    · have tj : (j : Int) < 9 := by omega
      obtain ⟨bo, bc, rfl, S3⟩ := BRow.toSl HREL.out.2.1
      have y1 := (HREL.out.2.2.block _ (block_lt X0.out)).trans X0.out
      have hix := (cell_at y1 j).trans (HG.out j hlt)
      have z1 := szs (block_lt y1)
      have hsz := HREL.out.2.2.size
      obtain ⟨x, hx⟩ : ∃ x, x = N.getD j 0 := ⟨_, rfl⟩
      have hxi := HV.out j hlt
      have ht := HT.out j hlt
      rw [← hx] at hix hxi ht
      have CP := Lib.hid (putInt52 bo k bc R x wr S3 (by omega) hxi)
      have HTT := Lib.hid ht
      clear hx hxi ht S3 y1
      go_wp2_with fail
      refine CP.out.mono ?_
      rintro e w1 ⟨u, m, R', rfl, hm, hrow, hb⟩
      have HB := Lib.hid (HREL.out.2.2.trans (hb.mono HREL.out.2.2.size))
      have HROW := Lib.hid (Row.base_mono (base := w.heap.size) hrow (by omega))
      have HM : Hid (ents R' m = encL (N.take (j + 1))) := Lib.hid (by rw [hm, HREL.out.1, HTT.out, encL_snoc])
      have hm90 : m ≤ 90 := by
        have h1 := congrArg List.length HM.out
        rw [ents_len] at h1
        have h2 := HL.out (j + 1) (by omega)
        rw [List.length_take, HLN.out] at h2
        omega
      clear hb hrow hm CP hix
      go_wp2_with fail
      go_roundw
      case rel => exact ⟨j + 1, m, R', by go_num, by omega, hm90, Lib.hid ⟨HM.out, HROW.out, HB.out⟩⟩
      case measure => simp [intOf]; omega
    · obtain rfl : j = 9 := by omega
      go_wp2_with fail
      go_returns
      exact ⟨_, k, R, rfl, by rw [HE.out]; exact HREL.out.1, HREL.out.2.1, B0.out.trans (HREL.out.2.2.mono B0.out.size)⟩
end Go.Proofs.Ytlnfhlmgnppcbaa
