/- Decode of the reference. -/
import Derived.Test.YtlnfhlmgnppcbaaEC2
namespace Go.Proofs.Ytlnfhlmgnppcbaa
open Go.RowKit Go.ChangeShapes Go.WideShapes Go.Deep
set_option linter.unusedVariables false
set_option linter.unusedSimpArgs false
theorem info_int : (Try.prog.info? 3).map (fun i => (i.zero, i.size, i.bytes)) = some (some (.int .i64 0), 1, 8) := by kernel_rfl
theorem make_nine (w : World) : (Instr.makeSlice 42 (.int .i64 9) (.int .i64 9)).run Try.prog w = .ok (.slice (some ⟨w.heap.size, 0, none⟩) 9 9) (w.alloc (.cells #[.int .i64 0, .int .i64 0, .int .i64 0, .int .i64 0, .int .i64 0, .int .i64 0, .int .i64 0, .int .i64 0, .int .i64 0] 3)) := by
  obtain ⟨i, hi, h0, h1, h2⟩ := info_parts info_int
  have := run_make (P := Try.prog) w 42 3 i _ Try.underlying42 hi h0 .i64 .i64 9 9 (by omega) (by omega) (by rw [h2]; omega) (by omega)
  rw [h1, show madeCells (Value.int .i64 0).cells ((9 : Int).toNat * 1) = #[.int .i64 0, .int .i64 0, .int .i64 0, .int .i64 0, .int .i64 0, .int .i64 0, .int .i64 0, .int .i64 0, .int .i64 0] from by kernel_rfl] at this
  exact this
set_option maxRecDepth 4000 in
set_option maxHeartbeats 4000000 in
theorem decode41 (ao : Option Addr) (n c : Nat) (B : Nat → Nat) (w : World) (h : BSl w ao n c B) (hB : ∀ i, i < n → B i < 256) (hn : n ≤ 1000000) : Calls Try.prog 41 #[.slice ao n c] w fun e w' => e = .returned (evV (decE (ents B n))) ∧ Below w.heap.size w w' := by
  have hmc := h.hm
  have hcc := h.hc
  have HS := Lib.hid h
  have HB := Lib.hid hB
  clear h hB
  obtain ⟨r, hr⟩ : ∃ r, r = decE (ents B n) := ⟨_, rfl⟩
  obtain ⟨l, hl⟩ : ∃ l, l = ents B n := ⟨_, rfl⟩
  rw [← hr]
  have HBY : Hid (∀ x ∈ l, x < 256) := Lib.hid (fun x hx => by
    rw [hl] at hx
    obtain ⟨i, hi, rfl⟩ := mem_ents.1 hx
    exact HB.out i hi)
  have HLN : Hid (l.length = n) := Lib.hid (by rw [hl, ents_len])
  have CI := Lib.hid (fun (a : Int) (w' : World) (hb : Below w.heap.size w w') (ha : inI a) => int58 ao n c B a w' (HS.out.below hb) HB.out hn ha)
  rw [← hl] at hr CI
  have HR := Lib.hid hr
  clear hr hl
  have hmk := make_nine
  go_enter Try.func41, Try.ntmps41
  go_wp2_with fail
  have D0 : Hid (DecM w ((w.alloc (.cells (arr9 (fun _ => 0)) 24)).alloc (.cells (arr9 (fun _ => 0)) 3)) 3 (fun _ => 0)) := Lib.hid (by
    have h0 := heap_alloc_new w (.cells (arr9 (fun _ => 0)) 24)
    have hb : Below (w.alloc (.cells (arr9 (fun _ => 0)) 24)).heap.size (w.alloc (.cells (arr9 (fun _ => 0)) 24)) ((w.alloc (.cells (arr9 (fun _ => 0)) 24)).alloc (.cells (arr9 (fun _ => 0)) 3)) := (Below.refl _ _).alloc (Nat.le_refl _) _
    refine ⟨(hb.block _ (block_lt h0)).trans h0, ?_, by (repeat' (first | (with_reducible exact Below.refl _ _) | (with_reducible assumption) | (with_reducible refine Below.drew ?_) | (with_reducible refine below_drewN ?_ _) | (with_reducible refine Below.alloc ?_ ?_ _) | (with_reducible refine Below.setCell ?_ ?_ _) | go_size))⟩
    have h1 := heap_alloc_new (w.alloc (.cells (arr9 (fun _ => 0)) 24)) (.cells (arr9 (fun _ => 0)) 3)
    rw [show (w.alloc (.cells (arr9 (fun _ => 0)) 24)).heap.size = w.heap.size + 1 by simp] at h1
    exact h1)
  unfold arr9 at D0
  go_loopw [5, 6] (fun s5 s6 wr => ∃ (j : Nat) (a : Int) (A : Nat → Int), s6 = .int .i64 j ∧ s5 = .int .i64 a ∧ j ≤ 9 ∧ inI a ∧ Hid (readL l 9 0 [] = readL l (9 - j) a (ents A j) ∧ DecM w wr 3 A)) (fun _ s6 _ => 9 - (intOf s6).toNat)
  case atStart => exact ⟨0, 0, fun _ => 0, rfl, rfl, by omega, ⟨by omega, by omega⟩, Lib.hid ⟨rfl, D0.out⟩⟩
  case round =>
    obtain ⟨j, a, A, rfl, rfl, hj, ha, hrel⟩ := hrel
    have HREL := hrel
    clear hrel D0
    by_cases hlt : j < 9
    · have tj : (j : Int) < 9 := by omega
      have CC := Lib.hid (CI.out a wr HREL.out.2.2.2 ha)
      have BD := intE_bd l a
      have IN := intE_in' l HBY.out a
      have ST := Lib.hid (fun (k : Nat) (acc : List Int) (h : (intE l a).2.2 = 0) => readL_step (l := l) (k := k) (a := a) (acc := acc) h)
      have SP := Lib.hid (fun (k : Nat) (acc : List Int) (h1 : readL l 9 0 [] = readL l (k + 1) a acc) (h : (intE l a).2.2 ≠ 0) => decE_stop h1 h)
      have TM := Lib.hid (intE_in' l HBY.out a)
      generalize intE l a = q at *
      obtain ⟨x, to, e⟩ := q
      dsimp only at BD IN ST SP
      unfold i3 at CC
      dsimp only at CC
      obtain ⟨ha1, ha2⟩ := ha
      by_cases he : e = 0
      · subst he
        have HD := Lib.hid HREL.out.2
        have HST : Hid (readL l 9 0 [] = readL l (9 - (j + 1)) to (ents (upd A j x) (j + 1))) := Lib.hid (by
          rw [ents_push, HREL.out.1, show 9 - j = (9 - (j + 1)) + 1 by omega]
          exact ST.out _ _ rfl)
        have hto : inI to := by unfold inI; have := HLN.out; omega
        clear HREL ST SP IN TM BD
        go_wp2_with fail
        refine CC.out.mono ?_
        rintro e w1 ⟨rfl, hb⟩
        have H1 := Lib.hid (HD.out.below hb)
        have cA := (cell_at H1.out.2.1 j).trans (arr9_get A hlt)
        have fA := free_at H1.out.2.1 j
        have zA := szs (block_lt H1.out.2.1)
        clear hb CC HD
        go_wp2_with fail
        go_roundw
        case rel => exact ⟨j + 1, to, upd A j x, by go_num, rfl, by omega, hto, Lib.hid ⟨HST.out, H1.out.set hlt x⟩⟩
        case measure => simp [intOf]; omega
      · have hr : r = (zeroE, e) := by
          rw [HR.out]
          exact SP.out _ _ (by rw [HREL.out.1, show 9 - j = (9 - (j + 1)) + 1 by omega]) he
        have HRR := Lib.hid hr
        have HD := Lib.hid HREL.out.2
        have te : (e != 0) = true := by simp; exact he
        clear hr HREL ST SP IN TM BD he
        go_wp2_with fail
        refine CC.out.mono ?_
        rintro e w1 ⟨rfl, hb⟩
        have H1 := Lib.hid (HD.out.below hb)
        have x0 := H1.out.1
        unfold arr9 at x0
        have zA := szs (block_lt x0)
        have c0 := cell_at x0 0
        have c1 := cell_at x0 1
        have c2 := cell_at x0 2
        have c3 := cell_at x0 3
        have c4 := cell_at x0 4
        have c5 := cell_at x0 5
        have c6 := cell_at x0 6
        have c7 := cell_at x0 7
        have c8 := cell_at x0 8
        have fA := fun i => free_at x0 i
        have X0 := Lib.hid H1.out.1
        clear hb CC HD
        go_wp2_with fail
        rw [put9 X0.out]
        obtain ⟨w2, hw2, x2, b2⟩ := dec_done H1.out zeroE
        unfold eC zeroE at hw2 x2
        dsimp only at hw2 x2
        rw [hw2]
        clear hw2 c0 c1 c2 c3 c4 c5 c6 c7 c8 fA zA x0
        have zB := szs (block_lt x2)
        have c0 := cell_at x2 0
        have c1 := cell_at x2 1
        have c2 := cell_at x2 2
        have c3 := cell_at x2 3
        have c4 := cell_at x2 4
        have c5 := cell_at x2 5
        have c6 := cell_at x2 6
        have c7 := cell_at x2 7
        have c8 := cell_at x2 8
        have B2 := Lib.hid b2
        clear b2 x2
        exact bodyPost_ret (v := .tuple #[.agg (eC zeroE), .int .i64 e]) (by simp [results, Try.results41, go_sem, c0, c1, c2, c3, c4, c5, c6, c7, c8, eC, zeroE]) rfl ⟨by rw [HRR.out]; rfl, B2.out⟩
    · obtain rfl : j = 9 := by omega
      have H1 := Lib.hid HREL.out.2
      have hde := decE_end HREL.out.1
      rw [← HR.out, HLN.out] at hde
      obtain ⟨ha1, ha2⟩ := ha
      by_cases hn' : a = (n : Int)
      · rw [if_neg (by rw [hn']; simp)] at hde
        have HRR := Lib.hid hde
        have ta : (a != (n : Int)) = false := by simp [hn']
        have x0 := H1.out.1
        unfold arr9 at x0
        have zA := szs (block_lt x0)
        have c0 := cell_at x0 0
        have c1 := cell_at x0 1
        have c2 := cell_at x0 2
        have c3 := cell_at x0 3
        have c4 := cell_at x0 4
        have c5 := cell_at x0 5
        have c6 := cell_at x0 6
        have c7 := cell_at x0 7
        have c8 := cell_at x0 8
        have fA := fun i => free_at x0 i
        have X0 := Lib.hid H1.out.1
        have y0 := H1.out.2.1
        unfold arr9 at y0
        have zC := szs (block_lt y0)
        have d0 := cell_at y0 0
        have d1 := cell_at y0 1
        have d2 := cell_at y0 2
        have d3 := cell_at y0 3
        have d4 := cell_at y0 4
        have d5 := cell_at y0 5
        have d6 := cell_at y0 6
        have d7 := cell_at y0 7
        have d8 := cell_at y0 8
        clear hde HREL hn' y0
        go_wp2_with fail
        (refine region_drawn 28 mixed (by kernel_rfl) ?_; simp only [List.take_succ_cons, List.take_zero, List.drop_succ_cons, List.drop_zero]; (repeat (any_goals (first | go_big_quiet_step (fail) | quiet_step (fail) | (refine wpQuiet_step (fun K hK => ?_); go_simp; split <;> (refine hK _ ?_; clear hK K))))); (all_goals (refine wpQuiet_nil (fun nq => ?_))))
        obtain ⟨w5, hw5⟩ : ∃ w5, w5 = wr.drewN nq := ⟨_, rfl⟩
        rw [← hw5]
        have H5 : Hid (DecM w w5 3 A) := Lib.hid (H1.out.below (by rw [hw5]; (repeat' (first | (with_reducible exact Below.refl _ _) | (with_reducible assumption) | (with_reducible refine Below.drew ?_) | (with_reducible refine below_drewN ?_ _) | (with_reducible refine Below.alloc ?_ ?_ _) | (with_reducible refine Below.setCell ?_ ?_ _) | go_size))))
        clear hw5 c0 c1 c2 c3 c4 c5 c6 c7 c8 fA zA x0 X0 H1 d0 d1 d2 d3 d4 d5 d6 d7 d8 zC
        have H1 := H5
        clear H5
        have x0 := H1.out.1
        unfold arr9 at x0
        have zA := szs (block_lt x0)
        have c0 := cell_at x0 0
        have c1 := cell_at x0 1
        have c2 := cell_at x0 2
        have c3 := cell_at x0 3
        have c4 := cell_at x0 4
        have c5 := cell_at x0 5
        have c6 := cell_at x0 6
        have c7 := cell_at x0 7
        have c8 := cell_at x0 8
        have fA := fun i => free_at x0 i
        have X0 := Lib.hid H1.out.1
        go_wp2_with fail
        rw [put9 X0.out]
        obtain ⟨w2, hw2, x2, b2⟩ := dec_done H1.out (Ev.mk (A 0) (A 1) (A 2) (A 3) (A 4) (A 5) (A 6) (A 7) (A 8))
        unfold eC at hw2 x2
        dsimp only at hw2 x2
        rw [hw2]
        clear hw2 c0 c1 c2 c3 c4 c5 c6 c7 c8 fA zA x0
        have zB := szs (block_lt x2)
        have c0 := cell_at x2 0
        have c1 := cell_at x2 1
        have c2 := cell_at x2 2
        have c3 := cell_at x2 3
        have c4 := cell_at x2 4
        have c5 := cell_at x2 5
        have c6 := cell_at x2 6
        have c7 := cell_at x2 7
        have c8 := cell_at x2 8
        have B2 := Lib.hid b2
        clear b2 x2
        exact bodyPost_ret (v := .tuple #[.agg (eC (Ev.mk (A 0) (A 1) (A 2) (A 3) (A 4) (A 5) (A 6) (A 7) (A 8))), .int .i64 0]) (by simp [results, Try.results41, go_sem, c0, c1, c2, c3, c4, c5, c6, c7, c8, eC]) rfl ⟨by rw [HRR.out]; rfl, B2.out⟩
      · rw [if_pos hn'] at hde
        have HRR := Lib.hid hde
        have ta : (a != (n : Int)) = true := by simp [hn']
        have x0 := H1.out.1
        unfold arr9 at x0
        have zA := szs (block_lt x0)
        have c0 := cell_at x0 0
        have c1 := cell_at x0 1
        have c2 := cell_at x0 2
        have c3 := cell_at x0 3
        have c4 := cell_at x0 4
        have c5 := cell_at x0 5
        have c6 := cell_at x0 6
        have c7 := cell_at x0 7
        have c8 := cell_at x0 8
        have fA := fun i => free_at x0 i
        have X0 := Lib.hid H1.out.1
        clear hde HREL hn'
        go_wp2_with fail
        rw [put9 X0.out]
        obtain ⟨w2, hw2, x2, b2⟩ := dec_done H1.out zeroE
        unfold eC zeroE at hw2 x2
        dsimp only at hw2 x2
        rw [hw2]
        clear hw2 c0 c1 c2 c3 c4 c5 c6 c7 c8 fA zA x0
        have zB := szs (block_lt x2)
        have c0 := cell_at x2 0
        have c1 := cell_at x2 1
        have c2 := cell_at x2 2
        have c3 := cell_at x2 3
        have c4 := cell_at x2 4
        have c5 := cell_at x2 5
        have c6 := cell_at x2 6
        have c7 := cell_at x2 7
        have c8 := cell_at x2 8
        have B2 := Lib.hid b2
        clear b2 x2
        exact bodyPost_ret (v := .tuple #[.agg (eC zeroE), .int .i64 3]) (by simp [results, Try.results41, go_sem, c0, c1, c2, c3, c4, c5, c6, c7, c8, eC, zeroE]) rfl ⟨by rw [HRR.out]; rfl, B2.out⟩
end Go.Proofs.Ytlnfhlmgnppcbaa
