/- The reference's Pop. Condition: fewer than a million items. -/
import Derived.Test.YtknmmgijhlpedaaR1
namespace Go.Proofs.Ytknmmgijhlpedaa
open Go.RowKit
namespace QI
set_option linter.unusedVariables false
set_option linter.unusedSimpArgs false
theorem SlE_congr {w : World} {s : Nat} {ao : Option Addr} {m : Nat} {f f' : Nat → List Value} (h : SlE w s ao m f) (hf : ∀ i, i < m → f i = f' i) : SlE w s ao m f' := fun i hi => by
  obtain ⟨g, o, e, hc⟩ := h i hi
  exact ⟨g, o, e, fun j hj => by rw [← hf i hi]; exact hc j hj⟩
theorem sl_take {w : World} {ao : Option Addr} {l : List T} {k : Nat} (h : SlE w 2 ao l.length (lf l)) (hk : k ≤ l.length) : SlE w 2 ao k (lf (l.take k)) :=
  SlE_congr (h.cut hk) fun i hi => by unfold lf; simp [List.getD, List.getElem?_take, hi]
theorem sl_drop {w : World} {g o : Nat} {l : List T} {k : Nat} (h : SlE w 2 (some ⟨g, o, none⟩) l.length (lf l)) (hk : k ≤ l.length) : SlE w 2 (some ⟨g, o + k * 2, none⟩) (l.length - k) (lf (l.drop k)) := fun i hi => by
  obtain ⟨g', o', e, hc⟩ := h (k + i) (by omega)
  cases e
  refine ⟨g, o + k * 2, rfl, fun j hj => ?_⟩
  have e1 := hc j hj
  rw [show o + (k + i) * 2 + j = o + k * 2 + i * 2 + j by omega] at e1
  rw [e1]
  unfold lf
  simp [List.getD, List.getElem?_drop]
theorem sl_cells {w : World} {g o : Nat} {l : List T} (h : SlE w 2 (some ⟨g, o, none⟩) l.length (lf l)) {i : Nat} (hi : i < l.length) : w.cell? ⟨g, o + i * 2, none⟩ = some (.int .i64 (l.getD i default).key) ∧ w.cell? ⟨g, o + i * 2 + 1, none⟩ = some (.int .i64 (l.getD i default).tag) := by
  obtain ⟨g', o', e, hc⟩ := h i hi
  cases e
  exact ⟨hc 0 (by decide), hc 1 (by decide)⟩
theorem take_drop_erase (l : List T) (k : Nat) : l.take k ++ l.drop (k + 1) = l.eraseIdx k := (List.eraseIdx_eq_take_drop_succ ..).symm

theorem refpop_none (w : World) (a : Option Addr) (c : Nat) (d : Bool) :
    Calls Try.prog 18 #[.slice a 0 c, .bool d] w fun e w' => e = .returned (.tuple #[.slice none 0 0, .agg #[.int .i64 0, .int .i64 0], .bool false]) ∧ Below w.heap.size w w' := by
  go_enter Try.func18, Try.ntmps18
  go_wp2
  refine bodyPost_ret (v := .tuple #[.slice none 0 0, .agg #[.int .i64 0, .int .i64 0], .bool false]) (by simp [results, Try.results18, go_sem]) rfl ⟨rfl, ?_⟩
  (repeat' (first | (with_reducible exact Below.refl _ _) | (with_reducible assumption) | (with_reducible refine Below.drew ?_) | (with_reducible refine below_drewN ?_ _) | (with_reducible refine Below.alloc ?_ ?_ _) | (with_reducible refine Below.setCell ?_ ?_ _) | go_size))

set_option maxHeartbeats 1000000 in
theorem refpop_some (w : World) (base : Nat) (v : Value) (l : List T) (d : Bool) (h : IL w base v l) (hl0 : l ≠ []) (hl : l.length < 1000000) :
    Calls Try.prog 18 #[v, .bool d] w fun e w' => ∃ v', e = .returned (.tuple #[v', vv (l.getD (minIx (lt d) l) default), .bool true]) ∧ IL w' w.heap.size v' (l.eraseIdx (minIx (lt d) l)) ∧ Below w.heap.size w w' := by
  obtain ⟨i0, hi, hz0, hz1, hz2⟩ := info_parts infoT
  have hpos := List.length_pos_iff.2 hl0
  obtain ⟨ao, cap, rfl, hn, hc, hsl, hnone⟩ := Row.sl h (lf_len l)
  obtain ⟨g, o, rfl, _⟩ := hsl.all hpos
  clear hnone h
  have HS := Lib.hid hsl
  have hmin := minIx_lt (lt := lt d) hl0
  have EM : Hid (minIx (lt d) l = minTo (lt d) (fun i => l.getD i default) (l.length - 1)) := rfl
  clear hsl
  generalize minIx (lt d) l = m at *
  obtain ⟨x, hx⟩ : ∃ x, x = l.getD m default := ⟨_, rfl⟩
  rw [← hx]
  have HX := Lib.hid hx
  clear hx
  obtain ⟨xk, xt⟩ := x
  unfold vv
  dsimp only
  have hne : ((l.length : Int) == 0) = false := by simp; omega
  go_enter Try.func18, Try.ntmps18
  go_wp2_with fail
  go_loopw [7, 8] (fun f i wr => ∃ k : Nat, 1 ≤ k ∧ k ≤ l.length ∧ i = .int .i64 k ∧ f = .int .i64 (minTo (lt d) (fun i => l.getD i default) (k - 1)) ∧ Below w.heap.size w wr ∧ wr.heap[w.heap.size]? = some (.cells #[.int .i64 0, .int .i64 0] 27)) (fun _ i _ => l.length - (intOf i).toNat)
  case atStart => exact ⟨1, by omega, by omega, rfl, rfl, by (repeat' (first | (with_reducible exact Below.refl _ _) | (with_reducible assumption) | (with_reducible refine Below.drew ?_) | (with_reducible refine below_drewN ?_ _) | (with_reducible refine Below.alloc ?_ ?_ _) | (with_reducible refine Below.setCell ?_ ?_ _) | go_size)), heap_alloc_new w _⟩
  case round =>
    obtain ⟨k, hk1, hk2, rfl, rfl, hb, hr0⟩ := hrel
    have hs := HS.out.below (lf_len l) hb
    have hmle := minTo_le (lt := lt d) (fun i => l.getD i default) (k - 1)
    by_cases hlt : k < l.length
    · clear hmin
      obtain ⟨m, hm⟩ : ∃ m, m = minTo (lt d) (fun i => l.getD i default) (k - 1) := ⟨_, rfl⟩
      rw [← hm] at hmle ⊢
      obtain ⟨a0, a1⟩ := sl_cells hs hlt
      obtain ⟨b0, b1⟩ := sl_cells hs (i := m) (by omega)
      have zg := szs (cell_lt a0)
      dsimp only at zg
      have t1 : (k : Int) < (l.length : Int) := by omega
      have t2 : (m : Int) < (l.length : Int) := by omega
      have C := fun w => before30 (l.getD k default) (l.getD m default) d w
      have hnext : minTo (lt d) (fun i => l.getD i default) k = if lt d (l.getD k default) (l.getD m default) = true then k else m := by
        obtain ⟨k', rfl⟩ : ∃ k', k = k' + 1 := ⟨k - 1, by omega⟩
        rw [hm]; rfl
      have HM := Lib.hid hm
      have HN := Lib.hid hnext
      have HB := Lib.hid hb
      have HR0 := Lib.hid hr0
      clear hs hm hnext hb hr0
      unfold vv at C
      generalize l.getD k default = x at *
      generalize l.getD m default = y at *
      obtain ⟨r, hr⟩ : ∃ r, r = lt d x y := ⟨_, rfl⟩
      rw [← hr] at C
      have HRR := Lib.hid hr
      have HC := Lib.hid C
      clear hr C
      go_wp2_with fail
      (refine region_drawn 9 mixed (by kernel_rfl) ?_; simp only [List.take_succ_cons, List.take_zero, List.drop_succ_cons, List.drop_zero]; (repeat (any_goals (first | go_big_quiet_step (fail) | quiet_step (fail) | (refine wpQuiet_step (fun K hK => ?_); go_simp; split <;> (refine hK _ ?_; clear hK K))))); (all_goals (refine wpQuiet_nil (fun nq => ?_))))
      go_wp2_with (refine (HC.out _).mono ?_; rintro e w1 ⟨rfl, hb1⟩)
      all_goals
        go_roundw
        case rel =>
          have hb2 : Below wr.heap.size wr w1 := (below_drewN (Below.refl _ _) _).trans hb1
          refine ⟨k + 1, by omega, by omega, by go_num, ?_, HB.out.trans (hb2.mono HB.out.size), (hb2.block _ (block_lt HR0.out)).trans HR0.out⟩
          rw [Nat.add_sub_cancel, HN.out, ← HRR.out]
          simp [*]
        case measure => simp [intOf]; omega
    · obtain rfl : k = l.length := by omega
      rw [← EM.out]
      have hm1 : (l.take m).length = m := by simp; omega
      have hs1 := sl_take hs (show m ≤ l.length by omega)
      have hs2 := sl_drop hs (show m + 1 ≤ l.length by omega)
      have hd2 : (l.drop (m + 1)).length = l.length - (m + 1) := by simp
      have he := take_drop_erase l m
      obtain ⟨a0, a1⟩ := sl_cells hs hmin
      rw [← HX.out] at a0 a1
      clear hmle hs EM HX
      have H1 := Lib.hid hs1
      have H2 := Lib.hid hs2
      have HM1 := Lib.hid hm1
      have HD2 := Lib.hid hd2
      have HE := Lib.hid he
      have HB := Lib.hid hb
      have HR0 := Lib.hid hr0
      have A0 := Lib.hid a0
      have A1 := Lib.hid a1
      have hsz : w.heap.size ≤ wr.heap.size := hb.size
      have t1 : (m : Int) ≤ (cap : Int) := by omega
      have t2 : (m : Int) + 1 ≤ (l.length : Int) := by omega
      clear hs1 hs2 hm1 hd2 he hb hr0 a0 a1
      by_cases hcm : cap = m + 1
      · subst hcm
        go_wp2_with (first | (at_builtin; refine wpList_append_sl _ rfl (.tmp 31) (.tmp 34) 29 rfl w.heap.size 27 i0 _ 2 16 Try.underlying29 hi hz0 hz1 hz2 rfl (by decide) (.slice none 0 0) 0 (lf []) rfl (IL.nil _ _) (lf_len _) (some ⟨g, o, none⟩) m (m + 1) (lf (l.take m)) rfl (lf_len _) (fun h => by cases h) H1.out (lf_one _) (by omega) (by unfold maxLen; omega) hsz ?_))
        intro v1 w1 hr1 hg1 hf1
        have b1 : Below wr.heap.size wr w1 := (Off.of_grown hg1).toBelow (Nat.le_refl _) (fun k hk h => by simp [Value.ownBlock] at h)
        have r1 : IL w1 w.heap.size v1 ([] ++ l.take m) := IL.of_cat (by rw [List.length_nil, HM1.out, Nat.zero_add]; exact hr1)
        rw [List.nil_append] at r1
        have r1' : Row w1 w.heap.size 27 2 v1 m (lf (l.take m)) := by have := r1; unfold IL at this; rw [HM1.out] at this; exact this
        have s1 := SlE.below (lf_len _) H2.out b1
        have R1 := Lib.hid r1'
        have S1 := Lib.hid s1
        have B1 := Lib.hid (HB.out.trans (b1.mono hsz))
        have X1 := Lib.hid ((b1.block _ (block_lt HR0.out)).trans HR0.out)
        have A01 := Lib.hid (cell_kept b1 A0.out)
        have A11 := Lib.hid (cell_kept b1 A1.out)
        have own1 := Lib.hid r1.own
        have own2 : Hid (∀ g, v1.ownBlock = some g → wr.heap.size ≤ g) := fun g hg => (hf1 g hg).resolve_left (by simp [Value.ownBlock])
        have hsz1 : w.heap.size ≤ w1.heap.size := by have := b1.size; omega
        clear hr1 hg1 hf1 b1 r1 r1' s1
        go_wp2_with (first | (at_builtin; refine wpList_append_sl _ rfl (.tmp 36) (.tmp 40) 29 rfl w.heap.size 27 i0 _ 2 16 Try.underlying29 hi hz0 hz1 hz2 rfl (by decide) v1 m (lf (l.take m)) rfl R1.out (lf_len _) (some ⟨g, o, none⟩) 0 0 (lf (l.drop (m + 1))) rfl (lf_len _) (fun h => by cases h) (fun i hi => absurd hi (Nat.not_lt_zero i)) (lf_one _) (by omega) (by unfold maxLen; omega) hsz1 ?_))
        intro v2 w2 hr2 hg2 hf2
        have b2 : Below w.heap.size w1 w2 := (Off.of_grown hg2).toBelow hsz1 (fun k hk h => by have := (own1.out k h.symm).1; omega)
        have r2 : IL w2 w.heap.size v2 (l.take m ++ l.drop (m + 1)) := IL.of_cat (by rw [HM1.out, HD2.out, show l.length - (m + 1) = 0 by omega]; exact hr2)
        rw [HE.out] at r2
        have R2 := Lib.hid r2
        have o2 := Off.of_grown hg2
        have x2 := (o2.block _ (block_lt X1.out) (fun h => by have := own2.out _ h.symm; have := block_lt HR0.out; omega)).trans X1.out
        have z0 : w2.cell? ⟨w.heap.size, 0, none⟩ = some (.int .i64 0) := cell_at x2 0
        have z1 : w2.cell? ⟨w.heap.size, 1, none⟩ = some (.int .i64 0) := cell_at x2 1
        have zf : ∀ j, w2.frozen? ⟨w.heap.size, j, none⟩ = false := free_at x2
        have c0 := o2.cell A01.out (fun h => by have := own2.out _ h.symm; have := cell_lt A0.out; dsimp only at *; omega)
        have c1 := o2.cell A11.out (fun h => by have := own2.out _ h.symm; have := cell_lt A0.out; dsimp only at *; omega)
        have B2 := Lib.hid (B1.out.trans b2)
        have hsz2 : w.heap.size < w2.heap.size := block_lt x2
        have t5 : (m : Int) < (l.length : Int) := by omega
        have OW3 : Hid (∀ g, v2.ownBlock = some g → w.heap.size < g) := fun g hg => by rcases hf2 g hg with h | h; (have := own2.out _ h; have := block_lt HR0.out; omega); (have := block_lt X1.out; omega)
        clear hr2 hg2 hf2 b2 r2 x2 o2
        go_wp2_with fail
        (refine region_order (fun i : Nat => World.drewN _ i) [] [0, 1, 2, 3, 4, 5] 6 [7] mixed (by kernel_rfl) ⟨1, rfl⟩ ?_; simp only [List.map_cons, List.map_nil, Array.getD_eq_getD_getElem?, List.getElem?_toArray, List.getElem?_cons_zero, List.getElem?_cons_succ, Option.getD_some]; (repeat (refine wpPure_cons _ rfl (fun w' => by go_simp; try rfl) ?_; dsimp only [Act.put])); refine wpPure_nil ?_; (repeat (any_goals (first | go_big_quiet_step (fail) | quiet_step (fail) | (refine wpQuiet_step (fun K hK => ?_); go_simp; split <;> (refine hK _ ?_; clear hK K))))); (all_goals (refine wpQuiet_nil (fun nq => ?_))))
        have o5 : Off (fun b => b = w.heap.size) w2 (putCells (w2.drewN nq) w.heap.size 0 (tc ⟨xk, xt⟩)) := off_putCells (X := fun b => b = w.heap.size) rfl _ _ _ (Off.of_below (below_drewN (Below.refl _ _) _))
        have r4 := Lib.hid (R2.out.off o5 (fun g hg h => by have := OW3.out g hg; omega))
        have B4 : Hid (Below w.heap.size w (putCells (w2.drewN nq) w.heap.size 0 (tc ⟨xk, xt⟩))) := B2.out.trans (o5.toBelow (Nat.le_of_lt hsz2) (fun k hk h => by omega))
        clear o5
        go_wp2_with fail
        refine onlyN_intro ?_
        go_wp2_with fail
        refine bodyPost_ret (v := .tuple #[v2, .agg #[.int .i64 xk, .int .i64 xt], .bool true]) (by simp [results, Try.results18, go_sem, z0, z1]) rfl ⟨v2, rfl, r4.out, B4.out⟩
      · have t3 : m + 1 < cap := by omega
        go_wp2_with (first | (at_builtin; refine wpList_append_sl _ rfl (.tmp 31) (.tmp 34) 29 rfl w.heap.size 27 i0 _ 2 16 Try.underlying29 hi hz0 hz1 hz2 rfl (by decide) (.slice none 0 0) 0 (lf []) rfl (IL.nil _ _) (lf_len _) (some ⟨g, o, none⟩) m cap (lf (l.take m)) rfl (lf_len _) (fun h => by cases h) H1.out (lf_one _) (by omega) (by unfold maxLen; omega) hsz ?_))
        intro v1 w1 hr1 hg1 hf1
        have b1 : Below wr.heap.size wr w1 := (Off.of_grown hg1).toBelow (Nat.le_refl _) (fun k hk h => by simp [Value.ownBlock] at h)
        have r1 : IL w1 w.heap.size v1 ([] ++ l.take m) := IL.of_cat (by rw [List.length_nil, HM1.out, Nat.zero_add]; exact hr1)
        rw [List.nil_append] at r1
        have r1' : Row w1 w.heap.size 27 2 v1 m (lf (l.take m)) := by have := r1; unfold IL at this; rw [HM1.out] at this; exact this
        have s1 := SlE.below (lf_len _) H2.out b1
        have R1 := Lib.hid r1'
        have S1 := Lib.hid s1
        have B1 := Lib.hid (HB.out.trans (b1.mono hsz))
        have X1 := Lib.hid ((b1.block _ (block_lt HR0.out)).trans HR0.out)
        have A01 := Lib.hid (cell_kept b1 A0.out)
        have A11 := Lib.hid (cell_kept b1 A1.out)
        have own1 := Lib.hid r1.own
        have own2 : Hid (∀ g, v1.ownBlock = some g → wr.heap.size ≤ g) := fun g hg => (hf1 g hg).resolve_left (by simp [Value.ownBlock])
        have hsz1 : w.heap.size ≤ w1.heap.size := by have := b1.size; omega
        clear hr1 hg1 hf1 b1 r1 r1' s1
        go_wp2_with (first | (at_builtin; refine wpList_append_sl _ rfl (.tmp 36) (.tmp 40) 29 rfl w.heap.size 27 i0 _ 2 16 Try.underlying29 hi hz0 hz1 hz2 rfl (by decide) v1 m (lf (l.take m)) rfl R1.out (lf_len _) (some ⟨g, o + (m + 1) * 2, none⟩) (l.length - (m + 1)) (cap - (m + 1)) (lf (l.drop (m + 1))) rfl (lf_len _) (fun h => by cases h) S1.out (lf_one _) (by omega) (by unfold maxLen; omega) hsz1 ?_))
        intro v2 w2 hr2 hg2 hf2
        have b2 : Below w.heap.size w1 w2 := (Off.of_grown hg2).toBelow hsz1 (fun k hk h => by have := (own1.out k h.symm).1; omega)
        have r2 : IL w2 w.heap.size v2 (l.take m ++ l.drop (m + 1)) := IL.of_cat (by rw [HM1.out, HD2.out]; exact hr2)
        rw [HE.out] at r2
        have R2 := Lib.hid r2
        have o2 := Off.of_grown hg2
        have x2 := (o2.block _ (block_lt X1.out) (fun h => by have := own2.out _ h.symm; have := block_lt HR0.out; omega)).trans X1.out
        have z0 : w2.cell? ⟨w.heap.size, 0, none⟩ = some (.int .i64 0) := cell_at x2 0
        have z1 : w2.cell? ⟨w.heap.size, 1, none⟩ = some (.int .i64 0) := cell_at x2 1
        have zf : ∀ j, w2.frozen? ⟨w.heap.size, j, none⟩ = false := free_at x2
        have c0 := o2.cell A01.out (fun h => by have := own2.out _ h.symm; have := cell_lt A0.out; dsimp only at *; omega)
        have c1 := o2.cell A11.out (fun h => by have := own2.out _ h.symm; have := cell_lt A0.out; dsimp only at *; omega)
        have B2 := Lib.hid (B1.out.trans b2)
        have hsz2 : w.heap.size < w2.heap.size := block_lt x2
        have t5 : (m : Int) < (l.length : Int) := by omega
        have OW3 : Hid (∀ g, v2.ownBlock = some g → w.heap.size < g) := fun g hg => by rcases hf2 g hg with h | h; (have := own2.out _ h; have := block_lt HR0.out; omega); (have := block_lt X1.out; omega)
        clear hr2 hg2 hf2 b2 r2 x2 o2
        go_wp2_with fail
        (refine region_order (fun i : Nat => World.drewN _ i) [] [0, 1, 2, 3, 4, 5] 6 [7] mixed (by kernel_rfl) ⟨1, rfl⟩ ?_; simp only [List.map_cons, List.map_nil, Array.getD_eq_getD_getElem?, List.getElem?_toArray, List.getElem?_cons_zero, List.getElem?_cons_succ, Option.getD_some]; (repeat (refine wpPure_cons _ rfl (fun w' => by go_simp; try rfl) ?_; dsimp only [Act.put])); refine wpPure_nil ?_; (repeat (any_goals (first | go_big_quiet_step (fail) | quiet_step (fail) | (refine wpQuiet_step (fun K hK => ?_); go_simp; split <;> (refine hK _ ?_; clear hK K))))); (all_goals (refine wpQuiet_nil (fun nq => ?_))))
        have o5 : Off (fun b => b = w.heap.size) w2 (putCells (w2.drewN nq) w.heap.size 0 (tc ⟨xk, xt⟩)) := off_putCells (X := fun b => b = w.heap.size) rfl _ _ _ (Off.of_below (below_drewN (Below.refl _ _) _))
        have r4 := Lib.hid (R2.out.off o5 (fun g hg h => by have := OW3.out g hg; omega))
        have B4 : Hid (Below w.heap.size w (putCells (w2.drewN nq) w.heap.size 0 (tc ⟨xk, xt⟩))) := B2.out.trans (o5.toBelow (Nat.le_of_lt hsz2) (fun k hk h => by omega))
        clear o5
        go_wp2_with fail
        refine onlyN_intro ?_
        go_wp2_with fail
        refine bodyPost_ret (v := .tuple #[v2, .agg #[.int .i64 xk, .int .i64 xt], .bool true]) (by simp [results, Try.results18, go_sem, z0, z1]) rfl ⟨v2, rfl, r4.out, B4.out⟩
end QI
end Go.Proofs.Ytknmmgijhlpedaa
