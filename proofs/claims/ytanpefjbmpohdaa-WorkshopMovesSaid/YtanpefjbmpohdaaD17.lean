/- The reference's Valid. Condition: the ends are ints. -/
import Derived.Test.YtanpefjbmpohdaaD0
namespace Go.Proofs.Ytanpefjbmpohdaa
open Go.RowKit Go.ChangeShapes Go.WideShapes Go.Deep
set_option linter.unusedVariables false
set_option linter.unusedSimpArgs false
set_option maxHeartbeats 8000000 in
set_option maxRecDepth 100000 in
theorem valid17 (ao am al : Option Addr) (m c k c2 n c3 : Nat) (J : Nat → Jb) (M : Nat → Int) (L : Nat → Wk) (w : World) (h : Sl w 3 ao m c (jf J)) (h2 : Sl w 1 am k c2 (mf M)) (h3 : Sl w 4 al n c3 (wf L)) (hbd : ∀ i, i < n → inI (L i).til) :
    Calls Try.prog 17 #[.slice ao m c, .slice am k c2, .slice al n c3] w fun e w' => e = .returned (.bool (vB m J k M n L)) ∧ Below w.heap.size w w' := by
  have hmc := h.hm
  have hcc := h.hc
  have hkc := h2.hm
  have hcc2 := h2.hc
  have hnc := h3.hm
  have hcc3 := h3.hc
  have HS := Lib.hid h
  have HM := Lib.hid h2
  have HL := Lib.hid h3
  have HBD := Lib.hid hbd
  have HC := Lib.hid (check14 ao am m c k c2 J M w h h2)
  clear h h2 h3 hbd
  by_cases hc : chkE m J k M = 0
  · rw [hc] at HC
    by_cases hnm : n = m
    · subst hnm
      have CZ := chk_zero hc
      have hm32 := CZ.1
      have hk8 := CZ.2.1
      have HCZ := Lib.hid CZ.2.2
      have H0 := Lib.hid hc
      clear CZ hc
      have tbb : ((n : Int) != (n : Int)) = false := by simp
      go_enter Try.func17, Try.ntmps17
      go_wp2_with fail
      refine HC.out.mono ?_
      rintro e w1 ⟨rfl, b1⟩
      have B1 := Lib.hid b1
      clear b1 HC
      go_wp2_with fail
      go_loopw [7] (fun i wr => ∃ j : Nat, i = .int .i64 j ∧ j ≤ n ∧ Hid ((∀ i, i < j → fineW n J k M L i) ∧ Below w.heap.size w wr)) (fun i _ => n - (intOf i).toNat)
      case atStart => exact ⟨0, rfl, by omega, Lib.hid ⟨fun i hi => absurd hi (by omega), B1.out⟩⟩
      case round =>
        obtain ⟨j, rfl, hj, hrel⟩ := hrel
        by_cases hlt : j < n
        · have tj : (j : Int) < (n : Int) := by omega
          obtain ⟨g, o, rfl, hg, y0, y1, y2, y3⟩ := (HL.out.below hrel.out.2).work hlt
          have zg := szs hg
          have oc := okW_cases (m := n) (J := J) (k := k) (M := M) (L j)
          have oc2 := fun hh => okW_rest (m := n) (J := J) (k := k) (M := M) (x := L j) hh
          have hfw : fineW n J k M L j = (okW n J k M (L j) ∧ ∀ t, t < j → apart (L t) (L j)) := rfl
          have hbt := HBD.out j hlt
          unfold inI at hbt
          have HFW := Lib.hid hfw
          obtain ⟨q, hq⟩ : ∃ q, q = L j := ⟨_, rfl⟩
          rw [← hq] at y0 y1 y2 y3 oc oc2 HFW hbt
          have HQ := Lib.hid hq
          obtain ⟨q0, q1, q2, q3⟩ := q
          dsimp only at y0 y1 y2 y3 oc oc2 hbt
          have HB := Lib.hid hrel.out.2
          have HF := Lib.hid hrel.out.1
          have OC2 := Lib.hid oc2
          clear hfw hq hrel oc2
          obtain ⟨wo, rfl⟩ : ∃ wo : World, wo = wr := ⟨_, rfl⟩
          rcases oc with ⟨hf, a1⟩ | ⟨hf, a1, a2⟩ | ⟨hf, a1, a2, a3⟩ | ⟨hf, a1, a2, a3, a4⟩ | ⟨a1, a2, a3, a4⟩
          iterate 4
            focus
             have hx : vB n J k M n L = false := vB_bad hlt (by rw [HFW.out]; exact fun h => hf h.1)
             have HR := Lib.hid hx
             have BR := HB.out
             clear HFW HQ H0 HB HF hf hx OC2
             (first | (have d1 : decide (q0 < 0) = true := decide_eq_true (by omega)) | (have d1 : decide (q0 < 0) = false := decide_eq_false (by omega)) | skip)
             (first | (have d2 : decide ((n : Int) ≤ q0) = true := decide_eq_true (by omega)) | (have d2 : decide ((n : Int) ≤ q0) = false := decide_eq_false (by omega)) | skip)
             (first | (have d3 : decide (q1 < 0) = true := decide_eq_true (by omega)) | (have d3 : decide (q1 < 0) = false := decide_eq_false (by omega)) | skip)
             (first | (have d4 : decide ((k : Int) ≤ q1) = true := decide_eq_true (by omega)) | (have d4 : decide ((k : Int) ≤ q1) = false := decide_eq_false (by omega)) | skip)
             go_wp2_with fail
             (refine region_all (fun i : Nat => World.drewN _ i) mixed (by kernel_rfl) ⟨1, rfl⟩ ?_; (repeat (any_goals (first | go_big_quiet_step (fail) | quiet_step (fail) | (refine wpQuiet_step (fun K hK => ?_); go_simp; split <;> (refine hK _ ?_; clear hK K))))); (all_goals (refine wpQuiet_nil (fun nq => ?_))))
             go_wp2_with fail
             go_returns
             exact ⟨by rw [HR.out]; rfl, by (have hszz := (BR).size; (repeat' (first | (with_reducible exact Below.refl _ _) | (with_reducible assumption) | (with_reducible refine Below.drew ?_) | (with_reducible refine below_drewN ?_ _) | (with_reducible refine Below.alloc ?_ ?_ _) | (with_reducible refine Below.setCell ?_ ?_ _) | go_size)))⟩
          obtain ⟨jn, rfl⟩ : ∃ jn : Nat, q0 = (jn : Int) := ⟨q0.toNat, by omega⟩
          obtain ⟨vn, rfl⟩ : ∃ vn : Nat, q1 = (vn : Int) := ⟨q1.toNat, by omega⟩
          have hjn : jn < n := by omega
          have hvn : vn < k := by omega
          have oc3 := OC2.out ⟨a1, a2, a3, a4⟩
          rw [Int.toNat_natCast, Int.toNat_natCast] at oc3
          obtain ⟨gj, oj, rfl, hgj, j0, j1, j2⟩ := (HS.out.below HB.out).job hjn
          obtain ⟨gm, om, rfl, hgm, m0⟩ := (HM.out.below HB.out).mech hvn
          have zj := szs hgj
          have zm := szs hgm
          have HH := Lib.hid (fun w' => has22 (M vn) (J jn).skill w')
          have hsb := (HCZ.out jn hjn).2.2
          obtain ⟨s, hs⟩ : ∃ s, s = (J jn).secs := ⟨_, rfl⟩
          obtain ⟨sk, hsk⟩ : ∃ sk, sk = (J jn).skill := ⟨_, rfl⟩
          obtain ⟨km, hkm⟩ : ∃ km, km = M vn := ⟨_, rfl⟩
          rw [← hs, ← hsk, ← hkm] at oc3
          rw [← hsk, ← hkm] at HH
          rw [← hs] at j1 hsb
          rw [← hsk] at j2
          rw [← hkm] at m0
          obtain ⟨b, hb⟩ : ∃ b, b = hasB km sk := ⟨_, rfl⟩
          rw [← hb] at oc3 HH
          obtain ⟨hsb1, hsb2, hsb3⟩ := hsb
          clear OC2 hs hsk hkm hb j0 hsb3
          have d1 : decide ((jn : Int) < 0) = false := decide_eq_false (by omega)
          have d2 : decide ((n : Int) ≤ (jn : Int)) = false := decide_eq_false (by omega)
          have d2' : decide (n ≤ jn) = false := decide_eq_false (by omega)
          have d4' : decide (k ≤ vn) = false := decide_eq_false (by omega)
          have d3 : decide ((vn : Int) < 0) = false := decide_eq_false (by omega)
          have d4 : decide ((k : Int) ≤ (vn : Int)) = false := decide_eq_false (by omega)
          (first | (have d5 : decide (q2 < 0) = true := decide_eq_true (by omega)) | (have d5 : decide (q2 < 0) = false := decide_eq_false (by omega)) | skip)
          rcases oc3 with ⟨hf, r1⟩ | ⟨hf, r1, r2⟩ | ⟨hf, r1, r2, r3⟩ | ⟨hf, r1, r2, r3, r4⟩ | ⟨hf, r1, r2, r3, r4⟩
          iterate 1
            focus
             have hx : vB n J k M n L = false := vB_bad hlt (by rw [HFW.out]; exact fun h => hf h.1)
             have HR := Lib.hid hx
             (first | (have d5 : decide (q2 < 0) = true := decide_eq_true (by omega)) | (have d5 : decide (q2 < 0) = false := decide_eq_false (by omega)) | skip)
             (first | (have d6 : decide (q3 < q2) = true := decide_eq_true (by omega)) | (have d6 : decide (q3 < q2) = false := decide_eq_false (by omega)) | skip)
             first | (have d7 : (q3 - q2 != s) = true := by simp; exact r4) | skip
             first | (have d8 : IntKind.i64.wrap (q3 - q2) = q3 - q2 := IntWalk.i64_in _ (by omega)) | skip
             subst r1
             clear HFW HQ H0 HF hf hx
             go_wp2_with fail
             obtain ⟨w2, hw2⟩ : ∃ w2, w2 = wo.alloc (.cells #[.int .i64 jn, .int .i64 vn, .int .i64 q2, .int .i64 q3] 43) := ⟨_, rfl⟩
             rw [← hw2]
             have b2 : Below wo.heap.size wo w2 := by rw [hw2]; exact (Below.refl _ _).alloc (Nat.le_refl _) _
             have x2 : w2.heap[wo.heap.size]? = some (.cells #[.int .i64 jn, .int .i64 vn, .int .i64 q2, .int .i64 q3] 43) := by rw [hw2]; exact heap_alloc_new wo _
             have B2 := Lib.hid (HB.out.trans (b2.mono HB.out.size))
             have X2 := Lib.hid x2
             (obtain ⟨ι, hne, Fw, fb, hF⟩ := grow_family w2); have hF : ∀ w', (gPlan w2 (fun _ => .bool false) [34] [] []).D () w' → ∃ i, w' = Fw i := hF
             have f0 := fun i => cell_kept (fb i) (show w2.cell? ⟨wo.heap.size, 0, none⟩ = some (.int .i64 jn) from cell_at x2 0)
             have f1 := fun i => cell_kept (fb i) (show w2.cell? ⟨wo.heap.size, 1, none⟩ = some (.int .i64 vn) from cell_at x2 1)
             have f2 := fun i => cell_kept (fb i) (show w2.cell? ⟨wo.heap.size, 2, none⟩ = some (.int .i64 q2) from cell_at x2 2)
             have f3 := fun i => cell_kept (fb i) (show w2.cell? ⟨wo.heap.size, 3, none⟩ = some (.int .i64 q3) from cell_at x2 3)
             have f4 := fun i => cell_kept (fb i) (cell_kept b2 m0)
             have f5 := fun i => cell_kept (fb i) (cell_kept b2 j1)
             have f6 := fun i => cell_kept (fb i) (cell_kept b2 j2)
             clear hw2 b2 x2 y0 y1 y2 y3 m0 j1 j2 zg
             (refine region_chain (gPlan w2 (fun _ => .bool false) [34] [] []) () [] [0, 1, 2, 3, 4, 5, 6, 7, 8, 9, 10, 11, 12, 13, 14, 15, 16, 17, 18, 19, 20, 21, 22, 23, 24, 25, 26, 27, 28, 29, 30, 31, 32, 33, 34, 35, 36, 37, 38, 39, 40, 41, 42, 43, 44, 45, 46, 47, 48, 49, 50, 51, 52, 53, 54, 55, 56, 57, 58, 59, 60, 61, 62] [] mixed (by kernel_rfl) (by kernel_rfl) (gPlan_ok (by simp) (by simp)) (gPlan_start _ _ _ _ _) ?_; refine wpPure_nil ?_; simp only [List.map_cons, List.map_nil, Array.getD_eq_getD_getElem?, List.getElem?_toArray, List.getElem?_cons_zero, List.getElem?_cons_succ, Option.getD_some])
             (repeat (first | (refine wpChain_skip rfl ?_; simp only [Act.put, List.setIfInBounds_toArray, List.set_cons_succ, List.set_cons_zero]) | (refine wpChain_quiet hF rfl rfl rfl ?_; intro K hK; go_big_quiet_op; go_big_quiet_on) | (refine wpChain_pure _ rfl rfl (fun w' _ => by go_simp; try rfl) ?_; simp only [Act.put, List.setIfInBounds_toArray, List.set_cons_succ, List.set_cons_zero])))
             refine wpChain_gcall 22 #[.agg #[.int .i64 km], .int .i64 sk] rfl rfl (fun w' => by go_simp) (fun w' hb => HH.out w') ?_
             simp only [Act.put, List.setIfInBounds_toArray, List.set_cons_succ, List.set_cons_zero]
             (repeat (first | (refine wpChain_skip rfl ?_; simp only [Act.put, List.setIfInBounds_toArray, List.set_cons_succ, List.set_cons_zero]) | (refine wpChain_quiet hF rfl rfl rfl ?_; intro K hK; go_big_quiet_op; go_big_quiet_on) | (refine wpChain_pure _ rfl rfl (fun w' _ => by go_simp; try rfl) ?_; simp only [Act.put, List.setIfInBounds_toArray, List.set_cons_succ, List.set_cons_zero])))
             refine wpChain_nil (fun w4 hb4 hl4 => ?_)
             have B4 : Hid (Below w2.heap.size w2 w4) := hb4
             clear hb4 hl4 hF fb f0 f1 f2 f3 f4 f5 f6 hne
             refine onlyN_intro ?_
             go_wp2_with fail
             go_returns
             exact ⟨by rw [HR.out]; rfl, B2.out.trans (B4.out.mono B2.out.size)⟩
          iterate 3
            focus
             have hx : vB n J k M n L = false := vB_bad hlt (by rw [HFW.out]; exact fun h => hf h.1)
             have HR := Lib.hid hx
             (first | (have d5 : decide (q2 < 0) = true := decide_eq_true (by omega)) | (have d5 : decide (q2 < 0) = false := decide_eq_false (by omega)) | skip)
             (first | (have d6 : decide (q3 < q2) = true := decide_eq_true (by omega)) | (have d6 : decide (q3 < q2) = false := decide_eq_false (by omega)) | skip)
             first | (have d7 : (q3 - q2 != s) = true := by simp; exact r4) | skip
             first | (have d8 : IntKind.i64.wrap (q3 - q2) = q3 - q2 := IntWalk.i64_in _ (by omega)) | skip
             subst r1
             clear HFW HQ H0 HF hf hx
             go_wp2_with fail
             obtain ⟨w2, hw2⟩ : ∃ w2, w2 = wo.alloc (.cells #[.int .i64 jn, .int .i64 vn, .int .i64 q2, .int .i64 q3] 43) := ⟨_, rfl⟩
             rw [← hw2]
             have b2 : Below wo.heap.size wo w2 := by rw [hw2]; exact (Below.refl _ _).alloc (Nat.le_refl _) _
             have x2 : w2.heap[wo.heap.size]? = some (.cells #[.int .i64 jn, .int .i64 vn, .int .i64 q2, .int .i64 q3] 43) := by rw [hw2]; exact heap_alloc_new wo _
             have B2 := Lib.hid (HB.out.trans (b2.mono HB.out.size))
             have X2 := Lib.hid x2
             (obtain ⟨ι, hne, Fw, fb, hF⟩ := grow_family w2); have hF : ∀ w', (gPlan w2 (fun _ => .bool true) [34] [] []).D () w' → ∃ i, w' = Fw i := hF
             have f0 := fun i => cell_kept (fb i) (show w2.cell? ⟨wo.heap.size, 0, none⟩ = some (.int .i64 jn) from cell_at x2 0)
             have f1 := fun i => cell_kept (fb i) (show w2.cell? ⟨wo.heap.size, 1, none⟩ = some (.int .i64 vn) from cell_at x2 1)
             have f2 := fun i => cell_kept (fb i) (show w2.cell? ⟨wo.heap.size, 2, none⟩ = some (.int .i64 q2) from cell_at x2 2)
             have f3 := fun i => cell_kept (fb i) (show w2.cell? ⟨wo.heap.size, 3, none⟩ = some (.int .i64 q3) from cell_at x2 3)
             have f4 := fun i => cell_kept (fb i) (cell_kept b2 m0)
             have f5 := fun i => cell_kept (fb i) (cell_kept b2 j1)
             have f6 := fun i => cell_kept (fb i) (cell_kept b2 j2)
             clear hw2 b2 x2 y0 y1 y2 y3 m0 j1 j2 zg
             (refine region_chain (gPlan w2 (fun _ => .bool true) [34] [] []) () [] [0, 1, 2, 3, 4, 5, 6, 7, 8, 9, 10, 11, 12, 13, 14, 15, 16, 17, 18, 19, 20, 21, 22, 23, 24, 25, 26, 27, 28, 29, 30, 31, 32, 33, 34, 35, 36, 37, 38, 39, 40, 41, 42, 43, 44, 45, 46, 47, 48, 49, 50, 51, 52, 53, 54, 55, 56, 57, 58, 59, 60, 61, 62] [] mixed (by kernel_rfl) (by kernel_rfl) (gPlan_ok (by simp) (by simp)) (gPlan_start _ _ _ _ _) ?_; refine wpPure_nil ?_; simp only [List.map_cons, List.map_nil, Array.getD_eq_getD_getElem?, List.getElem?_toArray, List.getElem?_cons_zero, List.getElem?_cons_succ, Option.getD_some])
             (repeat (first | (refine wpChain_skip rfl ?_; simp only [Act.put, List.setIfInBounds_toArray, List.set_cons_succ, List.set_cons_zero]) | (refine wpChain_quiet hF rfl rfl rfl ?_; intro K hK; go_big_quiet_op; go_big_quiet_on) | (refine wpChain_pure _ rfl rfl (fun w' _ => by go_simp; try rfl) ?_; simp only [Act.put, List.setIfInBounds_toArray, List.set_cons_succ, List.set_cons_zero])))
             refine wpChain_gcall 22 #[.agg #[.int .i64 km], .int .i64 sk] rfl rfl (fun w' => by go_simp) (fun w' hb => HH.out w') ?_
             simp only [Act.put, List.setIfInBounds_toArray, List.set_cons_succ, List.set_cons_zero]
             (repeat (first | (refine wpChain_skip rfl ?_; simp only [Act.put, List.setIfInBounds_toArray, List.set_cons_succ, List.set_cons_zero]) | (refine wpChain_quiet hF rfl rfl rfl ?_; intro K hK; go_big_quiet_op; go_big_quiet_on) | (refine wpChain_pure _ rfl rfl (fun w' _ => by go_simp; try rfl) ?_; simp only [Act.put, List.setIfInBounds_toArray, List.set_cons_succ, List.set_cons_zero])))
             refine wpChain_nil (fun w4 hb4 hl4 => ?_)
             have B4 : Hid (Below w2.heap.size w2 w4) := hb4
             clear hb4 hl4 hF fb f0 f1 f2 f3 f4 f5 f6 hne
             refine onlyN_intro ?_
             go_wp2_with fail
             go_returns
             exact ⟨by rw [HR.out]; rfl, B2.out.trans (B4.out.mono B2.out.size)⟩
          (first | (have d5 : decide (q2 < 0) = true := decide_eq_true (by omega)) | (have d5 : decide (q2 < 0) = false := decide_eq_false (by omega)) | skip)
          (first | (have d6 : decide (q3 < q2) = true := decide_eq_true (by omega)) | (have d6 : decide (q3 < q2) = false := decide_eq_false (by omega)) | skip)
          first | (have d7 : (q3 - q2 != s) = false := by simp; exact r4) | skip
          first | (have d8 : IntKind.i64.wrap (q3 - q2) = q3 - q2 := IntWalk.i64_in _ (by omega)) | skip
          subst r1
          have OKW := Lib.hid hf
          clear hf
          go_wp2_with fail
          obtain ⟨w2, hw2⟩ : ∃ w2, w2 = wo.alloc (.cells #[.int .i64 jn, .int .i64 vn, .int .i64 q2, .int .i64 q3] 43) := ⟨_, rfl⟩
          rw [← hw2]
          have b2 : Below wo.heap.size wo w2 := by rw [hw2]; exact (Below.refl _ _).alloc (Nat.le_refl _) _
          have x2 : w2.heap[wo.heap.size]? = some (.cells #[.int .i64 jn, .int .i64 vn, .int .i64 q2, .int .i64 q3] 43) := by rw [hw2]; exact heap_alloc_new wo _
          have B2 := Lib.hid (HB.out.trans (b2.mono HB.out.size))
          have X2 := Lib.hid x2
          (obtain ⟨ι, hne, Fw, fb, hF⟩ := grow_family w2); have hF : ∀ w', (gPlan w2 (fun _ => .bool true) [34] [] []).D () w' → ∃ i, w' = Fw i := hF
          have f0 := fun i => cell_kept (fb i) (show w2.cell? ⟨wo.heap.size, 0, none⟩ = some (.int .i64 jn) from cell_at x2 0)
          have f1 := fun i => cell_kept (fb i) (show w2.cell? ⟨wo.heap.size, 1, none⟩ = some (.int .i64 vn) from cell_at x2 1)
          have f2 := fun i => cell_kept (fb i) (show w2.cell? ⟨wo.heap.size, 2, none⟩ = some (.int .i64 q2) from cell_at x2 2)
          have f3 := fun i => cell_kept (fb i) (show w2.cell? ⟨wo.heap.size, 3, none⟩ = some (.int .i64 q3) from cell_at x2 3)
          have f4 := fun i => cell_kept (fb i) (cell_kept b2 m0)
          have f5 := fun i => cell_kept (fb i) (cell_kept b2 j1)
          have f6 := fun i => cell_kept (fb i) (cell_kept b2 j2)
          clear hw2 b2 x2 y0 y1 y2 y3 m0 j1 j2 zg
          (refine region_chain (gPlan w2 (fun _ => .bool true) [34] [] []) () [] [0, 1, 2, 3, 4, 5, 6, 7, 8, 9, 10, 11, 12, 13, 14, 15, 16, 17, 18, 19, 20, 21, 22, 23, 24, 25, 26, 27, 28, 29, 30, 31, 32, 33, 34, 35, 36, 37, 38, 39, 40, 41, 42, 43, 44, 45, 46, 47, 48, 49, 50, 51, 52, 53, 54, 55, 56, 57, 58, 59, 60, 61, 62] [] mixed (by kernel_rfl) (by kernel_rfl) (gPlan_ok (by simp) (by simp)) (gPlan_start _ _ _ _ _) ?_; refine wpPure_nil ?_; simp only [List.map_cons, List.map_nil, Array.getD_eq_getD_getElem?, List.getElem?_toArray, List.getElem?_cons_zero, List.getElem?_cons_succ, Option.getD_some])
          (repeat (first | (refine wpChain_skip rfl ?_; simp only [Act.put, List.setIfInBounds_toArray, List.set_cons_succ, List.set_cons_zero]) | (refine wpChain_quiet hF rfl rfl rfl ?_; intro K hK; go_big_quiet_op; go_big_quiet_on) | (refine wpChain_pure _ rfl rfl (fun w' _ => by go_simp; try rfl) ?_; simp only [Act.put, List.setIfInBounds_toArray, List.set_cons_succ, List.set_cons_zero])))
          refine wpChain_gcall 22 #[.agg #[.int .i64 km], .int .i64 sk] rfl rfl (fun w' => by go_simp) (fun w' hb => HH.out w') ?_
          simp only [Act.put, List.setIfInBounds_toArray, List.set_cons_succ, List.set_cons_zero]
          (repeat (first | (refine wpChain_skip rfl ?_; simp only [Act.put, List.setIfInBounds_toArray, List.set_cons_succ, List.set_cons_zero]) | (refine wpChain_quiet hF rfl rfl rfl ?_; intro K hK; go_big_quiet_op; go_big_quiet_on) | (refine wpChain_pure _ rfl rfl (fun w' _ => by go_simp; try rfl) ?_; simp only [Act.put, List.setIfInBounds_toArray, List.set_cons_succ, List.set_cons_zero])))
          refine wpChain_nil (fun w4 hb4 hl4 => ?_)
          have B4 : Hid (Below w2.heap.size w2 w4) := hb4
          clear hb4 hl4 hF fb f0 f1 f2 f3 f4 f5 f6 hne
          refine onlyN_intro ?_
          go_wp2_with fail
          have X4 := Lib.hid ((B4.out.block _ (block_lt X2.out)).trans X2.out)
          have B5 := Lib.hid (B2.out.trans (B4.out.mono B2.out.size))
          clear X2 B2 B4 d1 d2 d2' d3 d4 d4' d5 d6 d7 d8 zj zm hgj hgm
          go_loopw [9] (fun i wi => ∃ t : Nat, i = .int .i64 t ∧ t ≤ j ∧ Hid ((∀ t', t' < t → apart (L t') ⟨jn, vn, q2, q3⟩) ∧ Below w4.heap.size w4 wi)) (fun i _ => j - (intOf i).toNat)
          case atStart => exact ⟨0, rfl, by omega, Lib.hid ⟨fun i hi => absurd hi (by omega), Below.refl _ _⟩⟩
          case round =>
            obtain ⟨t, rfl, ht, hrel⟩ := hrel
            have xx := (hrel.out.2.block _ (block_lt X4.out)).trans X4.out
            have c0 : wr.cell? ⟨wo.heap.size, 0, none⟩ = some (.int .i64 jn) := cell_at xx 0
            have c1 : wr.cell? ⟨wo.heap.size, 1, none⟩ = some (.int .i64 vn) := cell_at xx 1
            have e2 : wr.cell? ⟨wo.heap.size, 2, none⟩ = some (.int .i64 q2) := cell_at xx 2
            have e3 : wr.cell? ⟨wo.heap.size, 3, none⟩ = some (.int .i64 q3) := cell_at xx 3
            have zx := szs (block_lt xx)
            have BR := Lib.hid (B5.out.trans (hrel.out.2.mono B5.out.size))
            by_cases hlt2 : t < j
            · have tt : (t : Int) < (j : Int) := by omega
              have tm2 : (t : Int) < (n : Int) := by omega
              obtain ⟨g', o', e', hg', z0, z1, z2, z3⟩ := (HL.out.below BR.out).work (show t < n by omega)
              cases e'
              have zg := szs hg'
              have okt := (HF.out t hlt2).1
              obtain ⟨x, hx⟩ : ∃ x, x = L t := ⟨_, rfl⟩
              rw [← hx] at z0 z1 z2 z3 okt
              have hx23 : x.frm < x.til := by
                have h1 := (HCZ.out x.job.toNat (by have := okt.1; have := okt.2.1; omega)).2.2.1
                have h2 := okt.2.2.2.2.2.2.2
                omega
              have HX := Lib.hid hx
              have HT := Lib.hid hrel.out
              have hna : ¬ apart x ⟨jn, vn, q2, q3⟩ → vB n J k M n L = false := fun h => vB_bad hlt (by rw [HFW.out]; exact fun hh => h (by rw [HX.out]; exact hh.2 t hlt2))
              have HNA := Lib.hid hna
              have happ : apart x ⟨jn, vn, q2, q3⟩ → ∀ t', t' < t + 1 → apart (L t') ⟨jn, vn, q2, q3⟩ := fun h t' ht' => by
                by_cases e : t' = t
                · subst e; rw [← HX.out]; exact h
                · exact HT.out.1 t' (by omega)
              have HAP := Lib.hid happ
              clear hx hrel xx okt hna happ
              obtain ⟨x0, x1, x2, x3⟩ := x
              dsimp only at z0 z1 z2 z3 hx23
              by_cases ha : x0 = (jn : Int)
              · have hb : (x0 == (jn : Int)) = true := by simp [ha]
                have HR := Lib.hid (HNA.out (fun h => h.1 ha))
                clear ha HNA HAP HT HX HFW HF OKW hx23
                go_wp2_with fail
                (refine region_all (fun i : Nat => World.drewN _ i) mixed (by kernel_rfl) ⟨1, rfl⟩ ?_; (repeat (any_goals (first | go_big_quiet_step (fail) | quiet_step (fail) | (refine wpQuiet_step (fun K hK => ?_); go_simp; split <;> (refine hK _ ?_; clear hK K))))); (all_goals (refine wpQuiet_nil (fun nq => ?_))))
                go_wp2_with fail
                go_returns
                exact ⟨by rw [HR.out]; rfl, by have := BR.out; (have hszz := (this).size; (repeat' (first | (with_reducible exact Below.refl _ _) | (with_reducible assumption) | (with_reducible refine Below.drew ?_) | (with_reducible refine below_drewN ?_ _) | (with_reducible refine Below.alloc ?_ ?_ _) | (with_reducible refine Below.setCell ?_ ?_ _) | go_size)))⟩
              · have hb : (x0 == (jn : Int)) = false := by simp [ha]
                by_cases hm : x1 = (vn : Int)
                · have hb2 : (x1 == (vn : Int)) = true := by simp [hm]
                  by_cases ho : x2 < q3 ∧ q2 < x3
                  · have HR := Lib.hid (HNA.out (fun h => h.2 hm ho))
                    have hz : decide ((if x2 < q2 then q2 else x2) < (if q3 < x3 then q3 else x3)) = true := decide_eq_true (by split <;> split <;> omega)
                    clear ha hm HNA HAP HT HX HFW HF OKW ho hx23
                    go_wp2_with fail
                    (refine region_all (fun i : Nat => World.drewN _ i) mixed (by kernel_rfl) ⟨1, rfl⟩ ?_; (repeat (any_goals (first | go_big_quiet_step (fail) | quiet_step (fail) | (refine wpQuiet_step (fun K hK => ?_); go_simp; split <;> (refine hK _ ?_; clear hK K))))); (all_goals (refine wpQuiet_nil (fun nq => ?_))))
                    go_wp2_with fail
                    all_goals go_returns
                    all_goals exact ⟨by rw [HR.out]; rfl, by have := BR.out; (have hszz := (this).size; (repeat' (first | (with_reducible exact Below.refl _ _) | (with_reducible assumption) | (with_reducible refine Below.drew ?_) | (with_reducible refine below_drewN ?_ _) | (with_reducible refine Below.alloc ?_ ?_ _) | (with_reducible refine Below.setCell ?_ ?_ _) | go_size)))⟩
                  · have HA := Lib.hid (HAP.out ⟨ha, fun _ => ho⟩)
                    have hz : decide ((if x2 < q2 then q2 else x2) < (if q3 < x3 then q3 else x3)) = false := decide_eq_false (by split <;> split <;> omega)
                    clear ho ha hm HNA HAP HX HFW hx23
                    go_wp2_with fail
                    (refine region_all (fun i : Nat => World.drewN _ i) mixed (by kernel_rfl) ⟨1, rfl⟩ ?_; (repeat (any_goals (first | go_big_quiet_step (fail) | quiet_step (fail) | (refine wpQuiet_step (fun K hK => ?_); go_simp; split <;> (refine hK _ ?_; clear hK K))))); (all_goals (refine wpQuiet_nil (fun nq => ?_))))
                    go_wp2_with fail
                    go_roundw
                    case rel => exact ⟨t + 1, by go_num, by omega, Lib.hid ⟨HA.out, by have := HT.out.2; (have hszz := (this).size; (repeat' (first | (with_reducible exact Below.refl _ _) | (with_reducible assumption) | (with_reducible refine Below.drew ?_) | (with_reducible refine below_drewN ?_ _) | (with_reducible refine Below.alloc ?_ ?_ _) | (with_reducible refine Below.setCell ?_ ?_ _) | go_size)))⟩⟩
                    case measure => simp [intOf]; omega
                · have hb2 : (x1 == (vn : Int)) = false := by simp [hm]
                  have HA := Lib.hid (HAP.out ⟨ha, fun h => absurd h hm⟩)
                  clear ha hm HNA HAP HX HFW hx23
                  go_wp2_with fail
                  (refine region_all (fun i : Nat => World.drewN _ i) mixed (by kernel_rfl) ⟨1, rfl⟩ ?_; (repeat (any_goals (first | go_big_quiet_step (fail) | quiet_step (fail) | (refine wpQuiet_step (fun K hK => ?_); go_simp; split <;> (refine hK _ ?_; clear hK K))))); (all_goals (refine wpQuiet_nil (fun nq => ?_))))
                  go_wp2_with fail
                  go_roundw
                  case rel => exact ⟨t + 1, by go_num, by omega, Lib.hid ⟨HA.out, by have := HT.out.2; (have hszz := (this).size; (repeat' (first | (with_reducible exact Below.refl _ _) | (with_reducible assumption) | (with_reducible refine Below.drew ?_) | (with_reducible refine below_drewN ?_ _) | (with_reducible refine Below.alloc ?_ ?_ _) | (with_reducible refine Below.setCell ?_ ?_ _) | go_size)))⟩⟩
                  case measure => simp [intOf]; omega
            · obtain rfl : t = j := by omega
              have HA : Hid (∀ i, i < t + 1 → fineW n J k M L i) := Lib.hid (fun i hi => by
                by_cases e : i = t
                · subst e; rw [HFW.out]; exact ⟨OKW.out, hrel.out.1⟩
                · exact HF.out i (by omega))
              have HT := Lib.hid hrel.out.2
              clear hrel xx
              go_wp2_with fail
              go_roundw
              case rel => exact ⟨t + 1, by go_num, by omega, Lib.hid ⟨HA.out, BR.out⟩⟩
              case measure => simp [intOf]; omega
        · obtain rfl : j = n := by omega
          have hv : vB j J k M j L = true := vB_all H0.out rfl hrel.out.1
          have hr2 := Lib.hid hrel.out.2
          have hr1 := Lib.hid hv
          clear hrel hv
          go_wp2_with fail
          go_returns
          exact ⟨by rw [hr1.out]; rfl, hr2.out⟩
    · have hv : vB m J k M n L = false := vB_len hnm
      have HV := Lib.hid hv
      have tbb : ((n : Int) != (m : Int)) = true := by simp; omega
      clear hv hnm hc
      go_enter Try.func17, Try.ntmps17
      go_wp2_with fail
      refine HC.out.mono ?_
      rintro e w1 ⟨rfl, b1⟩
      have B1 := Lib.hid b1
      clear b1 HC
      go_wp2_with fail
      go_returns
      exact ⟨by rw [HV.out]; rfl, B1.out⟩
  · have hv : vB m J k M n L = false := vB_chk hc
    have HV := Lib.hid hv
    generalize chkE m J k M = ce at *
    have tb : (ce != 0) = true := by simp; exact hc
    clear hv hc
    go_enter Try.func17, Try.ntmps17
    go_wp2_with fail
    refine HC.out.mono ?_
    rintro e w1 ⟨rfl, b1⟩
    have B1 := Lib.hid b1
    clear b1 HC
    go_wp2_with fail
    go_returns
    exact ⟨by rw [HV.out]; rfl, B1.out⟩
end Go.Proofs.Ytanpefjbmpohdaa
