/- The examples of the chapter hold. -/
import Derived.Test.YtmhnkfcbbjbpfaaAW
import Derived.Test.YtmhnkfcbbjbpfaaEC2
namespace Go.Proofs.Ytmhnkfcbbjbpfaa
open Go.RowKit Go.ChangeShapes Go.WideShapes Go.Deep
set_option linter.unusedVariables false
set_option linter.unusedSimpArgs false
theorem two_of {m : Nat} {R : Nat → Ev} {x y : Ev} (h : ents R m = [x, y]) : m = 2 ∧ R 0 = x ∧ R 1 = y := by
  have hm : m = 2 := by have := congrArg List.length h; rw [ents_len] at this; exact this
  subst hm
  have h0 := congrArg (fun l => l[0]?) h
  have h1 := congrArg (fun l => l[1]?) h
  simp only [ents_get (show 0 < 2 by decide), ents_get (show 1 < 2 by decide)] at h0 h1
  exact ⟨rfl, Option.some.inj h0, Option.some.inj h1⟩
theorem inN_evA : inN evA := by
  intro x hx
  simp only [nums, evA, List.mem_cons, List.not_mem_nil, or_false] at hx
  omega
set_option maxRecDepth 4000 in
set_option maxHeartbeats 4000000 in
theorem awake14 (w : World) : Calls Try.prog 14 #[] w fun e w' => e = .returned (.bool true) ∧ Below w.heap.size w w' := by
  have M1 := AwM.start w
  have S1 := awW_events w
  have C1 := set22 _ 3 3 evL _ S1 (by omega)
  go_enter Try.func14, Try.ntmps14
  go_wp2_with fail
  change Calls _ _ _ (awW w) _
  generalize awW w = w1 at *
  replace M1 := Lib.hid M1
  generalize hA4 : w.heap.size + 1 + 1 + 1 + 1 = A4 at C1 ⊢
  generalize hA3 : w.heap.size + 1 + 1 + 1 = A3 at C1 ⊢
  generalize hA2 : w.heap.size + 1 + 1 = A2 at C1 ⊢
  refine C1.mono ?_
  rintro e w2 ⟨v, m, R, rfl, hm, hrow, hb⟩
  rw [setE_evL] at hm
  obtain ⟨rfl, r0, r1⟩ := two_of hm
  obtain ⟨bo, bc, rfl, S2⟩ := EvRow.toSl hrow
  have M2 := Lib.hid (M1.out.below hb)
  have R0 := Lib.hid r0
  have R1 := Lib.hid r1
  have SS2 := Lib.hid S2
  clear C1 M1 S1 hb hrow hm r0 r1 S2
  have hs : ∀ (W : World), W.heap[w2.heap.size]? = some (.cells #[.int .i64 980, .int .i64 1000, .int .i64 1000] 52 (0, 0)) → SySl W (some ⟨w2.heap.size, 0, none⟩) 1 awS := fun W h i hi => by
    obtain rfl : i = 0 := by omega
    exact ⟨_, 0, rfl, cell_at h 0, cell_at h 1, cell_at h 2⟩
  have C3 := report30 3 2 awR _ 1 1 awS 1000 _ (by omega) (by omega) (hs _ (heap_alloc_new w2 (.cells #[.int .i64 980, .int .i64 1000, .int .i64 1000] 52)))
  rw [rep_aw] at C3
  replace C3 := Lib.hid C3
  clear hs
  go_wp2_with fail
  refine C3.out.mono ?_
  rintro e w3 ⟨rfl, hb⟩
  have B23 : Below w2.heap.size w2 w3 := ((Below.refl w2.heap.size w2).alloc (Nat.le_refl _) _).trans (hb.mono (by simp))
  have M3 := Lib.hid (M2.out.below B23)
  have SS3 := Lib.hid (SS2.out.below B23)
  have x3 := M3.out.x3
  rw [hA3] at x3
  unfold eC evA at x3
  dsimp only at x3
  have z3 := szs (block_lt x3)
  have c0 := cell_at x3 0
  have c1 := cell_at x3 1
  have c2 := cell_at x3 2
  have c3 := cell_at x3 3
  have c4 := cell_at x3 4
  have c5 := cell_at x3 5
  have c6 := cell_at x3 6
  have c7 := cell_at x3 7
  have c8 := cell_at x3 8
  unfold evV eC
  dsimp only
  clear C3 M2 SS2 hb B23 x3
  go_wp2_with fail
  obtain ⟨w4, hw4⟩ : ∃ w4, w4 = w3.alloc (.cells #[.int .i64 3, .int .i64 7, .int .i64 1599, .int .i64 1601, .int .i64 2, .int .i64 2, .int .i64 9, .int .i64 0, .int .i64 0] 26) := ⟨_, rfl⟩
  rw [← hw4]
  have B34 : Below w3.heap.size w3 w4 := by rw [hw4]; (repeat' (first | (with_reducible exact Below.refl _ _) | (with_reducible assumption) | (with_reducible refine Below.drew ?_) | (with_reducible refine below_drewN ?_ _) | (with_reducible refine Below.alloc ?_ ?_ _) | (with_reducible refine Below.setCell ?_ ?_ _) | go_size))
  have X4 : Hid (w4.heap[w3.heap.size]? = some (.cells #[.int .i64 3, .int .i64 7, .int .i64 1599, .int .i64 1601, .int .i64 2, .int .i64 2, .int .i64 9, .int .i64 0, .int .i64 0] 26 (0, 0))) := Lib.hid (by rw [hw4]; exact heap_alloc_new w3 _)
  have M4 := Lib.hid (M3.out.below B34)
  have SS4 := Lib.hid (SS3.out.below B34)
  have C4 := encode28 evA w4 inN_evA
  clear hw4 B34 M3 SS3 z3 c0 c1 c2 c3 c4 c5 c6 c7 c8
  refine C4.mono ?_
  rintro e w5 ⟨v, k, B, rfl, hB, hrow, hb⟩
  obtain ⟨bo2, bc2, rfl, S5⟩ := BRow.toSl hrow
  have hk : k ≤ 90 := by
    have := congrArg List.length hB
    rw [ents_len] at this
    have := encE_len inN_evA
    omega
  have C5 := decode25 bo2 k bc2 B w5 S5 (fun i hi => by
    have : B i ∈ ents B k := mem_ents.2 ⟨i, hi, rfl⟩
    rw [hB] at this
    exact encL_byte _ _ this) (by omega)
  rw [hB, dec_enc inN_evA] at C5
  unfold evV eC evA at C5
  dsimp only at C5
  replace C5 := Lib.hid C5
  have X5 := Lib.hid ((hb.block _ (block_lt X4.out)).trans X4.out)
  have M5 := Lib.hid (M4.out.below hb)
  have SS5 := Lib.hid (SS4.out.below hb)
  clear C4 hb hrow hB S5 hk X4 M4 SS4
  go_wp2_with fail
  refine C5.out.mono ?_
  rintro e w6 ⟨rfl, hb⟩
  have X6 := Lib.hid ((hb.block _ (block_lt X5.out)).trans X5.out)
  have M6 := Lib.hid (M5.out.below hb)
  have SS6 := Lib.hid (SS5.out.below hb)
  clear C5 hb X5 M5 SS5
  go_wp2_with fail
  obtain ⟨w7, hw7⟩ : ∃ w7, w7 = w6.alloc (.cells #[.int .i64 1, .int .i64 2, .int .i64 100, .int .i64 100, .int .i64 1, .int .i64 2, .int .i64 33, .int .i64 0, .int .i64 0] 26) := ⟨_, rfl⟩
  rw [← hw7]
  have B67 : Below w6.heap.size w6 w7 := by rw [hw7]; (repeat' (first | (with_reducible exact Below.refl _ _) | (with_reducible assumption) | (with_reducible refine Below.drew ?_) | (with_reducible refine below_drewN ?_ _) | (with_reducible refine Below.alloc ?_ ?_ _) | (with_reducible refine Below.setCell ?_ ?_ _) | go_size))
  have Y7 : Hid (w7.heap[w6.heap.size]? = some (.cells #[.int .i64 1, .int .i64 2, .int .i64 100, .int .i64 100, .int .i64 1, .int .i64 2, .int .i64 33, .int .i64 0, .int .i64 0] 26 (0, 0))) := Lib.hid (by rw [hw7]; exact heap_alloc_new w6 _)
  have X7 := Lib.hid ((B67.block _ (block_lt X6.out)).trans X6.out)
  have M7 := Lib.hid (M6.out.below B67)
  have SS7 := Lib.hid (SS6.out.below B67)
  clear hw7 B67 X6 M6 SS6
  obtain ⟨g, o, rfl, hg, P0⟩ := evs_at SS7.out (show 0 < 2 by decide)
  obtain ⟨g', o', e', _, P1⟩ := evs_at SS7.out (show 1 < 2 by decide)
  cases e'
  rw [R0.out, Nat.zero_mul, Nat.add_zero] at P0
  rw [R1.out, Nat.one_mul] at P1
  (have a0 := (P0).c0; have a1 := (P0).c1; have a2 := (P0).c2; have a3 := (P0).c3; have a4 := (P0).c4; have a5 := (P0).c5; have a6 := (P0).c6; have a7 := (P0).c7; have a8 := (P0).c8); (try dsimp only at a0 a1 a2 a3 a4 a5 a6 a7 a8)
  (have d0 := (P1).c0; have d1 := (P1).c1; have d2 := (P1).c2; have d3 := (P1).c3; have d4 := (P1).c4; have d5 := (P1).c5; have d6 := (P1).c6; have d7 := (P1).c7; have d8 := (P1).c8); (try dsimp only at d0 d1 d2 d3 d4 d5 d6 d7 d8)
  have zg := szs hg
  have CS := Lib.hid (fun (b : Nat) (w' : World) (hb : Below w7.heap.size w7 w') (hx : w'.heap[b]? = some (.cells #[.int .i64 0, .int .i64 1, .int .i64 5, .int .i64 0, .int .i64 0, .int .i64 0, .int .i64 0, .int .i64 0, .int .i64 0, .int .i64 1, .int .i64 1, .int .i64 6, .int .i64 0, .int .i64 0, .int .i64 0, .int .i64 0, .int .i64 0, .int .i64 0] 26 (0, 0))) =>
    same21 (some ⟨g, o, none⟩) 2 bc R (some ⟨b, 0, none⟩) 2 2 (fun i => if i = 0 then ⟨0, 1, 5, 0, 0, 0, 0, 0, 0⟩ else ⟨1, 1, 6, 0, 0, 0, 0, 0, 0⟩) w' (SS7.out.below hb) (evSl_of_block hx rfl (by decide)))
  have hse : decide (ents R 2 = ents (fun i => if i = 0 then (⟨0, 1, 5, 0, 0, 0, 0, 0, 0⟩ : Ev) else ⟨1, 1, 6, 0, 0, 0, 0, 0, 0⟩) 2) = true := decide_eq_true (ents_congr fun i hi => by
    rcases (by omega : i = 0 ∨ i = 1) with rfl | rfl
    · exact R0.out
    · exact R1.out)
  rw [hse] at CS
  clear hse
  have L1 := Lib.hid (fun w' => less19 ⟨0, 1, 5, 0, 0, 0, 0, 0, 0⟩ ⟨1, 1, 6, 0, 0, 0, 0, 0, 0⟩ w')
  have L2 := Lib.hid (fun w' => less19 ⟨1, 1, 6, 0, 0, 0, 0, 0, 0⟩ ⟨0, 1, 5, 0, 0, 0, 0, 0, 0⟩ w')
  rw [show ltE ⟨0, 1, 5, 0, 0, 0, 0, 0, 0⟩ ⟨1, 1, 6, 0, 0, 0, 0, 0, 0⟩ = true by decide] at L1
  rw [show ltE ⟨1, 1, 6, 0, 0, 0, 0, 0, 0⟩ ⟨0, 1, 5, 0, 0, 0, 0, 0, 0⟩ = false by decide] at L2
  unfold eC at L1 L2
  dsimp only at L1 L2
  (obtain ⟨ι, hne, Fw, fb, hF⟩ := grow_family w7); have hF : ∀ w', (vPlan w7 (fun _ _ => True) (fun s => s = [.bool true] ∨ s = [.bool true, .bool true] ∨ s = [.bool false, .bool true, .bool true]) [4, 13, 23] [(3, fun b => .slice (some ⟨b, 0, none⟩) 2 2, .cells #[.int .i64 0, .int .i64 1, .int .i64 5, .int .i64 0, .int .i64 0, .int .i64 0, .int .i64 0, .int .i64 0, .int .i64 0, .int .i64 1, .int .i64 1, .int .i64 6, .int .i64 0, .int .i64 0, .int .i64 0, .int .i64 0, .int .i64 0, .int .i64 0] 26)] (fun i => if i = 4 then [3] else [])).D [] w' → ∃ i, w' = Fw i := hF
  (have f0 := fun i => cell_kept (fb i) a0; have f1 := fun i => cell_kept (fb i) a1; have f2 := fun i => cell_kept (fb i) a2; have f3 := fun i => cell_kept (fb i) a3; have f4 := fun i => cell_kept (fb i) a4; have f5 := fun i => cell_kept (fb i) a5; have f6 := fun i => cell_kept (fb i) a6; have f7 := fun i => cell_kept (fb i) a7; have f8 := fun i => cell_kept (fb i) a8); (clear a0 a1 a2 a3 a4 a5 a6 a7 a8)
  (have h0 := fun i => cell_kept (fb i) d0; have h1 := fun i => cell_kept (fb i) d1; have h2 := fun i => cell_kept (fb i) d2; have h3 := fun i => cell_kept (fb i) d3; have h4 := fun i => cell_kept (fb i) d4; have h5 := fun i => cell_kept (fb i) d5; have h6 := fun i => cell_kept (fb i) d6; have h7 := fun i => cell_kept (fb i) d7; have h8 := fun i => cell_kept (fb i) d8); (clear d0 d1 d2 d3 d4 d5 d6 d7 d8)
  (refine region_chainO (vPlan w7 (fun _ _ => True) (fun s => s = [.bool true] ∨ s = [.bool true, .bool true] ∨ s = [.bool false, .bool true, .bool true]) [4, 13, 23] [(3, fun b => .slice (some ⟨b, 0, none⟩) 2 2, .cells #[.int .i64 0, .int .i64 1, .int .i64 5, .int .i64 0, .int .i64 0, .int .i64 0, .int .i64 0, .int .i64 0, .int .i64 0, .int .i64 1, .int .i64 1, .int .i64 6, .int .i64 0, .int .i64 0, .int .i64 0, .int .i64 0, .int .i64 0, .int .i64 0] 26)] (fun i => if i = 4 then [3] else [])) [] [] [0, 1, 2, 3, 4, 5, 6, 7, 8, 9, 10, 11, 12, 13, 14, 15, 16, 17, 18, 19, 20, 21, 22, 23, 24] [] mixed (by kernel_rfl) (by kernel_rfl) (?hU) (vPlan_ok (fun _ _ _ _ _ => trivial) (by simp)) (vPlan_start (trivial)) ?_; rotate_left 1; refine wpPure_nil ?_; simp only [List.map_cons, List.map_nil, Array.getD_eq_getD_getElem?, List.getElem?_toArray, List.getElem?_cons_zero, List.getElem?_cons_succ, Option.getD_some])
  case hU =>
    intro j k hk
    have hk2 : k ∈ (if j = 4 then [3] else []) := hk
    clear hk
    split at hk2
    · rename_i hj
      obtain rfl := List.mem_singleton.1 hk2
      subst hj; show Region.waitsFor .any _ 4 3 = true; kernel_rfl
    · cases hk2
  (repeat (first | (refine wpChainO_skip rfl ?_; simp only [Act.put, List.setIfInBounds_toArray, List.set_cons_succ, List.set_cons_zero]) | (refine wpChainO_quiet hF rfl rfl rfl ?_; intro K hK; go_big_quiet_op; go_big_quiet_on) | (refine wpChainO_pure _ rfl rfl (fun w' _ => by go_simp; try rfl) ?_; simp only [Act.put, List.setIfInBounds_toArray, List.set_cons_succ, List.set_cons_zero])))
  (refine wpChainO_alloc _ _ rfl (List.mem_cons_self ..) rfl (fun w' => by go_simp) (fun b3 hb3 => ?_); simp only [Act.put, List.setIfInBounds_toArray, List.set_cons_succ, List.set_cons_zero])
  refine wpChainO_vcall 21 _ rfl rfl (fun w' => by go_simp) (fun w' hb _ hu => ((CS.out b3 w' hb (hu (3, b3, .cells #[.int .i64 0, .int .i64 1, .int .i64 5, .int .i64 0, .int .i64 0, .int .i64 0, .int .i64 0, .int .i64 0, .int .i64 0, .int .i64 1, .int .i64 1, .int .i64 6, .int .i64 0, .int .i64 0, .int .i64 0, .int .i64 0, .int .i64 0, .int .i64 0] 26) (by simp [usedBy, vPlan]))).mono fun _ _ ⟨he, hw⟩ => ⟨_, he, .inl rfl, trivial, hw⟩)) ?_
  intro v hv
  obtain rfl : v = .bool true := by simpa using hv
  simp only [Act.put, List.setIfInBounds_toArray, List.set_cons_succ, List.set_cons_zero]
  (repeat (first | (refine wpChainO_skip rfl ?_; simp only [Act.put, List.setIfInBounds_toArray, List.set_cons_succ, List.set_cons_zero]) | (refine wpChainO_quiet hF rfl rfl rfl ?_; intro K hK; go_big_quiet_op; go_big_quiet_on) | (refine wpChainO_pure _ rfl rfl (fun w' _ => by go_simp; try rfl) ?_; simp only [Act.put, List.setIfInBounds_toArray, List.set_cons_succ, List.set_cons_zero])))
  refine wpChainO_vcall 19 _ rfl rfl (fun w' => by go_simp) (fun w' hb _ _ => (L1.out w').mono fun _ _ ⟨he, hw⟩ => ⟨_, he, .inr (.inl rfl), trivial, hw.1⟩) ?_
  intro v hv
  obtain rfl : v = .bool true := by simpa using hv
  simp only [Act.put, List.setIfInBounds_toArray, List.set_cons_succ, List.set_cons_zero]
  (repeat (first | (refine wpChainO_skip rfl ?_; simp only [Act.put, List.setIfInBounds_toArray, List.set_cons_succ, List.set_cons_zero]) | (refine wpChainO_quiet hF rfl rfl rfl ?_; intro K hK; go_big_quiet_op; go_big_quiet_on) | (refine wpChainO_pure _ rfl rfl (fun w' _ => by go_simp; try rfl) ?_; simp only [Act.put, List.setIfInBounds_toArray, List.set_cons_succ, List.set_cons_zero])))
  refine wpChainO_vcall 19 _ rfl rfl (fun w' => by go_simp) (fun w' hb _ _ => (L2.out w').mono fun _ _ ⟨he, hw⟩ => ⟨_, he, .inr (.inr rfl), trivial, hw.1⟩) ?_
  intro v hv
  obtain rfl : v = .bool false := by simpa using hv
  simp only [Act.put, List.setIfInBounds_toArray, List.set_cons_succ, List.set_cons_zero]
  (repeat (first | (refine wpChainO_skip rfl ?_; simp only [Act.put, List.setIfInBounds_toArray, List.set_cons_succ, List.set_cons_zero]) | (refine wpChainO_quiet hF rfl rfl rfl ?_; intro K hK; go_big_quiet_op; go_big_quiet_on) | (refine wpChainO_pure _ rfl rfl (fun w' _ => by go_simp; try rfl) ?_; simp only [Act.put, List.setIfInBounds_toArray, List.set_cons_succ, List.set_cons_zero])))
  refine wpChainO_nil (fun w8 hb8 hl8 => ?_)
  have B8 : Below w7.heap.size w7 w8 := hb8.1
  have X8 := (B8.block _ (block_lt X7.out)).trans X7.out
  have Y8 := (B8.block _ (block_lt Y7.out)).trans Y7.out
  have M8 := Lib.hid (M7.out.below B8)
  clear hb8 hl8 hF fb hne f0 f1 f2 f3 f4 f5 f6 f7 f8 h0 h1 h2 h3 h4 h5 h6 h7 h8 CS L1 L2 B8 X7 Y7 M7 SS7 R0 R1 zg hg
  refine onlyN_intro ?_
  have y2 := M8.out.x2
  have y3 := M8.out.x3
  have y4 := M8.out.x4
  rw [hA2] at y2
  rw [hA3] at y3
  rw [hA4] at y4
  unfold eC evA at y3
  unfold eC evB at y4
  dsimp only at y3 y4
  have F0 := Lib.hid (fun w' (hb : Below w8.heap.size w8 w') => (check17 (awF w) evA w' ((M8.out.below hb).fleet) (by decide)))
  have F1 := Lib.hid (fun w' (hb : Below w8.heap.size w8 w') => (check17 (awF w) evB w' ((M8.out.below hb).fleet) (by decide)))
  simp only [check_evA, check_evB] at F0 F1
  unfold awF Fl.cells eC evA at F0
  unfold awF Fl.cells eC evB at F1
  dsimp only at F0 F1
  have E1 := fun w' => (eqEv ⟨3, 7, 1599, 1601, 2, 2, 9, 0, 0⟩ ⟨3, 7, 1599, 1601, 2, 2, 9, 0, 0⟩ w').1
  have E2 := fun w' => (eqEv ⟨1, 2, 100, 100, 1, 2, 33, 0, 0⟩ ⟨1, 2, 100, 100, 1, 2, 33, 0, 0⟩ w').1
  unfold eC at E1 E2
  dsimp only at E1 E2
  rw [decide_eq_true rfl] at E1 E2
  clear hv hb3 hF
  have k0 := cell_at y2 0
  have k1 := cell_at y2 1
  have k2 := cell_at y2 2
  have k3 := cell_at y2 3
  have k4 := cell_at y2 4
  have m0 := cell_at y3 0
  have m1 := cell_at y3 1
  have m2 := cell_at y3 2
  have m3 := cell_at y3 3
  have m4 := cell_at y3 4
  have m5 := cell_at y3 5
  have m6 := cell_at y3 6
  have m7 := cell_at y3 7
  have m8 := cell_at y3 8
  have zk := szs (block_lt y2)
  have zm := szs (block_lt y3)
  clear y2 y3 y4
  replace X8 := Lib.hid X8
  replace Y8 := Lib.hid Y8
  go_wp2_with fail
  refine (F0.out _ (Below.refl _ _)).mono ?_
  rintro e w9 ⟨rfl, b9⟩
  have B9 := Lib.hid b9
  clear k0 k1 k2 k3 k4 m0 m1 m2 m3 m4 m5 m6 m7 m8 zk zm b9
  have y2 := (M8.out.below B9.out).x2
  have y4 := (M8.out.below B9.out).x4
  rw [hA2] at y2
  rw [hA4] at y4
  unfold eC evB at y4
  dsimp only at y4
  have k0 := cell_at y2 0
  have k1 := cell_at y2 1
  have k2 := cell_at y2 2
  have k3 := cell_at y2 3
  have k4 := cell_at y2 4
  have m0 := cell_at y4 0
  have m1 := cell_at y4 1
  have m2 := cell_at y4 2
  have m3 := cell_at y4 3
  have m4 := cell_at y4 4
  have m5 := cell_at y4 5
  have m6 := cell_at y4 6
  have m7 := cell_at y4 7
  have m8 := cell_at y4 8
  have zk := szs (block_lt y2)
  have zm := szs (block_lt y4)
  clear y2 y4
  go_wp2_with fail
  refine (F1.out _ B9.out).mono ?_
  rintro e w10 ⟨rfl, b10⟩
  have B10 := Lib.hid (B9.out.trans (b10.mono B9.out.size))
  clear k0 k1 k2 k3 k4 m0 m1 m2 m3 m4 m5 m6 m7 m8 zk zm b10
  have x10 := (B10.out.block _ (block_lt X8.out)).trans X8.out
  have y10 := (B10.out.block _ (block_lt Y8.out)).trans Y8.out
  have y3 := (M8.out.below B10.out).x3
  rw [hA3] at y3
  unfold eC evA at y3
  dsimp only at y3
  have p0 := cell_at x10 0
  have p1 := cell_at x10 1
  have p2 := cell_at x10 2
  have p3 := cell_at x10 3
  have p4 := cell_at x10 4
  have p5 := cell_at x10 5
  have p6 := cell_at x10 6
  have p7 := cell_at x10 7
  have p8 := cell_at x10 8
  have q0 := cell_at y10 0
  have q1 := cell_at y10 1
  have q2 := cell_at y10 2
  have q3 := cell_at y10 3
  have q4 := cell_at y10 4
  have q5 := cell_at y10 5
  have q6 := cell_at y10 6
  have q7 := cell_at y10 7
  have q8 := cell_at y10 8
  have m0 := cell_at y3 0
  have m1 := cell_at y3 1
  have m2 := cell_at y3 2
  have m3 := cell_at y3 3
  have m4 := cell_at y3 4
  have m5 := cell_at y3 5
  have m6 := cell_at y3 6
  have m7 := cell_at y3 7
  have m8 := cell_at y3 8
  have zp := szs (block_lt x10)
  have zq := szs (block_lt y10)
  have zm := szs (block_lt y3)
  clear x10 y10 y3
  go_wp2_with fail
  go_returns
  exact ⟨rfl, (M8.out.below B10.out).bel⟩
end Go.Proofs.Ytmhnkfcbbjbpfaa
