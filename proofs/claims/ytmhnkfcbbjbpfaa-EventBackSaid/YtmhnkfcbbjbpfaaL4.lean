/- The law EventCodes. -/
import Derived.Test.YtmhnkfcbbjbpfaaAW2
import Derived.Test.YtmhnkfcbbjbpfaaEC3
namespace Go.Proofs.Ytmhnkfcbbjbpfaa
open Go.RowKit Go.ChangeShapes Go.WideShapes Go.Deep
set_option linter.unusedVariables false
set_option linter.unusedSimpArgs false
/-- A slice of these bytes. -/
def SlB (w : World) (v : Value) (l : List Nat) : Prop := ∃ (ao : Option Addr) (k c : Nat) (R : Nat → Nat), v = .slice ao k c ∧ BSl w ao k c R ∧ ents R k = l
theorem SlB.below {w w' : World} {v : Value} {l : List Nat} (h : SlB w v l) (hb : Below w.heap.size w w') : SlB w' v l := by
  obtain ⟨ao, k, c, R, e, hs, hl⟩ := h
  exact ⟨ao, k, c, R, e, hs.below hb, hl⟩
theorem SlB.of {w : World} {base : Nat} {v : Value} {k : Nat} {R : Nat → Nat} {l : List Nat} (h : BRow w base v k R) (hl : ents R k = l) : SlB w v l := by
  obtain ⟨ao, c, e, hs⟩ := BRow.toSl h
  exact ⟨ao, k, c, R, e, hs, hl⟩
def codeG (l : List Nat) : List Value → World → Prop
  | [v1], w => SlB w v1 l
  | [v2, v1], w => SlB w v1 l ∧ SlB w v2 l
  | _, _ => True
def codeS : List Value → Prop
  | [v1] => ∃ (ao : Option Addr) (k c : Nat), v1 = .slice ao k c
  | [v2, v1] => ∃ (ao : Option Addr) (k c : Nat), v2 = .slice ao k c
  | v :: _ => v = .bool true
  | [] => True
theorem codeG_below {l : List Nat} : ∀ (s : List Value) (w w' : World), codeG l s w → Below w.heap.size w w' → codeG l s w'
  | [], _, _, _, _ => trivial
  | [_], _, _, h, hb => SlB.below h hb
  | [_, _], _, _, h, hb => ⟨SlB.below h.1 hb, SlB.below h.2 hb⟩
  | _ :: _ :: _ :: _, _, _, _, _ => trivial
set_option maxRecDepth 4000 in
set_option maxHeartbeats 4000000 in
theorem run_eventCodes {H : Type} {enc : TypeId × Value → H} (W : World) (base : Nat) (v0 : Value) (d0 : DataW H) (p0 : List MemPlace) (hv0 : Value.okWide Try.prog W .any base 26 v0) (h0 : DataW.Trod enc Try.prog W 0 (fun _ => true) true 26 v0 d0 p0)
    (v1 : Value) (d1 : DataW H) (p1 : List MemPlace) (hv1 : Value.okWide Try.prog W .any base 39 v1) (h1 : DataW.Trod enc Try.prog W 0 (fun _ => true) true 39 v1 d1 p1) :
    Calls Try.prog 9 #[v0, v1] W fun e w' => e = .returned (.bool true) ∧ Below W.heap.size W w' := by
  obtain ⟨v, rfl, hv⟩ := open_event hv0 h0
  obtain ⟨ao, n, c, B, rfl, hs, hB⟩ := open_bytes hv1 h1
  clear hv0 h0 hv1 h1
  have AW := Lib.hid (fun w' => awake14 w')
  have hmc := hs.hm
  have hcc := hs.hc
  have HS := Lib.hid hs
  have HB := Lib.hid hB
  have N1 := Lib.hid (fun w' => encode28 v w' hv)
  have N2 := Lib.hid (fun w' => encode29 v w' hv)
  obtain ⟨l, hl⟩ : ∃ l, l = encE v := ⟨_, rfl⟩
  have HLB : Hid (∀ x ∈ l, x < 256) := Lib.hid (by rw [hl]; exact encL_byte _)
  rw [← hl] at N1 N2
  clear hs hB hl hv
  have X0 := Lib.hid (heap_alloc_new W (.cells (eC v) 26))
  have B0 : Hid (Below W.heap.size W (W.alloc (.cells (eC v) 26))) := Lib.hid (by (repeat' (first | (with_reducible exact Below.refl _ _) | (with_reducible assumption) | (with_reducible refine Below.drew ?_) | (with_reducible refine below_drewN ?_ _) | (with_reducible refine Below.alloc ?_ ?_ _) | (with_reducible refine Below.setCell ?_ ?_ _) | go_size)))
  unfold eC at *
  obtain ⟨v1, v2, v3, v4, v5, v6, v7, v8, v9⟩ := v
  dsimp only at N1 N2 X0 B0 ⊢
  obtain ⟨wb, hwb⟩ : ∃ wb, wb = W.alloc (.cells #[.int .i64 v1, .int .i64 v2, .int .i64 v3, .int .i64 v4, .int .i64 v5, .int .i64 v6, .int .i64 v7, .int .i64 v8, .int .i64 v9] 26) := ⟨_, rfl⟩
  rw [← hwb] at X0 B0
  have HW := Lib.hid hwb
  clear hwb
  by_cases hn : 300 < n
  · have tn : (300 : Int) < (n : Int) := by omega
    go_enter Try.func9, Try.ntmps9
    go_wp2_with fail
    rw [← HW.out]
    refine (AW.out _).mono ?_
    rintro e w1 ⟨rfl, b1⟩
    have B1 := Lib.hid (B0.out.trans (b1.mono B0.out.size))
    clear b1
    go_wp2_with fail
    go_returns
    exact ⟨rfl, B1.out⟩
  · have tn : (n : Int) ≤ 300 := by omega
    have D1 := Lib.hid (decode25 ao n c B wb (HS.out.below B0.out) HB.out (by omega))
    have D2 := Lib.hid (fun w' (hb : Below W.heap.size W w') => decode26 ao n c B w' (HS.out.below hb) HB.out (by omega))
    generalize decE (ents B n) = q at *
    obtain ⟨⟨x1, x2, x3, x4, x5, x6, x7, x8, x9⟩, er⟩ := q
    unfold evV eC at D1 D2
    dsimp only at D1 D2
    have EQ := fun w' => (eqEv ⟨x1, x2, x3, x4, x5, x6, x7, x8, x9⟩ ⟨x1, x2, x3, x4, x5, x6, x7, x8, x9⟩ w').1
    rw [decide_eq_true rfl] at EQ
    unfold eC at EQ
    dsimp only at EQ
    have te : (er == er) = true := by simp
    go_enter Try.func9, Try.ntmps9
    go_wp2_with fail
    rw [← HW.out]
    refine D1.out.mono ?_
    rintro e w1 ⟨rfl, b1⟩
    clear D1 HW
    go_wp2_with fail
    obtain ⟨w2, hw2⟩ : ∃ w2, w2 = w1.alloc (.cells #[.int .i64 x1, .int .i64 x2, .int .i64 x3, .int .i64 x4, .int .i64 x5, .int .i64 x6, .int .i64 x7, .int .i64 x8, .int .i64 x9] 26) := ⟨_, rfl⟩
    rw [← hw2]
    have b2 : Below w1.heap.size w1 w2 := by rw [hw2]; (repeat' (first | (with_reducible exact Below.refl _ _) | (with_reducible assumption) | (with_reducible refine Below.drew ?_) | (with_reducible refine below_drewN ?_ _) | (with_reducible refine Below.alloc ?_ ?_ _) | (with_reducible refine Below.setCell ?_ ?_ _) | go_size))
    have X2 : w2.heap[w1.heap.size]? = some (.cells #[.int .i64 x1, .int .i64 x2, .int .i64 x3, .int .i64 x4, .int .i64 x5, .int .i64 x6, .int .i64 x7, .int .i64 x8, .int .i64 x9] 26 (0, 0)) := by rw [hw2]; exact heap_alloc_new w1 _
    have b02 : Below wb.heap.size wb w2 := b1.trans (b2.mono b1.size)
    have B2 := Lib.hid (B0.out.trans (b02.mono B0.out.size))
    refine (D2.out _ B2.out).mono ?_
    rintro e w3 ⟨rfl, b3⟩
    have b03 := b02.trans (b3.mono b02.size)
    have X3 := (b3.block _ (block_lt X2)).trans X2
    clear D2 hw2 X2
    go_wp2_with fail
    obtain ⟨w4, hw4⟩ : ∃ w4, w4 = w3.alloc (.cells #[.int .i64 x1, .int .i64 x2, .int .i64 x3, .int .i64 x4, .int .i64 x5, .int .i64 x6, .int .i64 x7, .int .i64 x8, .int .i64 x9] 26) := ⟨_, rfl⟩
    rw [← hw4]
    have b4 : Below w3.heap.size w3 w4 := by rw [hw4]; (repeat' (first | (with_reducible exact Below.refl _ _) | (with_reducible assumption) | (with_reducible refine Below.drew ?_) | (with_reducible refine below_drewN ?_ _) | (with_reducible refine Below.alloc ?_ ?_ _) | (with_reducible refine Below.setCell ?_ ?_ _) | go_size))
    have Y4 : w4.heap[w3.heap.size]? = some (.cells #[.int .i64 x1, .int .i64 x2, .int .i64 x3, .int .i64 x4, .int .i64 x5, .int .i64 x6, .int .i64 x7, .int .i64 x8, .int .i64 x9] 26 (0, 0)) := by rw [hw4]; exact heap_alloc_new w3 _
    have X4 := (b4.block _ (block_lt X3)).trans X3
    have b04 := b03.trans (b4.mono b03.size)
    have E4 := (b04.block _ (block_lt X0.out)).trans X0.out
    have B4 := Lib.hid (B0.out.trans (b04.mono B0.out.size))
    have a0 := cell_at E4 0
    have a1 := cell_at E4 1
    have a2 := cell_at E4 2
    have a3 := cell_at E4 3
    have a4 := cell_at E4 4
    have a5 := cell_at E4 5
    have a6 := cell_at E4 6
    have a7 := cell_at E4 7
    have a8 := cell_at E4 8
    have d0 := cell_at X4 0
    have d1 := cell_at X4 1
    have d2 := cell_at X4 2
    have d3 := cell_at X4 3
    have d4 := cell_at X4 4
    have d5 := cell_at X4 5
    have d6 := cell_at X4 6
    have d7 := cell_at X4 7
    have d8 := cell_at X4 8
    have k0 := cell_at Y4 0
    have k1 := cell_at Y4 1
    have k2 := cell_at Y4 2
    have k3 := cell_at Y4 3
    have k4 := cell_at Y4 4
    have k5 := cell_at Y4 5
    have k6 := cell_at Y4 6
    have k7 := cell_at Y4 7
    have k8 := cell_at Y4 8
    clear hw4 b1 b2 b02 b3 b03 b4 b04 X3 X4 Y4 E4 X0 B0 B2
    (obtain ⟨ι, hne, Fw, fb, hF⟩ := grow_family w4); have hF : ∀ w', (vPlan w4 (codeG l) (codeS) [1, 3, 4, 16] [] (fun _ => [])).D [] w' → ∃ i, w' = Fw i := hF
    (have f0 := fun i => cell_kept (fb i) a0; have f1 := fun i => cell_kept (fb i) a1; have f2 := fun i => cell_kept (fb i) a2; have f3 := fun i => cell_kept (fb i) a3; have f4 := fun i => cell_kept (fb i) a4; have f5 := fun i => cell_kept (fb i) a5; have f6 := fun i => cell_kept (fb i) a6; have f7 := fun i => cell_kept (fb i) a7; have f8 := fun i => cell_kept (fb i) a8); (clear a0 a1 a2 a3 a4 a5 a6 a7 a8)
    (have g0 := fun i => cell_kept (fb i) d0; have g1 := fun i => cell_kept (fb i) d1; have g2 := fun i => cell_kept (fb i) d2; have g3 := fun i => cell_kept (fb i) d3; have g4 := fun i => cell_kept (fb i) d4; have g5 := fun i => cell_kept (fb i) d5; have g6 := fun i => cell_kept (fb i) d6; have g7 := fun i => cell_kept (fb i) d7; have g8 := fun i => cell_kept (fb i) d8); (clear d0 d1 d2 d3 d4 d5 d6 d7 d8)
    (have h0 := fun i => cell_kept (fb i) k0; have h1 := fun i => cell_kept (fb i) k1; have h2 := fun i => cell_kept (fb i) k2; have h3 := fun i => cell_kept (fb i) k3; have h4 := fun i => cell_kept (fb i) k4; have h5 := fun i => cell_kept (fb i) k5; have h6 := fun i => cell_kept (fb i) k6; have h7 := fun i => cell_kept (fb i) k7; have h8 := fun i => cell_kept (fb i) k8); (clear k0 k1 k2 k3 k4 k5 k6 k7 k8)
    (refine region_chainO (vPlan w4 (codeG l) (codeS) [1, 3, 4, 16] [] (fun _ => [])) [] [] [0, 2, 1, 3, 4, 5, 6, 7, 8, 9, 10, 11, 12, 13, 14, 15, 16, 17, 18] [] mixed (by kernel_rfl) (by kernel_rfl) (fun _ _ h => nomatch h) (vPlan_ok (codeG_below) (by simp)) (vPlan_start (trivial)) ?_; refine wpPure_nil ?_; simp only [List.map_cons, List.map_nil, Array.getD_eq_getD_getElem?, List.getElem?_toArray, List.getElem?_cons_zero, List.getElem?_cons_succ, Option.getD_some])
    (repeat (first | (refine wpChainO_skip rfl ?_; simp only [Act.put, List.setIfInBounds_toArray, List.set_cons_succ, List.set_cons_zero]) | (refine wpChainO_quiet hF rfl rfl rfl ?_; intro K hK; go_big_quiet_op; go_big_quiet_on) | (refine wpChainO_pure _ rfl rfl (fun w' _ => by go_simp; try rfl) ?_; simp only [Act.put, List.setIfInBounds_toArray, List.set_cons_succ, List.set_cons_zero])))
    refine wpChainO_vcall 28 _ rfl rfl (fun w' => by go_simp) (fun w' hb _ _ => (N1.out w').mono ?_) ?_
    · rintro e w5 ⟨u, k, R, rfl, hl, hrow, hb5⟩
      have hsl := SlB.of hrow hl
      obtain ⟨ao, k, c, R', e, _⟩ := id hsl
      exact ⟨u, rfl, ⟨ao, k, c, e⟩, hsl, hb5⟩
    rintro u1 ⟨ao1, k1, c1, rfl⟩
    simp only [Act.put, List.setIfInBounds_toArray, List.set_cons_succ, List.set_cons_zero]
    (repeat (first | (refine wpChainO_skip rfl ?_; simp only [Act.put, List.setIfInBounds_toArray, List.set_cons_succ, List.set_cons_zero]) | (refine wpChainO_quiet hF rfl rfl rfl ?_; intro K hK; go_big_quiet_op; go_big_quiet_on) | (refine wpChainO_pure _ rfl rfl (fun w' _ => by go_simp; try rfl) ?_; simp only [Act.put, List.setIfInBounds_toArray, List.set_cons_succ, List.set_cons_zero])))
    refine wpChainO_vcall 29 _ rfl rfl (fun w' => by go_simp) (fun w' hb hg _ => (N2.out w').mono ?_) ?_
    · rintro e w5 ⟨u, k, R, rfl, hl, hrow, hb5⟩
      have hsl := SlB.of hrow hl
      obtain ⟨ao, k, c, R', e, _⟩ := id hsl
      exact ⟨u, rfl, ⟨ao, k, c, e⟩, ⟨SlB.below hg hb5, hsl⟩, hb5⟩
    rintro u2 ⟨ao2, k2, c2, rfl⟩
    simp only [Act.put, List.setIfInBounds_toArray, List.set_cons_succ, List.set_cons_zero]
    (repeat (first | (refine wpChainO_skip rfl ?_; simp only [Act.put, List.setIfInBounds_toArray, List.set_cons_succ, List.set_cons_zero]) | (refine wpChainO_quiet hF rfl rfl rfl ?_; intro K hK; go_big_quiet_op; go_big_quiet_on) | (refine wpChainO_pure _ rfl rfl (fun w' _ => by go_simp; try rfl) ?_; simp only [Act.put, List.setIfInBounds_toArray, List.set_cons_succ, List.set_cons_zero])))
    refine wpChainO_vcall 27 #[.slice ao1 k1 c1, .slice ao2 k2 c2] rfl rfl (fun w' => by go_simp) (fun w' hb hg _ => ?_) ?_
    · obtain ⟨⟨ao, k, c, R, e, hs, hl⟩, ao', k', c', R', e', hs', hl'⟩ := hg
      cases e
      cases e'
      refine (sameBytes27 _ _ _ R _ _ _ R' w' hs hs' (fun i hi => HLB.out _ (by rw [← hl]; exact mem_ents.2 ⟨i, hi, rfl⟩)) (fun i hi => HLB.out _ (by rw [← hl']; exact mem_ents.2 ⟨i, hi, rfl⟩))).mono ?_
      rintro e w5 ⟨rfl, rfl⟩
      rw [decide_eq_true (hl.trans hl'.symm)]
      exact ⟨_, rfl, rfl, trivial, Below.refl _ _⟩
    rintro u3 hu3
    obtain rfl : u3 = .bool true := hu3
    simp only [Act.put, List.setIfInBounds_toArray, List.set_cons_succ, List.set_cons_zero]
    (repeat (first | (refine wpChainO_skip rfl ?_; simp only [Act.put, List.setIfInBounds_toArray, List.set_cons_succ, List.set_cons_zero]) | (refine wpChainO_quiet hF rfl rfl rfl ?_; intro K hK; go_big_quiet_op; go_big_quiet_on) | (refine wpChainO_pure _ rfl rfl (fun w' _ => by go_simp; try rfl) ?_; simp only [Act.put, List.setIfInBounds_toArray, List.set_cons_succ, List.set_cons_zero])))
    refine wpChainO_vcall 14 _ rfl rfl (fun w' => by go_simp) (fun w' hb hg _ => (AW.out w').mono ?_) ?_
    · rintro e w5 ⟨rfl, hb5⟩
      exact ⟨_, rfl, rfl, trivial, hb5⟩
    rintro u4 hu4
    obtain rfl : u4 = .bool true := hu4
    simp only [Act.put, List.setIfInBounds_toArray, List.set_cons_succ, List.set_cons_zero]
    (repeat (first | (refine wpChainO_skip rfl ?_; simp only [Act.put, List.setIfInBounds_toArray, List.set_cons_succ, List.set_cons_zero]) | (refine wpChainO_quiet hF rfl rfl rfl ?_; intro K hK; go_big_quiet_op; go_big_quiet_on) | (refine wpChainO_pure _ rfl rfl (fun w' _ => by go_simp; try rfl) ?_; simp only [Act.put, List.setIfInBounds_toArray, List.set_cons_succ, List.set_cons_zero])))
    refine wpChainO_nil (fun w8 hb8 hl8 => ?_)
    have B8 : Hid (Below w4.heap.size w4 w8) := Lib.hid hb8.1
    clear hb8 hl8 hF fb hne f0 f1 f2 f3 f4 f5 f6 f7 f8 g0 g1 g2 g3 g4 g5 g6 g7 g8 h0 h1 h2 h3 h4 h5 h6 h7 h8 N1 N2
    refine onlyN_intro ?_
    go_wp2_with fail
    go_returns
    exact ⟨rfl, B4.out.trans (B8.out.mono B4.out.size)⟩
end Go.Proofs.Ytmhnkfcbbjbpfaa
