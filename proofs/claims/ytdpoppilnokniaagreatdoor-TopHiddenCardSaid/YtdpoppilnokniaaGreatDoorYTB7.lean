/- Theorems of this seat. -/
import Derived.Test.YtdpoppilnokniaaGreatDoorYFLU
import Derived.Test.YtdpoppilnokniaaGreatDoorYKB
namespace Go.Proofs.YtdpoppilnokniaaGreatDoor
open Go.RowKit Go.ChangeShapes Go.WideShapes Go.Deep
set_option linter.unusedVariables false
set_option linter.unusedSimpArgs false
set_option linter.unnecessarySimpa false
def okK (X : Nat → Int) (H : Nat → Bool) (a : Int) : Nat → Bool
 | 0 => decide (cellA X a 1 + cellA X a 3 = X 1 + X 3)
 | k + 1 => okK X H a k && (decide (0 ≤ cellA X a k) && (H k || decide (X k = cellA X a k)))
theorem okK_four (X : Nat → Int) (H : Nat → Bool) (a : Int) : okK X H a 4 = okA X H a := rfl
structure EndM (w : World) (f t each : Int) (zo : Option Addr) (zc : Nat) (ho : Option Addr) (hc : Nat) (ra : Option Addr) (rc : Nat) (ca : Option Addr) (cc : Nat) (X : Nat → Int) (H : Nat → Bool) (P R C : Nat → Int) : Prop where
 cel : Sl w 1 zo 4 zc (nuR P)
 hid : Sl w 1 ho 4 hc (boR H)
 row : Sl w 1 ra 2 rc (nuR R)
 col : Sl w 1 ca 2 cc (nuR C)
 pub : ∀ k, k < 4 → H k = false → P k = X k
 sums : R 0 = X 0 + X 1 ∧ R 1 = X 2 + X 3 ∧ C 0 = X 0 + X 2 ∧ C 1 = X 1 + X 3
 rng : ∀ k, k < 4 → 0 ≤ X k ∧ X k ≤ 65536
theorem EndM.below {w w' : World} {f t each : Int} {zo : Option Addr} {zc : Nat} {ho : Option Addr} {hc : Nat} {ra : Option Addr} {rc : Nat} {ca : Option Addr} {cc : Nat} {X : Nat → Int} {H : Nat → Bool} {P R C : Nat → Int} (h : EndM w f t each zo zc ho hc ra rc ca cc X H P R C) (hb : Below w.heap.size w w') : EndM w' f t each zo zc ho hc ra rc ca cc X H P R C :=
 { h with cel := h.cel.below hb, hid := h.hid.below hb, row := h.row.below hb, col := h.col.below hb }
def arr4 (X : Nat → Int) (a : Int) : Array Value := #[.int .i64 a, .int .i64 (cellA X a 1), .int .i64 (cellA X a 2), .int .i64 (cellA X a 3)]
theorem arr4_get {X : Nat → Int} {a : Int} {k : Nat} (h : k < 4) : (arr4 X a)[k]? = some (.int .i64 (cellA X a k)) := by
 rcases (show k = 0 ∨ k = 1 ∨ k = 2 ∨ k = 3 by omega) with rfl | rfl | rfl | rfl <;> rfl
theorem cellA_rng {X : Nat → Int} (h : ∀ k, k < 4 → 0 ≤ X k ∧ X k ≤ 65536) {a : Int} (ha : 0 ≤ a ∧ a ≤ 12) {k : Nat} : -1000000 ≤ cellA X a k ∧ cellA X a k ≤ 1000000 := by
 have h0 := h 0 (by omega)
 have h1 := h 1 (by omega)
 have h2 := h 2 (by omega)
 have h3 := h 3 (by omega)
 rcases (show k = 0 ∨ k = 1 ∨ k = 2 ∨ 3 ≤ k by omega) with rfl | rfl | rfl | hk
 · show -1000000 ≤ a ∧ a ≤ 1000000; omega
 · show -1000000 ≤ X 0 + X 1 - a ∧ X 0 + X 1 - a ≤ 1000000; omega
 · show -1000000 ≤ X 0 + X 2 - a ∧ X 0 + X 2 - a ≤ 1000000; omega
 · obtain ⟨j, rfl⟩ : ∃ j, k = j + 3 := ⟨k - 3, by omega⟩
   show -1000000 ≤ X 2 + X 3 - (X 0 + X 2) + a ∧ X 2 + X 3 - (X 0 + X 2) + a ≤ 1000000
   omega
set_option maxRecDepth 8000 in
set_option maxHeartbeats 32000000 in
theorem ends9 (f t each : Int) (zo : Option Addr) (zc : Nat) (ho : Option Addr) (hc : Nat) (ra : Option Addr) (rc : Nat) (ca : Option Addr) (cc : Nat) (X : Nat → Int) (H : Nat → Bool) (P R C : Nat → Int) (i : Nat) (w : World) (h : EndM w f t each zo zc ho hc ra rc ca cc X H P R C) (hi : i < 4) :
   Calls Tryz.prog 9 #[.agg #[.int .i64 f, .int .i64 t, .int .i64 each, .int .i64 2, .int .i64 2, .slice zo 4 zc, .slice ho 4 hc, .slice ra 2 rc, .slice ca 2 cc, .slice none 0 0], .int .i64 i] w fun e w' => e = .returned (.tuple #[.int .i64 (endsE X H i 13).1, .int .i64 (endsE X H i 13).2]) ∧ Below w.heap.size w w' := by
 have l1 := h.cel.hm
 have l2 := h.cel.hc
 have l3 := h.hid.hm
 have l4 := h.hid.hc
 have l5 := h.row.hm
 have l6 := h.row.hc
 have l7 := h.col.hm
 have l8 := h.col.hc
 have hiI : (i : Int) < 4 := by omega
 have B0 : Hid (Below w.heap.size w (w.alloc (.cells #[.int .i64 f, .int .i64 t, .int .i64 each, .int .i64 2, .int .i64 2, .slice zo 4 zc, .slice ho 4 hc, .slice ra 2 rc, .slice ca 2 cc, .slice none 0 0] 42))) := Lib.hid (by (repeat' (first | with_reducible (first | exact Below.refl _ _ | assumption | refine Below.drew ?_ | refine below_drewN ?_ _ | refine Below.alloc ?_ ?_ _ | refine Below.setCell ?_ ?_ _) | go_size))); have X0 := Lib.hid (al_at w (.cells #[.int .i64 f, .int .i64 t, .int .i64 each, .int .i64 2, .int .i64 2, .slice zo 4 zc, .slice ho 4 hc, .slice ra 2 rc, .slice ca 2 cc, .slice none 0 0] 42) rfl); obtain ⟨w1, hw0⟩ : ∃ w1, w1 = w.alloc (.cells #[.int .i64 f, .int .i64 t, .int .i64 each, .int .i64 2, .int .i64 2, .slice zo 4 zc, .slice ho 4 hc, .slice ra 2 rc, .slice ca 2 cc, .slice none 0 0] 42) := ⟨_, rfl⟩; rw [← hw0] at B0 X0; have HW0 := Lib.hid hw0; clear hw0; have z0 := szs (block_lt X0.out); skip
 have HE := Lib.hid (h.below B0.out)
 have hX := h.rng
 have hx0 := hX 0 (by omega)
 have hx1 := hX 1 (by omega)
 have hx2 := hX 2 (by omega)
 have hx3 := hX 3 (by omega)
 have HXR := Lib.hid hX
 clear h hX
 go_enter Tryz.func9, Tryz.ntmps9
 go_simp
 ((repeat ((fail_if_success (rw [← HW0.out])); go_step)); rw [← HW0.out])
 clear HW0
 go_wp2_with fail
 go_loopw [6, 7, 8] (fun s6 s7 s8 wr => ∃ a : Nat, s8 = .int .i64 a ∧ s6 = .int .i64 (endsE X H i a).1 ∧ s7 = .int .i64 (endsE X H i a).2 ∧ a ≤ 13 ∧ Hid (Below w1.heap.size w1 wr)) (fun _ _ s _ => 13 - (intOf s).toNat)
 case atStart => exact ⟨0, rfl, rfl, rfl, by omega, Lib.hid (Below.refl _ _)⟩
 case round =>
   obtain ⟨a, rfl, rfl, rfl, ha, hb⟩ := hrel
   have HB := Lib.hid (B0.out.trans (hb.out.mono B0.out.size))
   have HB1 := hb
   obtain ⟨lo, hlo⟩ : ∃ lo, lo = (endsE X H i a).1 := ⟨_, rfl⟩
   obtain ⟨hi', hhi⟩ : ∃ hi', hi' = (endsE X H i a).2 := ⟨_, rfl⟩
   rw [← hlo, ← hhi]
   have HLH := Lib.hid (And.intro hlo hhi)
   clear hlo hhi hb
   by_cases hlt : a ≤ 12
   · have t3 : decide ((a : Int) ≤ 12) = true := decide_eq_true (by omega)
     have t3n : decide (a ≤ 12) = true := decide_eq_true hlt
     have XR := Lib.hid ((HB1.out.block _ (block_lt X0.out)).trans X0.out)
     have r7 := cell_at XR.out 7
     have r8 := cell_at XR.out 8
     have zr := szs (block_lt XR.out)
     obtain ⟨ga, oa, rfl, hga, c0⟩ := (HE.out.row.below HB1.out).num1 (j := 0) (by omega)
     obtain ⟨_, _, e9, _, c1⟩ := (HE.out.row.below HB1.out).num1 (j := 1) (by omega)
     cases e9
     obtain ⟨gb, ob, rfl, hgb, d0⟩ := (HE.out.col.below HB1.out).num1 (j := 0) (by omega)
     obtain ⟨_, _, e9, _, d1⟩ := (HE.out.col.below HB1.out).num1 (j := 1) (by omega)
     cases e9
     rw [HE.out.sums.1, Nat.add_zero] at c0
     rw [HE.out.sums.2.1] at c1
     rw [HE.out.sums.2.2.1, Nat.add_zero] at d0
     rw [HE.out.sums.2.2.2] at d1
     have za := szs hga
     have zb := szs hgb
     obtain ⟨S0, hS0⟩ : ∃ S0, S0 = X 0 + X 1 := ⟨_, rfl⟩
     obtain ⟨S1, hS1⟩ : ∃ S1, S1 = X 2 + X 3 := ⟨_, rfl⟩
     obtain ⟨T0, hT0⟩ : ∃ T0, T0 = X 0 + X 2 := ⟨_, rfl⟩
     obtain ⟨T1, hT1⟩ : ∃ T1, T1 = X 1 + X 3 := ⟨_, rfl⟩
     rw [← hS0] at c0
     rw [← hS1] at c1
     rw [← hT0] at d0
     rw [← hT1] at d1
     have HC := Lib.hid (show cellA X a 1 = S0 - a ∧ cellA X a 2 = T0 - a ∧ cellA X a 3 = S1 - T0 + a from ⟨by show X 0 + X 1 - (a : Int) = _; omega, by show X 0 + X 2 - (a : Int) = _; omega, by show X 2 + X 3 - (X 0 + X 2) + (a : Int) = _; omega⟩)
     have HST := Lib.hid hT1
     have hb1 : 0 ≤ S0 ∧ S0 ≤ 131072 := by omega
     have hb2 : 0 ≤ S1 ∧ S1 ≤ 131072 := by omega
     have hb3 : 0 ≤ T0 ∧ T0 ≤ 131072 := by omega
     have hb4 : 0 ≤ T1 ∧ T1 ≤ 131072 := by omega
     clear hS0 hS1 hT0 hT1
     go_wp2_with fail
     (obtain ⟨ι, hne, Fw, fb, hF⟩ := grow_family wr); have hF : ∀ w', (sPlan wr (fun _ => False) [] [(25, fun b => .pointer (some ⟨b, 0, none⟩), .cells #[.int .i64 0, .int .i64 0, .int .i64 0, .int .i64 0] 89)] [(26, 25)]).D [] w' → ∃ i, w' = Fw i := hF
     have f7 := fun i => cell_kept (fb i) r7
     have f8 := fun i => cell_kept (fb i) r8
     have fc0 := fun i => cell_kept (fb i) c0
     have fc1 := fun i => cell_kept (fb i) c1
     have fd0 := fun i => cell_kept (fb i) d0
     have fd1 := fun i => cell_kept (fb i) d1
     clear r7 r8 c0 c1 d0 zr za zb hga hgb fd1
     replace d1 := Lib.hid d1
     (refine region_chainO (sPlan wr (fun _ => False) [] [(25, fun b => .pointer (some ⟨b, 0, none⟩), .cells #[.int .i64 0, .int .i64 0, .int .i64 0, .int .i64 0] 89)] [(26, 25)]) [] [] [0, 1, 2, 3, 4, 5, 6, 7, 8, 9, 10, 11, 12, 13, 14, 15, 16, 17, 18, 19, 20, 21, 22, 23, 24, 25, 26] [] mixed (by kernel_rfl) (by kernel_rfl) (fun _ _ h => nomatch h) (sPlan_ok (by simp) (by simp)) sPlan_start ?_; refine wpPure_nil ?_; simp only [List.map_cons, List.map_nil, Array.getD_eq_getD_getElem?, List.getElem?_toArray, List.getElem?_cons_zero, List.getElem?_cons_succ, Option.getD_some])
     (repeat (first | (refine wpChainO_skip rfl ?_; simp only [Act.put, List.setIfInBounds_toArray, List.set_cons_succ, List.set_cons_zero]) | (refine wpChainO_quiet hF rfl rfl rfl ?_; intro K hK; go_big_quiet_op; go_big_quiet_on) | (refine wpChainO_pure _ rfl rfl (fun w' _ => by go_simp; try rfl) ?_; simp only [Act.put, List.setIfInBounds_toArray, List.set_cons_succ, List.set_cons_zero])))
     (refine wpChainO_alloc _ _ rfl (List.mem_cons_self ..) rfl (fun w' => by go_simp) (fun q9 hq9 => ?_); simp only [Act.put, List.setIfInBounds_toArray, List.set_cons_succ, List.set_cons_zero])
     (refine wpChainO_store 25 q9 (.cells #[.int .i64 0, .int .i64 0, .int .i64 0, .int .i64 0] 89) (.cells #[.int .i64 a, .int .i64 (S0 - a), .int .i64 (T0 - a), .int .i64 (S1 - T0 + a)] 89) rfl (by simp [sPlan]) (by simp [setB]) (by simp [setB]) rfl (fun w' hw' => by have c0 := cell_at hw' 0; have c1 := cell_at hw' 1; have c2 := cell_at hw' 2; have c3 := cell_at hw' 3; have g0 := free_at hw'; have hlt := block_lt hw'; go_simp; rw [setCell_at hw', setAt_setCell hlt, setAt_setCell hlt, setAt_setCell hlt]; rfl) ?_; simp only [Act.put, List.setIfInBounds_toArray, List.set_cons_succ, List.set_cons_zero])
     (repeat (first | (refine wpChainO_skip rfl ?_; simp only [Act.put, List.setIfInBounds_toArray, List.set_cons_succ, List.set_cons_zero]) | (refine wpChainO_quiet hF rfl rfl rfl ?_; intro K hK; go_big_quiet_op; go_big_quiet_on) | (refine wpChainO_pure _ rfl rfl (fun w' _ => by go_simp; try rfl) ?_; simp only [Act.put, List.setIfInBounds_toArray, List.set_cons_succ, List.set_cons_zero])))
     refine wpChainO_nil (fun w5 hb5 hl5 => ?_)
     have b5 : Below wr.heap.size wr w5 := hb5
     have X9 := Lib.hid (show w5.heap[q9]? = some (.cells (arr4 X a) 89 (0, 0)) by
       have := (hl5.1.2 (25, q9, .cells #[.int .i64 a, .int .i64 (S0 - a), .int .i64 (T0 - a), .int .i64 (S1 - T0 + a)] 89) (by simp [setB])).2
       unfold arr4
       rw [HC.out.1, HC.out.2.1, HC.out.2.2]
       exact this)
     have HB5 := Lib.hid (HB1.out.trans (b5.mono HB1.out.size))
     have XR5 := Lib.hid ((b5.block _ (block_lt XR.out)).trans XR.out)
     have d15 := cell_kept b5 d1.out
     clear hb5 hl5 hF fb hne b5 f7 f8 fc0 fc1 fd0 d1 hq9 XR HB1
     refine onlyN_intro ?_
     have c1 : w5.cell? ⟨q9, 1, none⟩ = some (.int .i64 (cellA X a 1)) := (cell_at X9.out 1).trans (arr4_get (by omega))
     have c3 : w5.cell? ⟨q9, 3, none⟩ = some (.int .i64 (cellA X a 3)) := (cell_at X9.out 3).trans (arr4_get (by omega))
     have g1 := cellA_rng HXR.out (a := (a : Int)) ⟨by omega, by omega⟩ (k := 1)
     have g3 := cellA_rng HXR.out (a := (a : Int)) ⟨by omega, by omega⟩ (k := 3)
     obtain ⟨y1, hy1⟩ : ∃ y, y = cellA X a 1 := ⟨_, rfl⟩
     obtain ⟨y3, hy3⟩ : ∃ y, y = cellA X a 3 := ⟨_, rfl⟩
     rw [← hy1] at c1 g1
     rw [← hy3] at c3 g3
     have HYY := Lib.hid (And.intro hy1 hy3)
     clear hy1 hy3
     have r8 := cell_at XR5.out 8
     have zr := szs (block_lt XR5.out)
     have z9 := szs (block_lt X9.out)
     have zb := szs (cell_lt d15)
     obtain ⟨b0, hb0⟩ : ∃ b, b = decide (y1 + y3 = T1) := ⟨_, rfl⟩
     have tb : (y1 + y3 == T1) = b0 := by rw [hb0]; exact (by by_cases e : y1 + y3 = T1 <;> simp [e])
     have HOK0 := Lib.hid (show okK X H a 0 = b0 by show decide (cellA X a 1 + cellA X a 3 = X 1 + X 3) = b0; rw [← HYY.out.1, ← HYY.out.2, ← HST.out, hb0])
     clear hb0
     go_wp2_with fail
     (refine region_all (fun i : Nat => World.drewN _ i) mixed (by kernel_rfl) ⟨1, rfl⟩ ?_; (repeat (any_goals (first | go_big_quiet_step (fail) | quiet_step (fail) | (refine wpQuiet_step (fun K hK => ?_); go_simp; split <;> (refine hK _ ?_; clear hK K))))); (all_goals (refine wpQuiet_nil (fun nq => ?_))))
     have BQ : Hid (Below w5.heap.size w5 (w5.drewN nq)) := Lib.hid (by (repeat' (first | with_reducible (first | exact Below.refl _ _ | assumption | refine Below.drew ?_ | refine below_drewN ?_ _ | refine Below.alloc ?_ ?_ _ | refine Below.setCell ?_ ?_ _) | go_size)))
     obtain ⟨w6, hw6⟩ : ∃ w6, w6 = w5.drewN nq := ⟨_, rfl⟩
     rw [← hw6] at BQ ⊢
     have X96 := Lib.hid ((BQ.out.block _ (block_lt X9.out)).trans X9.out)
     have HB6 := Lib.hid (HB5.out.trans (BQ.out.mono HB5.out.size))
     have XR6 := Lib.hid ((BQ.out.block _ (block_lt XR5.out)).trans XR5.out)
     clear hw6 c1 c3 r8 zr z9 zb d15 BQ XR5 HB5 X9 HYY HST tb g1 g3
     go_wp2_with fail
     go_loopw [10, 11] (fun s10 s11 wr => ∃ k : Nat, s11 = .int .i64 k ∧ s10 = .bool (okK X H a k) ∧ k ≤ 4 ∧ Hid (Below w6.heap.size w6 wr)) (fun _ s _ => 4 - (intOf s).toNat)
     case atStart => exact ⟨0, rfl, by rw [HOK0.out], by omega, Lib.hid (Below.refl _ _)⟩
     case round =>
       obtain ⟨k, rfl, rfl, hk, hb⟩ := hrel
       have HBK := hb
       clear hb
       have X97 := Lib.hid ((HBK.out.block _ (block_lt X96.out)).trans X96.out)
       by_cases hkl : k < 4
       · have t4 : decide ((k : Int) < 4) = true := decide_eq_true (by omega)
         have t4n : decide (k < 4) = true := decide_eq_true hkl
         have hkI : (k : Int) < 4 := by omega
         have XR7 := Lib.hid ((HBK.out.block _ (block_lt XR6.out)).trans XR6.out)
         have r5 := cell_at XR7.out 5
         have r6 := cell_at XR7.out 6
         have e0 : wr.cell? ⟨q9, k, none⟩ = some (.int .i64 (cellA X a k)) := (cell_at X97.out k).trans (arr4_get hkl)
         have HBZ := Lib.hid (HB6.out.trans (HBK.out.mono HB6.out.size))
         obtain ⟨gz, oz, rfl, hgz, cz⟩ := (HE.out.cel.below HBZ.out).num1 hkl
         obtain ⟨gh, oh, rfl, hgh, ch⟩ := (HE.out.hid.below HBZ.out).bit hkl
         have zz := szs hgz
         have zh := szs hgh
         have zr := szs (block_lt XR7.out)
         have z9 := szs (block_lt X97.out)
         have hpub := HE.out.pub k hkl
         obtain ⟨y, hy⟩ : ∃ y, y = cellA X a k := ⟨_, rfl⟩
         rw [← hy] at e0
         have HY := Lib.hid hy
         clear hy
         obtain ⟨b, hb⟩ : ∃ b, b = okK X H a k := ⟨_, rfl⟩
         rw [← hb]
         have HOK := Lib.hid hb.symm
         clear hb
         cases b
         · skip
           have HNX := Lib.hid (show okK X H a (k + 1) = false by show (okK X H a k && (decide (0 ≤ cellA X a k) && (H k || decide (X k = cellA X a k)))) = false; rw [HOK.out, ← HY.out]; rfl)
           go_wp2_with fail
           (refine region_all (fun i : Nat => World.drewN _ i) mixed (by kernel_rfl) ⟨1, rfl⟩ ?_; (repeat (any_goals (first | go_big_quiet_step (fail) | quiet_step (fail) | (refine wpQuiet_step (fun K hK => ?_); go_simp; split <;> (refine hK _ ?_; clear hK K))))); (all_goals (refine wpQuiet_nil (fun nq => ?_))))
           have BQ : Hid (Below wr.heap.size wr (wr.drewN nq)) := Lib.hid (by (repeat' (first | with_reducible (first | exact Below.refl _ _ | assumption | refine Below.drew ?_ | refine below_drewN ?_ _ | refine Below.alloc ?_ ?_ _ | refine Below.setCell ?_ ?_ _) | go_size)))
           have HBN := Lib.hid (HBK.out.trans (BQ.out.mono HBK.out.size))
           obtain ⟨w8, hw8⟩ : ∃ w8, w8 = wr.drewN nq := ⟨_, rfl⟩
           rw [← hw8] at HBN ⊢
           clear hw8 BQ
           go_wp2_with fail
           go_roundw
           case rel => (first | exact (show Exists (fun k : Nat => _) from ⟨k + 1, by go_num, by rw [HNX.out], by omega, HBN⟩) | (repeat (first | exact rfl | refine And.intro ((show Exists (fun k : Nat => _) from ⟨k + 1, by go_num, by rw [HNX.out], by omega, HBN⟩)) ?_ | apply Exists.intro)))
           case measure => simp [intOf] <;> omega
         · by_cases hy0 : y ≥ 0
           · have d0 : decide (y ≥ 0) = true := decide_eq_true hy0
             have d0o : decide (0 ≤ y) = true := decide_eq_true hy0
             cases hh : H k
             · rw [hh] at ch
               rw [hpub hh] at cz
               obtain ⟨x, hx⟩ : ∃ x, x = X k := ⟨_, rfl⟩
               rw [← hx] at cz
               have HXK := Lib.hid hx
               clear hx hpub
               by_cases hxy : x = y
               · have d1 : (x == y) = true := by simp [hxy]
                 have HXY := Lib.hid hxy
                 clear hxy
                 have HNX := Lib.hid (show okK X H a (k + 1) = true by show (okK X H a k && (decide (0 ≤ cellA X a k) && (H k || decide (X k = cellA X a k)))) = true; rw [HOK.out, ← HY.out]; rw [hh, ← HXK.out, d0o, decide_eq_true HXY.out]; rfl)
                 go_wp2_with fail
                 (refine region_all (fun i : Nat => World.drewN _ i) mixed (by kernel_rfl) ⟨1, rfl⟩ ?_; (repeat (any_goals (first | go_big_quiet_step (fail) | quiet_step (fail) | (refine wpQuiet_step (fun K hK => ?_); go_simp; split <;> (refine hK _ ?_; clear hK K))))); (all_goals (refine wpQuiet_nil (fun nq => ?_))))
                 have BQ : Hid (Below wr.heap.size wr (wr.drewN nq)) := Lib.hid (by (repeat' (first | with_reducible (first | exact Below.refl _ _ | assumption | refine Below.drew ?_ | refine below_drewN ?_ _ | refine Below.alloc ?_ ?_ _ | refine Below.setCell ?_ ?_ _) | go_size)))
                 have HBN := Lib.hid (HBK.out.trans (BQ.out.mono HBK.out.size))
                 obtain ⟨w8, hw8⟩ : ∃ w8, w8 = wr.drewN nq := ⟨_, rfl⟩
                 rw [← hw8] at HBN ⊢
                 clear hw8 BQ
                 go_wp2_with fail
                 go_roundw
                 case rel => (first | exact (show Exists (fun k : Nat => _) from ⟨k + 1, by go_num, by rw [HNX.out], by omega, HBN⟩) | (repeat (first | exact rfl | refine And.intro ((show Exists (fun k : Nat => _) from ⟨k + 1, by go_num, by rw [HNX.out], by omega, HBN⟩)) ?_ | apply Exists.intro)))
                 case measure => simp [intOf] <;> omega
               · have d1 : (x == y) = false := by simp [hxy]
                 have HXY := Lib.hid hxy
                 clear hxy
                 have HNX := Lib.hid (show okK X H a (k + 1) = false by show (okK X H a k && (decide (0 ≤ cellA X a k) && (H k || decide (X k = cellA X a k)))) = false; rw [HOK.out, ← HY.out]; rw [hh, ← HXK.out, d0o, decide_eq_false HXY.out]; rfl)
                 go_wp2_with fail
                 (refine region_all (fun i : Nat => World.drewN _ i) mixed (by kernel_rfl) ⟨1, rfl⟩ ?_; (repeat (any_goals (first | go_big_quiet_step (fail) | quiet_step (fail) | (refine wpQuiet_step (fun K hK => ?_); go_simp; split <;> (refine hK _ ?_; clear hK K))))); (all_goals (refine wpQuiet_nil (fun nq => ?_))))
                 have BQ : Hid (Below wr.heap.size wr (wr.drewN nq)) := Lib.hid (by (repeat' (first | with_reducible (first | exact Below.refl _ _ | assumption | refine Below.drew ?_ | refine below_drewN ?_ _ | refine Below.alloc ?_ ?_ _ | refine Below.setCell ?_ ?_ _) | go_size)))
                 have HBN := Lib.hid (HBK.out.trans (BQ.out.mono HBK.out.size))
                 obtain ⟨w8, hw8⟩ : ∃ w8, w8 = wr.drewN nq := ⟨_, rfl⟩
                 rw [← hw8] at HBN ⊢
                 clear hw8 BQ
                 go_wp2_with fail
                 go_roundw
                 case rel => (first | exact (show Exists (fun k : Nat => _) from ⟨k + 1, by go_num, by rw [HNX.out], by omega, HBN⟩) | (repeat (first | exact rfl | refine And.intro ((show Exists (fun k : Nat => _) from ⟨k + 1, by go_num, by rw [HNX.out], by omega, HBN⟩)) ?_ | apply Exists.intro)))
                 case measure => simp [intOf] <;> omega
             · rw [hh] at ch
               clear hpub
               have HNX := Lib.hid (show okK X H a (k + 1) = true by show (okK X H a k && (decide (0 ≤ cellA X a k) && (H k || decide (X k = cellA X a k)))) = true; rw [HOK.out, ← HY.out]; rw [hh, d0o]; rfl)
               go_wp2_with fail
               (refine region_all (fun i : Nat => World.drewN _ i) mixed (by kernel_rfl) ⟨1, rfl⟩ ?_; (repeat (any_goals (first | go_big_quiet_step (fail) | quiet_step (fail) | (refine wpQuiet_step (fun K hK => ?_); go_simp; split <;> (refine hK _ ?_; clear hK K))))); (all_goals (refine wpQuiet_nil (fun nq => ?_))))
               have BQ : Hid (Below wr.heap.size wr (wr.drewN nq)) := Lib.hid (by (repeat' (first | with_reducible (first | exact Below.refl _ _ | assumption | refine Below.drew ?_ | refine below_drewN ?_ _ | refine Below.alloc ?_ ?_ _ | refine Below.setCell ?_ ?_ _) | go_size)))
               have HBN := Lib.hid (HBK.out.trans (BQ.out.mono HBK.out.size))
               obtain ⟨w8, hw8⟩ : ∃ w8, w8 = wr.drewN nq := ⟨_, rfl⟩
               rw [← hw8] at HBN ⊢
               clear hw8 BQ
               go_wp2_with fail
               go_roundw
               case rel => (first | exact (show Exists (fun k : Nat => _) from ⟨k + 1, by go_num, by rw [HNX.out], by omega, HBN⟩) | (repeat (first | exact rfl | refine And.intro ((show Exists (fun k : Nat => _) from ⟨k + 1, by go_num, by rw [HNX.out], by omega, HBN⟩)) ?_ | apply Exists.intro)))
               case measure => simp [intOf] <;> omega
           · have d0 : decide (y ≥ 0) = false := decide_eq_false hy0
             have d0o : decide (0 ≤ y) = false := decide_eq_false hy0
             have HNX := Lib.hid (show okK X H a (k + 1) = false by show (okK X H a k && (decide (0 ≤ cellA X a k) && (H k || decide (X k = cellA X a k)))) = false; rw [HOK.out, ← HY.out]; rw [d0o]; rfl)
             go_wp2_with fail
             (refine region_all (fun i : Nat => World.drewN _ i) mixed (by kernel_rfl) ⟨1, rfl⟩ ?_; (repeat (any_goals (first | go_big_quiet_step (fail) | quiet_step (fail) | (refine wpQuiet_step (fun K hK => ?_); go_simp; split <;> (refine hK _ ?_; clear hK K))))); (all_goals (refine wpQuiet_nil (fun nq => ?_))))
             have BQ : Hid (Below wr.heap.size wr (wr.drewN nq)) := Lib.hid (by (repeat' (first | with_reducible (first | exact Below.refl _ _ | assumption | refine Below.drew ?_ | refine below_drewN ?_ _ | refine Below.alloc ?_ ?_ _ | refine Below.setCell ?_ ?_ _) | go_size)))
             have HBN := Lib.hid (HBK.out.trans (BQ.out.mono HBK.out.size))
             obtain ⟨w8, hw8⟩ : ∃ w8, w8 = wr.drewN nq := ⟨_, rfl⟩
             rw [← hw8] at HBN ⊢
             clear hw8 BQ
             go_wp2_with fail
             go_roundw
             case rel => (first | exact (show Exists (fun k : Nat => _) from ⟨k + 1, by go_num, by rw [HNX.out], by omega, HBN⟩) | (repeat (first | exact rfl | refine And.intro ((show Exists (fun k : Nat => _) from ⟨k + 1, by go_num, by rw [HNX.out], by omega, HBN⟩)) ?_ | apply Exists.intro)))
             case measure => simp [intOf] <;> omega
       · have t4 : decide ((k : Int) < 4) = false := decide_eq_false (by omega)
         have t4n : decide (k < 4) = false := decide_eq_false hkl
         obtain rfl : k = 4 := by omega
         rw [okK_four]
         have hcr := cellA_rng HXR.out (a := (a : Int)) ⟨by omega, by omega⟩ (k := i)
         have e0 : wr.cell? ⟨q9, i, none⟩ = some (.int .i64 (cellA X a i)) := (cell_at X97.out i).trans (arr4_get hi)
         have z9 := szs (block_lt X97.out)
         have HBN := Lib.hid (HB6.out.trans (HBK.out.mono HB6.out.size))
         cases hok : okA X H a
         · have HNL := Lib.hid (show (endsE X H i (a + 1)).1 = lo ∧ (endsE X H i (a + 1)).2 = hi' by unfold endsE; rw [hok]; exact ⟨HLH.out.1.symm, HLH.out.2.symm⟩)
           go_wp2_with fail
           go_roundw
           case rel => (first | exact (show Exists (fun a : Nat => _) from ⟨a + 1, by go_num, by rw [HNL.out.1], by rw [HNL.out.2], by omega, HBN⟩) | (repeat (first | exact rfl | refine And.intro ((show Exists (fun a : Nat => _) from ⟨a + 1, by go_num, by rw [HNL.out.1], by rw [HNL.out.2], by omega, HBN⟩)) ?_ | apply Exists.intro)))
           case measure => simp [intOf] <;> omega
         · obtain ⟨y, hy⟩ : ∃ y, y = cellA X a i := ⟨_, rfl⟩
           rw [← hy] at e0 hcr
           obtain ⟨lo2, hl2⟩ : ∃ lo2, min lo y = lo2 := ⟨_, rfl⟩
           obtain ⟨hi2, hh2⟩ : ∃ hi2, max hi' y = hi2 := ⟨_, rfl⟩
           have HNL := Lib.hid (show (endsE X H i (a + 1)).1 = lo2 ∧ (endsE X H i (a + 1)).2 = hi2 by unfold endsE; rw [hok, ← hl2, ← hh2, HLH.out.1, HLH.out.2, hy]; exact ⟨rfl, rfl⟩)
           clear hy
           go_wp2_with fail
           (refine region_all (fun i : Nat => World.drewN _ i) mixed (by kernel_rfl) ⟨1, rfl⟩ ?_; (repeat (any_goals (first | go_big_quiet_step (fail) | quiet_step (fail) | (refine wpQuiet_step (fun K hK => ?_); go_simp; split <;> (refine hK _ ?_; clear hK K))))); (all_goals (refine wpQuiet_nil (fun nq => ?_))))
           have BQ : Hid (Below wr.heap.size wr (wr.drewN nq)) := Lib.hid (by (repeat' (first | with_reducible (first | exact Below.refl _ _ | assumption | refine Below.drew ?_ | refine below_drewN ?_ _ | refine Below.alloc ?_ ?_ _ | refine Below.setCell ?_ ?_ _) | go_size)))
           have HBM := Lib.hid (HBN.out.trans (BQ.out.mono HBN.out.size))
           obtain ⟨w8, hw8⟩ : ∃ w8, w8 = wr.drewN nq := ⟨_, rfl⟩
           rw [← hw8] at HBM ⊢
           clear hw8 BQ e0 z9
           go_wp2_with fail
           go_roundw
           case rel => (first | exact (show Exists (fun a : Nat => _) from ⟨a + 1, by go_num, by rw [HNL.out.1], by rw [HNL.out.2], by omega, HBM⟩) | (repeat (first | exact rfl | refine And.intro ((show Exists (fun a : Nat => _) from ⟨a + 1, by go_num, by rw [HNL.out.1], by rw [HNL.out.2], by omega, HBM⟩)) ?_ | apply Exists.intro)))
           case measure => simp [intOf] <;> omega
   · have t3 : decide ((a : Int) ≤ 12) = false := decide_eq_false (by omega)
     have t3n : decide (a ≤ 12) = false := decide_eq_false hlt
     obtain rfl : a = 13 := by omega
     go_wp2_with fail
     go_returns
     exact ⟨by rw [← HLH.out.1, ← HLH.out.2]; rfl, HB.out⟩
end Go.Proofs.YtdpoppilnokniaaGreatDoor
