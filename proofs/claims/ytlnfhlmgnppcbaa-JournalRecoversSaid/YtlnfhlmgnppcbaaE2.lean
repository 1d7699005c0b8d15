/- Structs of ints compared; Set$2: the same number. -/
import Derived.Test.YtlnfhlmgnppcbaaE1
namespace Go.Proofs.Ytlnfhlmgnppcbaa
open Go.RowKit Go.ChangeShapes Go.WideShapes Go.Deep
set_option linter.unusedVariables false
set_option linter.unusedSimpArgs false
/-- Two rows of ints compared as structs. -/
theorem eqFields_ints (P : Program) (t3 : TypeId) (ht : P.underlying t3 = some (.int .i64)) (hs : ∀ w, (sizeOf t3).run P w = .ok 1 w) (hag : ∀ w, (isAgg t3).run P w = .ok false w) (d : Nat) (xs ys : Array Value) (w : World) : ∀ (fs : List Field) (X Y : Field → Int), (∀ f ∈ fs, f.type = t3 ∧ f.name ≠ "_" ∧ xs[f.offset]? = some (.int .i64 (X f)) ∧ ys[f.offset]? = some (.int .i64 (Y f))) →
    (Op.eqFields (d + 1) xs ys fs).run P w = .ok (fs.all fun f => decide (X f = Y f)) w
  | [], X, Y, _ => rfl
  | f :: fs, X, Y, h => by
    obtain ⟨h1, h2, h3, h4⟩ := h f (by simp)
    have ih := eqFields_ints P t3 ht hs hag d xs ys w fs X Y (fun g hg => h g (by simp [hg]))
    have p1 : (part t3 xs f.offset).run P w = .ok (.int .i64 (X f)) w := by unfold part; simp [hag, hs, h3]
    have p2 : (part t3 ys f.offset).run P w = .ok (.int .i64 (Y f)) w := by unfold part; simp [hag, hs, h4]
    unfold Op.eqFields
    rw [if_pos h2, h1]
    simp only [Sem.run_bind, p1, p2, Result.andThen_ok, run_equalIn_int w d t3 .i64 .i64 _ _ ht]
    by_cases e : X f = Y f
    · simp [e, ih]
    · simp [e]
theorem eq_ints (P : Program) (t t3 : TypeId) (fs : Array Field) (xs ys : List Int) (hu : P.underlying t = some (.struct fs)) (hp : P.stoodInHeld t = false) (ht : P.underlying t3 = some (.int .i64)) (hs : ∀ w, (sizeOf t3).run P w = .ok 1 w) (hag : ∀ w, (isAgg t3).run P w = .ok false w)
    (hf : ∀ f ∈ fs.toList, f.type = t3 ∧ f.name ≠ "_" ∧ f.offset < xs.length ∧ f.offset < ys.length) (hall : (fs.toList.all fun f => decide (xs.getD f.offset 0 = ys.getD f.offset 0)) = decide (xs = ys)) (w : World) :
    (binOp .eql t (.agg (xs.map (Value.int .i64)).toArray) (.agg (ys.map (Value.int .i64)).toArray)).run P w = .ok (.bool (decide (xs = ys))) w ∧ (binOp .neq t (.agg (xs.map (Value.int .i64)).toArray) (.agg (ys.map (Value.int .i64)).toArray)).run P w = .ok (.bool (!decide (xs = ys))) w := by
  have hfo : P.fieldsOf t = fs := by unfold Program.fieldsOf; rw [hu]
  have hE : (Op.equalIn 10000 t (.agg (xs.map (Value.int .i64)).toArray) (.agg (ys.map (Value.int .i64)).toArray)).run P w = .ok (decide (xs = ys)) w := by
    rw [run_equalIn_struct w 9999 t _ _ (by rw [hfo]; exact hu) hp, hfo, eqFields_ints P t3 ht hs hag 9998 _ _ w fs.toList (fun f => xs.getD f.offset 0) (fun f => ys.getD f.offset 0) (fun f hf' => ?_), hall]
    obtain ⟨h1, h2, h3, h4⟩ := hf f hf'
    exact ⟨h1, h2, by simp [List.getElem?_eq_getElem h3, List.getD], by simp [List.getElem?_eq_getElem h4, List.getD]⟩
  rw [run_eql_struct, run_neq_struct, hE]
  exact ⟨rfl, rfl⟩
theorem exec_eql {P : Program} {ρ : Operand → Value} {o : Oper} {op : BinOp} {t t2 : TypeId} {x y : Operand} {xs ys : Array Value} {r : Value} {w : World} (ho : o.op = .binOp op t x y t2) (hx : ρ x = .agg xs) (hy : ρ y = .agg ys) (hg : P.eqGuardType P.depth t = false) (hb : (binOp op t (.agg xs) (.agg ys)).run P w = .ok r w) (hop : op = .eql ∨ op = .neq) : (execOp ρ o).run P w = .ok (.value r) w := by
  rcases hop with rfl | rfl
  all_goals
    unfold execOp
    rw [ho]
    dsimp only
    rw [hx, hy]
    simp [run_eqGuard_agg w _ t x y xs ys hg, hb]
theorem eqNum (a b c d : Int) (w : World) : (binOp .eql 142 (.agg #[.int .i64 a, .int .i64 b]) (.agg #[.int .i64 c, .int .i64 d])).run Try.prog w = .ok (.bool (decide (a = c) && decide (b = d))) w := by
  have h := (eq_ints Try.prog 142 3 _ [a, b] [c, d] Try.underlying142 (by kernel_rfl) (by kernel_rfl) (fun w => by kernel_rfl) (fun w => by kernel_rfl) (by simp) (by simp [Bool.decide_and]) w).1
  simpa [Bool.decide_and] using h
def lE (v : Ev) : List Int := [v.dev, v.seq, v.at', v.late, v.kind, v.bike, v.place, v.rider, v.ride]
theorem lE_inj {a b : Ev} (h : lE a = lE b) : a = b := by
  obtain ⟨a1, a2, a3, a4, a5, a6, a7, a8, a9⟩ := a
  obtain ⟨b1, b2, b3, b4, b5, b6, b7, b8, b9⟩ := b
  simp [lE] at h
  simp [h]
theorem lE_eq (a b : Ev) : decide (lE a = lE b) = decide (a = b) := by
  by_cases h : a = b
  · simp [h]
  · simp [h]; exact fun e => h (lE_inj e)
theorem eqEv (v u : Ev) (w : World) : (binOp .eql 24 (.agg (eC v)) (.agg (eC u))).run Try.prog w = .ok (.bool (decide (v = u))) w ∧ (binOp .neq 24 (.agg (eC v)) (.agg (eC u))).run Try.prog w = .ok (.bool (!decide (v = u))) w := by
  have h := eq_ints Try.prog 24 3 _ (lE v) (lE u) Try.underlying24 (by kernel_rfl) (by kernel_rfl) (fun w => by kernel_rfl) (fun w => by kernel_rfl) (by simp [lE]) (by simp [lE, Bool.decide_and, Bool.and_assoc]) w
  rw [lE_eq] at h
  exact h
theorem number87 (v : Ev) (w : World) : Calls Try.prog 87 #[.agg (eC v)] w fun e w' => e = .returned (.agg #[.int .i64 v.dev, .int .i64 v.seq]) ∧ Grew w w' := by
  unfold eC at *
  obtain ⟨v1, v2, v3, v4, v5, v6, v7, v8, v9⟩ := v
  dsimp only
  go_enter Try.func87, Try.ntmps87
  go_wp2_with fail
  go_returns
  exact ⟨rfl, by (repeat' (first | (with_reducible exact Grew.refl _) | (with_reducible assumption) | (with_reducible refine Grew.drew ?_) | (with_reducible refine Grew.drewN ?_ _) | (with_reducible refine Grew.alloc ?_ _)))⟩
set_option maxHeartbeats 1000000 in
theorem set86 (v u : Ev) (w : World) : Calls Try.prog 86 #[.agg (eC v), .agg (eC u)] w fun e w' => e = .returned (.bool (sameN v u)) ∧ Grew w w' := by
  have C1 := Lib.hid (fun w' => number87 v w')
  have C2 := Lib.hid (fun w' => number87 u w')
  have EQ := Lib.hid (fun w' => eqNum v.dev v.seq u.dev u.seq w')
  obtain ⟨r, hr⟩ : ∃ r, r = sameN v u := ⟨_, rfl⟩
  have e : (decide (v.dev = u.dev) && decide (v.seq = u.seq)) = r := hr ▸ rfl
  rw [e] at EQ
  rw [← hr]
  clear hr e
  unfold eC at *
  obtain ⟨v1, v2, v3, v4, v5, v6, v7, v8, v9⟩ := v
  obtain ⟨n1, n2, n3, n4, n5, n6, n7, n8, n9⟩ := u
  dsimp only at C1 C2 EQ ⊢
  go_enter Try.func86, Try.ntmps86
  go_wp2_with fail
  obtain ⟨wa, hwa⟩ : ∃ wa, wa = w.alloc (.cells #[.int .i64 v1, .int .i64 v2, .int .i64 v3, .int .i64 v4, .int .i64 v5, .int .i64 v6, .int .i64 v7, .int .i64 v8, .int .i64 v9] 24) := ⟨_, rfl⟩
  obtain ⟨wb, hwb⟩ : ∃ wb, wb = wa.alloc (.cells #[.int .i64 n1, .int .i64 n2, .int .i64 n3, .int .i64 n4, .int .i64 n5, .int .i64 n6, .int .i64 n7, .int .i64 n8, .int .i64 n9] 24) := ⟨_, rfl⟩
  rw [← hwa, ← hwb]
  have hz : wa.heap.size = w.heap.size + 1 := by rw [hwa]; simp
  have x1 : wb.heap[w.heap.size]? = some (.cells #[.int .i64 v1, .int .i64 v2, .int .i64 v3, .int .i64 v4, .int .i64 v5, .int .i64 v6, .int .i64 v7, .int .i64 v8, .int .i64 v9] 24) := by
    have e : wa.heap[w.heap.size]? = some (.cells #[.int .i64 v1, .int .i64 v2, .int .i64 v3, .int .i64 v4, .int .i64 v5, .int .i64 v6, .int .i64 v7, .int .i64 v8, .int .i64 v9] 24) := by rw [hwa]; exact heap_alloc_new w _
    have hb : Below wa.heap.size wa wb := by rw [hwb]; exact (Below.refl _ _).alloc (Nat.le_refl _) _
    exact (hb.block _ (block_lt e)).trans e
  have x2 : wb.heap[w.heap.size + 1]? = some (.cells #[.int .i64 n1, .int .i64 n2, .int .i64 n3, .int .i64 n4, .int .i64 n5, .int .i64 n6, .int .i64 n7, .int .i64 n8, .int .i64 n9] 24) := by rw [hwb, ← hz]; exact heap_alloc_new wa _
  have G0 : Hid (Grew w wb) := Lib.hid (by rw [hwb, hwa]; (repeat' (first | (with_reducible exact Grew.refl _) | (with_reducible assumption) | (with_reducible refine Grew.drew ?_) | (with_reducible refine Grew.drewN ?_ _) | (with_reducible refine Grew.alloc ?_ _))))
  clear hwa hwb hz
  have a0 := cell_at x1 0
  have b0 := cell_at x2 0
  have a1 := cell_at x1 1
  have b1 := cell_at x2 1
  have a2 := cell_at x1 2
  have b2 := cell_at x2 2
  have a3 := cell_at x1 3
  have b3 := cell_at x2 3
  have a4 := cell_at x1 4
  have b4 := cell_at x2 4
  have a5 := cell_at x1 5
  have b5 := cell_at x2 5
  have a6 := cell_at x1 6
  have b6 := cell_at x2 6
  have a7 := cell_at x1 7
  have b7 := cell_at x2 7
  have a8 := cell_at x1 8
  have b8 := cell_at x2 8
  clear x1 x2
  (obtain ⟨ι, hne, Fw, fb, hF⟩ := dfamily wb); have hF : ∀ w', (dPlan wb (fun i => if i = 1 then .agg #[.int .i64 v1, .int .i64 v2] else .agg #[.int .i64 n1, .int .i64 n2]) [1, 3] [] []).D () w' → ∃ i, w' = Fw i := hF
  have f0 := fun i => cell_kept (fb i) a0
  have g0 := fun i => cell_kept (fb i) b0
  have f1 := fun i => cell_kept (fb i) a1
  have g1 := fun i => cell_kept (fb i) b1
  have f2 := fun i => cell_kept (fb i) a2
  have g2 := fun i => cell_kept (fb i) b2
  have f3 := fun i => cell_kept (fb i) a3
  have g3 := fun i => cell_kept (fb i) b3
  have f4 := fun i => cell_kept (fb i) a4
  have g4 := fun i => cell_kept (fb i) b4
  have f5 := fun i => cell_kept (fb i) a5
  have g5 := fun i => cell_kept (fb i) b5
  have f6 := fun i => cell_kept (fb i) a6
  have g6 := fun i => cell_kept (fb i) b6
  have f7 := fun i => cell_kept (fb i) a7
  have g7 := fun i => cell_kept (fb i) b7
  have f8 := fun i => cell_kept (fb i) a8
  have g8 := fun i => cell_kept (fb i) b8
  clear a0 b0 a1 b1 a2 b2 a3 b3 a4 b4 a5 b5 a6 b6 a7 b7 a8 b8
  (refine region_chain (dPlan wb (fun i => if i = 1 then .agg #[.int .i64 v1, .int .i64 v2] else .agg #[.int .i64 n1, .int .i64 n2]) [1, 3] [] []) () [] [0, 2, 1, 3, 4, 5] [] mixed (by kernel_rfl) (by kernel_rfl) (dPlan_ok (by simp) (by simp)) (dPlan_start _ _ _ _ _) ?_; refine wpPure_nil ?_; simp only [List.map_cons, List.map_nil, Array.getD_eq_getD_getElem?, List.getElem?_toArray, List.getElem?_cons_zero, List.getElem?_cons_succ, Option.getD_some])
  (repeat (first | (refine wpChain_skip rfl ?_; simp only [Act.put, List.setIfInBounds_toArray, List.set_cons_succ, List.set_cons_zero]) | (refine wpChain_quiet hF rfl rfl rfl ?_; intro K hK; go_big_quiet_op; go_big_quiet_on) | (refine wpChain_pure _ rfl rfl (fun w' _ => by go_simp; try rfl) ?_; simp only [Act.put, List.setIfInBounds_toArray, List.set_cons_succ, List.set_cons_zero])))
  refine wpChain_dcall 87 _ rfl rfl (fun w' => by go_simp) (fun w' hb => C1.out w') ?_
  simp only [Act.put, List.setIfInBounds_toArray, List.set_cons_succ, List.set_cons_zero]
  refine wpChain_dcall 87 _ rfl rfl (fun w' => by go_simp) (fun w' hb => C2.out w') ?_
  simp only [Act.put, List.setIfInBounds_toArray, List.set_cons_succ, List.set_cons_zero]
  simp only [if_true, if_false, (by decide : ¬ (3 = 1))]
  refine wpChain_pure (.bool r) rfl rfl (fun w' _ => exec_eql rfl rfl rfl Try.eqGuardType142 (EQ.out w') (.inl rfl)) ?_
  simp only [Act.put, List.setIfInBounds_toArray, List.set_cons_succ, List.set_cons_zero]
  (repeat (first | (refine wpChain_skip rfl ?_; simp only [Act.put, List.setIfInBounds_toArray, List.set_cons_succ, List.set_cons_zero]) | (refine wpChain_quiet hF rfl rfl rfl ?_; intro K hK; go_big_quiet_op; go_big_quiet_on) | (refine wpChain_pure _ rfl rfl (fun w' _ => by go_simp; try rfl) ?_; simp only [Act.put, List.setIfInBounds_toArray, List.set_cons_succ, List.set_cons_zero])))
  refine wpChain_nil (fun w4 hb4 hl4 => ?_)
  have B4 : Hid (Grew wb w4) := hb4
  clear hb4 hl4 hF fb hne f0 f1 f2 f3 f4 f5 f6 f7 f8 g0 g1 g2 g3 g4 g5 g6 g7 g8 C1 C2 EQ
  go_wp2_with fail
  refine onlyN_intro ?_
  go_wp2_with fail
  go_returns
  exact ⟨rfl, G0.out.trans B4.out⟩
end Go.Proofs.Ytlnfhlmgnppcbaa
