/- A queue's heap in memory: which of two entries comes first; two entries exchanged. No condition but that the places lie in the heap. -/
import Derived.Test.YtlnfhlmgnppcbaaR8E
import Derived.Test.YtlnfhlmgnppcbaaBA
namespace Go.Proofs.Ytlnfhlmgnppcbaa
open Go.RowKit
namespace QT
set_option linter.unusedVariables false
set_option linter.unusedSimpArgs false
set_option maxRecDepth 8000
/-- The queue's own block. -/
def QB (w : World) (q : Nat) (d : D) (v : Value) (p : Int) : Prop := w.heap[q]? = some (.cells #[F d, v, .int .i64 p] 216 (0, 0))
theorem QB.off {X : Nat → Prop} {w w' : World} {q : Nat} {d : D} {v : Value} {p : Int} (h : QB w q d v p) (ho : Off X w w') (hX : ¬ X q) : QB w' q d v p := (ho.block q (block_lt h) hX).trans h
theorem QB.set1 {w : World} {q : Nat} {d : D} {v v' : Value} {p : Int} (h : QB w q d v p) : QB (w.setCell ⟨q, 1, none⟩ v') q d v' p := by
  unfold QB at *
  rw [setCell_at h, setAt_same (block_lt h)]
  rfl
theorem QB.set2 {w : World} {q : Nat} {d : D} {v : Value} {p p' : Int} (h : QB w q d v p) : QB (w.setCell ⟨q, 2, none⟩ (.int .i64 p')) q d v p' := by
  unfold QB at *
  rw [setCell_at h, setAt_same (block_lt h)]
  rfl
theorem ec_len (x : T × Int) : (ec x).length = 4 := rfl
/-- The heap's entries. -/
abbrev RowE (w : World) (base : Nat) (v : Value) (n : Nat) (G : Nat → T × Int) : Prop := Row w base 218 4 v n (fun j => ec (G j))
theorem RowE.at {w : World} {base g n cap : Nat} {G : Nat → T × Int} (h : RowE w base (.slice (some ⟨g, 0, none⟩) n cap) n G) {i : Nat} (hi : i < n) : ∀ j, j < 4 → w.cell? ⟨g, i * 4 + j, none⟩ = (ec (G i))[j]? :=
  fun j hj => Row.cell h (fun i => ec_len (G i)) hi hj

set_option maxHeartbeats 1000000 in
theorem before (d : D) (w : World) (base q g n cap : Nat) (p : Int) (G : Nat → T × Int) (i k : Nat) (hq : QB w q d (.slice (some ⟨g, 0, none⟩) n cap) p) (hr : RowE w base (.slice (some ⟨g, 0, none⟩) n cap) n G)
    (hi : i < n) (hk : k < n) (hn : n ≤ cap) (hc : cap ≤ 9223372036854775807) :
    Calls Try.prog 144 #[.pointer (some ⟨q, 0, none⟩), .int .i64 i, .int .i64 k] w fun e w' => e = .returned (.bool (befE (lt d) (G i) (G k))) ∧ Below w.heap.size w w' := by
  have ai := RowE.at hr hi
  have ak := RowE.at hr hk
  have q0 : w.cell? ⟨q, 0, none⟩ = some (F d) := cell_at hq 0
  have q1 : w.cell? ⟨q, 1, none⟩ = some (.slice (some ⟨g, 0, none⟩) n cap) := cell_at hq 1
  have i0 : (i : Int) < (n : Int) := by omega
  have k0 : (k : Int) < (n : Int) := by omega
  have zq := szs (block_lt hq)
  clear hq hr
  obtain ⟨⟨x, a⟩, hx⟩ : ∃ y, y = G i := ⟨_, rfl⟩
  obtain ⟨⟨y, b⟩, hy⟩ : ∃ y, y = G k := ⟨_, rfl⟩
  rw [← hx] at ai ⊢
  rw [← hy] at ak ⊢
  clear hx hy
  have L1 := fun w => less d x y w
  have L2 := fun w => less d y x w
  obtain ⟨r1, e1⟩ : ∃ r1, r1 = lt d x y := ⟨_, rfl⟩
  obtain ⟨r2, e2⟩ : ∃ r2, r2 = lt d y x := ⟨_, rfl⟩
  rw [← e1] at L1
  rw [← e2] at L2
  rw [show befE (lt d) (x, a) (y, b) = (r1 || (!r2 && decide (a < b))) by rw [e1, e2]; rfl]
  clear e1 e2
  obtain ⟨xk, xt, xu⟩ := x; obtain ⟨yk, yt, yu⟩ := y
  have h0 := ai 0 (by decide); have h1 := ai 1 (by decide); have h2 := ai 2 (by decide); have h3 := ai 3 (by decide); have m0 := ak 0 (by decide); have m1 := ak 1 (by decide); have m2 := ak 2 (by decide); have m3 := ak 3 (by decide); simp only [ec, Nat.add_zero, List.getElem?_cons_zero, List.getElem?_cons_succ] at h0 h1 h2 h3 m0 m1 m2 m3
  clear ai ak
  have zx := szs (cell_lt h0)
  dsimp only at zx
  cases d
  all_goals
    simp only [F, fn, vv, if_true, if_false, Bool.false_eq_true] at *
    go_enter Try.func144, Try.ntmps144
    go_wp2
    obtain ⟨ι, hne, Fw, fb, hF⟩ := grow_family w
    have hF : ∀ w', (gPlan w (fun _ => undef) [] [] []).D () w' → ∃ i, w' = Fw i := hF
    have fq0 := fun i => cell_kept (fb i) q0
    have fq1 := fun i => cell_kept (fb i) q1
    have fh0 := fun i => cell_kept (fb i) h0; have fh1 := fun i => cell_kept (fb i) h1; have fh2 := fun i => cell_kept (fb i) h2; have fh3 := fun i => cell_kept (fb i) h3; have fm0 := fun i => cell_kept (fb i) m0; have fm1 := fun i => cell_kept (fb i) m1; have fm2 := fun i => cell_kept (fb i) m2; have fm3 := fun i => cell_kept (fb i) m3
    (refine region_chain (gPlan w (fun _ => undef) [] [(14, fun b => .pointer (some ⟨b, 0, none⟩), .cells #[.int .i64 0, .int .i64 0, .int .i64 0, .int .i64 0] 218), (15, fun b => .pointer (some ⟨b, 0, none⟩), .cells #[.int .i64 0, .int .i64 0, .int .i64 0, .int .i64 0] 218)] [(16, 14), (17, 15)]) () [] [0, 1, 2, 3, 4, 5, 6, 7, 8, 9, 10, 11, 12, 13, 14, 15, 16, 17] [] mixed (by kernel_rfl) (by kernel_rfl) (gPlan_ok (by simp) (by simp)) (gPlan_start _ _ _ _ _) ?_; refine wpPure_nil ?_; simp only [List.map_cons, List.map_nil, Array.getD_eq_getD_getElem?, List.getElem?_toArray, List.getElem?_cons_zero, List.getElem?_cons_succ, Option.getD_some])
    (repeat (refine wpChain_quiet hF rfl rfl rfl ?_; intro K hK; go_big_quiet_op; go_big_quiet_on))
    (refine wpChain_alloc _ _ rfl (List.mem_cons_self ..) rfl (fun w' => by go_simp) (fun b1 hb1 => ?_); simp only [Act.put, List.setIfInBounds_toArray, List.set_cons_succ, List.set_cons_zero])
    (refine wpChain_alloc _ _ rfl (List.mem_cons_of_mem _ (List.mem_cons_self ..)) rfl (fun w' => by go_simp) (fun b2 hb2 => ?_); simp only [Act.put, List.setIfInBounds_toArray, List.set_cons_succ, List.set_cons_zero])
    (refine wpChain_store 14 b1 (.cells #[.int .i64 0, .int .i64 0, .int .i64 0, .int .i64 0] 218) (.cells #[.int .i64 xk, .int .i64 xt, .int .i64 xu, .int .i64 a] 218) rfl (by simp [gPlan]) (by simp [setB]) (by simp [setB]) rfl (fun w' hw' => by have c0 := cell_at hw' 0; have c1 := cell_at hw' 1; have c2 := cell_at hw' 2; have c3 := cell_at hw' 3; have g0 := free_at hw'; have hlt := block_lt hw'; go_simp; rw [setCell_at hw', setAt_setCell hlt, setAt_setCell hlt, setAt_setCell hlt]; rfl) ?_; simp only [Act.put, List.setIfInBounds_toArray, List.set_cons_succ, List.set_cons_zero])
    (refine wpChain_store 15 b2 (.cells #[.int .i64 0, .int .i64 0, .int .i64 0, .int .i64 0] 218) (.cells #[.int .i64 yk, .int .i64 yt, .int .i64 yu, .int .i64 b] 218) rfl (by simp [gPlan]) (by simp [setB]) (by simp [setB]) rfl (fun w' hw' => by have c0 := cell_at hw' 0; have c1 := cell_at hw' 1; have c2 := cell_at hw' 2; have c3 := cell_at hw' 3; have g0 := free_at hw'; have hlt := block_lt hw'; go_simp; rw [setCell_at hw', setAt_setCell hlt, setAt_setCell hlt, setAt_setCell hlt]; rfl) ?_; simp only [Act.put, List.setIfInBounds_toArray, List.set_cons_succ, List.set_cons_zero])
    refine wpChain_nil (fun w4 hb4 hl4 => ?_)
    have hx1 : w4.heap[b1]? = some (.cells #[.int .i64 xk, .int .i64 xt, .int .i64 xu, .int .i64 a] 218) := (hl4.2 (14, b1, .cells #[.int .i64 xk, .int .i64 xt, .int .i64 xu, .int .i64 a] 218) (by simp [setB])).2
    have hx2 : w4.heap[b2]? = some (.cells #[.int .i64 yk, .int .i64 yt, .int .i64 yu, .int .i64 b] 218) := (hl4.2 (15, b2, .cells #[.int .i64 yk, .int .i64 yt, .int .i64 yu, .int .i64 b] 218) (by simp [setB])).2
    have hB4 : Hid (Below w.heap.size w w4) := hb4
    have p0 := cell_kept hb4 q0
    have c10 : w4.cell? ⟨b1, 0, none⟩ = some (.int .i64 xk) := cell_at hx1 0; have c11 : w4.cell? ⟨b1, 1, none⟩ = some (.int .i64 xt) := cell_at hx1 1; have c12 : w4.cell? ⟨b1, 2, none⟩ = some (.int .i64 xu) := cell_at hx1 2; have c13 : w4.cell? ⟨b1, 3, none⟩ = some (.int .i64 a) := cell_at hx1 3; have c20 : w4.cell? ⟨b2, 0, none⟩ = some (.int .i64 yk) := cell_at hx2 0; have c21 : w4.cell? ⟨b2, 1, none⟩ = some (.int .i64 yt) := cell_at hx2 1; have c22 : w4.cell? ⟨b2, 2, none⟩ = some (.int .i64 yu) := cell_at hx2 2; have c23 : w4.cell? ⟨b2, 3, none⟩ = some (.int .i64 b) := cell_at hx2 3
    have zb1 := szs (block_lt hx1)
    have zb2 := szs (block_lt hx2)
    clear hb4 hl4 hx1 hx2 h0 h1 h2 h3 m0 m1 m2 m3 hF fb fq0 fq1
    refine onlyN_intro ?_
    go_wp2_with fail
    (refine region_drawn 8 mixed (by kernel_rfl) ?_; simp only [List.take_succ_cons, List.take_zero, List.drop_succ_cons, List.drop_zero]; (repeat (any_goals (first | go_big_quiet_step (fail) | quiet_step (fail) | (refine wpQuiet_step (fun K hK => ?_); go_simp; split <;> (refine hK _ ?_; clear hK K))))); (all_goals (refine wpQuiet_nil (fun nq => ?_))))
    go_wp2_with ((with_reducible refine (L1 _).mono ?_); rintro e w5 ⟨rfl, hb5⟩; have hb6 : Below w4.heap.size w4 w5 := (below_drewN (Below.refl _ _) _).trans hb5; have hB5 : Hid (Below w.heap.size w w5) := hB4.out.trans (hb6.mono hB4.out.size); have hb7 := Lib.hid hb6; clear hb5 hb6; have p1 := cell_kept hb7.out p0; have d10 := cell_kept hb7.out c10; have d11 := cell_kept hb7.out c11; have d12 := cell_kept hb7.out c12; have d13 := cell_kept hb7.out c13; have d20 := cell_kept hb7.out c20; have d21 := cell_kept hb7.out c21; have d22 := cell_kept hb7.out c22; have d23 := cell_kept hb7.out c23)
    all_goals (first | (go_returns; exact ⟨by simp [*], hB5.out⟩) | skip)
    all_goals clear c10 c11 c12 c13 c20 c21 c22 c23 p0
    all_goals (refine region_drawn 8 mixed (by kernel_rfl) ?_; simp only [List.take_succ_cons, List.take_zero, List.drop_succ_cons, List.drop_zero]; (repeat (any_goals (first | go_big_quiet_step (fail) | quiet_step (fail) | (refine wpQuiet_step (fun K hK => ?_); go_simp; split <;> (refine hK _ ?_; clear hK K))))); (all_goals (refine wpQuiet_nil (fun nq => ?_))))
    all_goals go_wp2_with ((with_reducible refine (L2 _).mono ?_); rintro e w6 ⟨rfl, hb8⟩; have hb9 : Below w5.heap.size w5 w6 := (below_drewN (Below.refl _ _) _).trans hb8; have hB6 : Hid (Below w.heap.size w w6) := hB5.out.trans (hb9.mono hB5.out.size); have u12 := cell_kept hb9 d13; have u22 := cell_kept hb9 d23)
    all_goals go_returns
    all_goals exact ⟨by simp [*], hB6.out⟩
end QT
end Go.Proofs.Ytlnfhlmgnppcbaa
