/- Pop of a queue. Condition: at most a million pushes. -/
import Derived.Test.YtlnfhlmgnppcbaaR8Q5
import Derived.Laws.CopyRow
namespace Go.Proofs.Ytlnfhlmgnppcbaa
open Go.RowKit
namespace QT
set_option linter.unusedVariables false
set_option linter.unusedSimpArgs false
set_option maxRecDepth 8000
theorem clear_last {w : World} {base g n cap : Nat} {G : Nat → T × Int} (hr : RowE w base (.slice (some ⟨g, 0, none⟩) (n + 1) cap) (n + 1) G) :
    ∃ w', (∀ ty, (Builtin.clear_ #[214] ty #[.slice (some ⟨g, n * 4, none⟩) 1 (cap - n)]).run Try.prog w = .ok (.tuple #[]) w') ∧ RowE w' base (.slice (some ⟨g, 0, none⟩) n cap) n G ∧ Off (fun b => b = g) w w' := by
  rcases hr.2 with ⟨h, _⟩ | ⟨g', cap', cur, he, hb, hg, hn, hc, hsz, ht⟩
  · cases h
  · cases he
    have hfit : n * 4 + 0 + ([.int .i64 0, .int .i64 0, .int .i64 0, .int .i64 0] : List Value).length ≤ cur.size := by
      have : (n + 1) * 4 ≤ cap * 4 := Nat.mul_le_mul_right 4 hn
      rw [hsz, Nat.succ_mul] at *; simp; omega
    have hrun := run_storeCells_at Try.prog g (n * 4) 218 ([.int .i64 0, .int .i64 0, .int .i64 0, .int .i64 0] : List Value) 0 cur w hg hfit (by intro v hv; simp at hv; simp [hv]; rfl)
    obtain ⟨i0, hi, hz0, hz1, hz2⟩ := info_parts infoE
    refine ⟨w.setRow g (cur.toList.take (n * 4 + 0) ++ ([.int .i64 0, .int .i64 0, .int .i64 0, .int .i64 0] : List Value) ++ cur.toList.drop (n * 4 + 0 + ([.int .i64 0, .int .i64 0, .int .i64 0, .int .i64 0] : List Value).length)).toArray, fun ty => ?_, ?_, ?_⟩
    · have hz : (zeroValue 218).run Try.prog w = .ok (.agg #[.int .i64 0, .int .i64 0, .int .i64 0, .int .i64 0]) w := by kernel_rfl
      have hzc : Builtin.zeroCells (Value.agg #[.int .i64 0, .int .i64 0, .int .i64 0, .int .i64 0]).cells 1 = #[.int .i64 0, .int .i64 0, .int .i64 0, .int .i64 0] := by kernel_rfl
      have hu := run_underlying (P := Try.prog) (w := w) Try.underlying214
      simp [Builtin.clear_, hu, hz, Result.andThen, hzc, hrun]
    · refine ⟨flat_len (fun i => ec_len (G i)) n, .inr ⟨g, cap, _, rfl, hb, setRow_heap _ _ _ _ _ _ hg, by omega, hc, ?_, ?_⟩⟩
      · simp at hfit ⊢; omega
      · simp only [Nat.add_zero]
        rw [List.append_assoc]
        rw [List.take_append_of_le_length (by simp at hfit ⊢; omega), List.take_take, Nat.min_self]
        have := congrArg (List.take (n * 4)) ht
        rw [List.take_take, Nat.min_eq_left (Nat.mul_le_mul_right 4 (by omega)), flat_take (fun i => ec_len (G i)) (by omega)] at this
        exact this
    · exact ⟨rfl, rfl, rfl, by simp, fun k _ hx => setRow_other _ _ _ _ hx⟩
set_option maxHeartbeats 1000000 in
theorem pop_some (d : D) (w : World) (base q : Nat) (ow : Option Nat) (l : List T) (N : Int) (h : Q w base q ow d l N) (hl : l ≠ []) (hN : N ≤ 1000000) :
    Calls Try.prog 143 #[.pointer (some ⟨q, 0, none⟩)] w fun e w' => e = .returned (.tuple #[vv (l.getD (minIx (lt d) l) default), .bool true]) ∧ Q w' base q ow d (l.eraseIdx (minIx (lt d) l)) N ∧ Off (FP q ow) w w' := by
  have hw := h.within
  have P := fun w' (hb : Below w.heap.size w w') => peek_some d w' base q ow l N (h.below hb) hl
  have hlen := h.len
  obtain ⟨v, G, A, h1, h2, h3, h4, h5, h6, h7, h8, h9, h10, h11⟩ := h
  obtain ⟨n, hn⟩ : ∃ n, l.length = n + 1 := ⟨l.length - 1, by have := List.length_pos_iff.2 hl; omega⟩
  have hp0 := pop_spec (lt_ord d) h4 h5 h3 (by omega)
  rw [h7] at hp0
  have hil : minIx (lt d) l < l.length := minIx_lt hl
  rw [hn] at h2 h3 h4 hil
  rcases h2.shape with ⟨_, hz⟩ | ⟨g, cap, rfl, hbg, hgl, hcap, hcm⟩
  · omega
  have hgo : ow = some g := by rw [← h8]; rfl
  have hqg : q ≠ g := fun e => h9 (by rw [hgo, e])
  have hql := block_lt h1
  have zq := szs hql
  have zg := szs hgl
  have hcm2 : cap ≤ 9223372036854775807 := by unfold maxLen at hcm; omega
  have H1 := Lib.hid h1
  have H2 := Lib.hid h2
  have HP := Lib.hid P
  have HHp := Lib.hid h3
  have HPm := Lib.hid h4
  have HP0 := Lib.hid hp0
  have HA := Lib.hid (And.intro h5 (And.intro h6 (And.intro h7 (And.intro h8 (And.intro h9 (And.intro h10 h11))))))
  have HGO := Lib.hid hgo
  have HN := Lib.hid hn
  clear P h1 h2 h3 h4 hp0 h5 h6 h7 h8 h9 h10 h11 hgo hw hn
  generalize hx : l.getD (minIx (lt d) l) default = x at *
  have HX := Lib.hid hx
  clear hx
  obtain ⟨xk, xt, xu⟩ := x
  unfold vv at *
  go_enter Try.func143, Try.ntmps143
  go_wp2_with fail
  refine (HP.out _ (by (repeat' (first | (with_reducible exact Below.refl _ _) | (with_reducible assumption) | (with_reducible refine Below.drew ?_) | (with_reducible refine below_drewN ?_ _) | (with_reducible refine Below.alloc ?_ ?_ _) | (with_reducible refine Below.setCell ?_ ?_ _) | go_size)))).mono ?_
  rintro e w1 ⟨rfl, hb1⟩
  have hb1' : Below w.heap.size w w1 := ((Below.refl _ _).alloc (Nat.le_refl _) _).trans (hb1.mono (by simp))
  have hr1 : w.heap.size < w1.heap.size := by have := hb1.size; simp at this; omega
  have r0 : w1.heap[w.heap.size]? = some (.cells #[.int .i64 0, .int .i64 0, .int .i64 0] 208) := (hb1.block _ (by simp)).trans (heap_alloc_new w _)
  clear hb1
  have O1 : Off (fun _ => False) w w1 := Off.of_below hb1'
  have q1 : w1.cell? ⟨q, 1, none⟩ = some (.slice (some ⟨g, 0, none⟩) (n + 1) cap) := cell_at (H1.out.off O1 (fun h => h)) 1
  have zq1 := szs (show q < w1.heap.size by omega)
  obtain ⟨w2, hw2⟩ : ∃ w2, w2 = w1.alloc (.cells #[.int .i64 xk, .int .i64 xt, .int .i64 xu] 208) := ⟨_, rfl⟩
  have O2 : Off (fun _ => False) w w2 := by rw [hw2]; exact O1.alloc _
  have QB2 := Lib.hid (H1.out.off O2 (fun h => h))
  have R2 : RowE w2 base (.slice (some ⟨g, 0, none⟩) (n + 1) cap) (n + 1) G := Row.off H2.out O2 (fun _ _ h => h)
  have HR2 := Lib.hid R2
  have x2 : w2.heap[w1.heap.size]? = some (.cells #[.int .i64 xk, .int .i64 xt, .int .i64 xu] 208) := by rw [hw2]; exact heap_alloc_new w1 _
  have r2 : w2.heap[w.heap.size]? = some (.cells #[.int .i64 0, .int .i64 0, .int .i64 0] 208) := by rw [hw2]; exact (Below.heap_alloc w1 _ _ hr1).trans r0
  have HX2 := Lib.hid x2
  have HRR := Lib.hid r2
  have HO2 := Lib.hid O2
  clear r0 O1 O2 R2 x2 r2
  go_wp2_with fail
  rw [← hw2]
  have S := swap d w2 base q g (n + 1) cap N G 0 n QB2.out HR2.out (by omega) (by omega) hcap hcm2 hqg
  rw [show (((0 : Nat) : Int)) = 0 from rfl] at S
  refine S.mono ?_
  rintro e w3 ⟨rfl, hr3, ho3⟩
  obtain ⟨w4, hcl, hr4, ho4⟩ := clear_last hr3
  have ho34 := ho3.same ho4
  have q3 : w3.cell? ⟨q, 1, none⟩ = some (.slice (some ⟨g, 0, none⟩) (n + 1) cap) := cell_at (QB2.out.off ho3 hqg) 1
  have qb4 := QB2.out.off ho34 hqg
  have q4 : w4.cell? ⟨q, 1, none⟩ = some (.slice (some ⟨g, 0, none⟩) (n + 1) cap) := cell_at qb4 1
  have f4 : w4.frozen? ⟨q, 1, none⟩ = false := free_at qb4 1
  have QB5 := Lib.hid (QB.set1 (v' := .slice (some ⟨g, 0, none⟩) n cap) qb4)
  have o5 : Off (fun b => b = q) w4 (w4.setCell ⟨q, 1, none⟩ (.slice (some ⟨g, 0, none⟩) n cap)) := (Off.refl (fun b => b = q) w4).setCell (fun _ => rfl) _
  have R5 := Lib.hid (show RowE (w4.setCell ⟨q, 1, none⟩ (.slice (some ⟨g, 0, none⟩) n cap)) base (.slice (some ⟨g, 0, none⟩) n cap) n (swp G 0 n) from Row.off hr4 o5 (fun g' hg' h => by cases hg'; exact hqg h.symm))
  have O5 := Lib.hid (show Off (fun b => b = q ∨ b = g) w2 (w4.setCell ⟨q, 1, none⟩ (.slice (some ⟨g, 0, none⟩) n cap)) from (ho34.mono (fun _ _ h => .inr h)).trans o5 (fun _ _ h => .inl h))
  clear S hr3 ho3 hr4 ho4 ho34 qb4 o5 hw2 q1
  go_wp2_with fail
  refine (sink d _ base q g n cap N (swp G 0 n) QB5.out R5.out (down_start HHp.out) (by omega) hcm2 hqg (by have := HN.out; omega)).mono ?_
  rintro e w6 ⟨rfl, G', hr6, hh6, hp6, ho6⟩
  have O6 : Off (fun b => b = q ∨ b = g) w2 w6 := O5.out.trans ho6 (fun _ _ h => .inr h)
  have ne1 : ¬ (w1.heap.size = q ∨ w1.heap.size = g) := by omega
  have ne0 : ¬ (w.heap.size = q ∨ w.heap.size = g) := by omega
  have x6 : w6.heap[w1.heap.size]? = some (.cells #[.int .i64 xk, .int .i64 xt, .int .i64 xu] 208) := (O6.block _ (block_lt HX2.out) ne1).trans HX2.out
  have r6 : w6.heap[w.heap.size]? = some (.cells #[.int .i64 0, .int .i64 0, .int .i64 0] 208) := (O6.block _ (block_lt HRR.out) ne0).trans HRR.out
  have c0 : w6.cell? ⟨w1.heap.size, 0, none⟩ = some (.int .i64 xk) := cell_at x6 0
  have c1 : w6.cell? ⟨w1.heap.size, 1, none⟩ = some (.int .i64 xt) := cell_at x6 1
  have c2 : w6.cell? ⟨w1.heap.size, 2, none⟩ = some (.int .i64 xu) := cell_at x6 2
  have s0 : w6.cell? ⟨w.heap.size, 0, none⟩ = some (.int .i64 0) := cell_at r6 0
  have s1 : w6.cell? ⟨w.heap.size, 1, none⟩ = some (.int .i64 0) := cell_at r6 1
  have s2 : w6.cell? ⟨w.heap.size, 2, none⟩ = some (.int .i64 0) := cell_at r6 2
  have fr6 : ∀ j, w6.frozen? ⟨w.heap.size, j, none⟩ = false := free_at r6
  have QB6 := Lib.hid (QB5.out.off ho6 hqg)
  have OE := Lib.hid (show Off (FP q ow) w (putCells w6 w.heap.size 0 [.int .i64 xk, .int .i64 xt, .int .i64 xu]) from by
    have a1 : Off (FP q ow) w w6 := Off.trans (X := FP q ow) (HO2.out.mono (fun _ _ h => h.elim)) O6 (fun b _ h => h.imp id (fun e => by rw [HGO.out, e]))
    exact a1.trans (off_putCells (X := fun b => b = w.heap.size) rfl _ _ _ (Off.refl _ _)) (fun b hb h => by omega))
  have OF := Lib.hid (show Off (fun b => b = w.heap.size) w6 (putCells w6 w.heap.size 0 [.int .i64 xk, .int .i64 xt, .int .i64 xu]) from off_putCells (X := fun b => b = w.heap.size) rfl _ _ _ (Off.refl _ _))
  have HR6 := Lib.hid hr6
  have HH6 := Lib.hid hh6
  have HP6 := Lib.hid (hp6.trans (pop_rest HPm.out HP0.out (swp_perm (by omega) (by omega)) (swp_right _ _ _)))
  have HNE := Lib.hid ne0
  have HQ7 := Lib.hid (show Q (putCells w6 w.heap.size 0 [.int .i64 xk, .int .i64 xt, .int .i64 xu]) base q ow d (l.eraseIdx (minIx (lt d) l)) N from by
    obtain ⟨h5, h6, h7, h8, h9, h10, h11⟩ := HA.out
    have hlen' : (l.eraseIdx (minIx (lt d) l)).length = n := by rw [List.length_eraseIdx_of_lt (by have := HN.out; omega), HN.out]; rfl
    refine ⟨_, G', A.eraseIdx (minIx (lt d) l), QB6.out.off OF.out (fun e => HNE.out (.inl e.symm)), ?_, ?_, ?_, asc_erase h5 _, fun x hx => h6 x (List.mem_of_mem_eraseIdx hx), ?_, h8, h9, h10, h11⟩
    · rw [hlen']; exact Row.off HR6.out OF.out (fun g' hg' h => by cases hg'; exact HNE.out (.inr h.symm))
    · rw [hlen']; exact HH6.out
    · rw [hlen']; exact HP6.out
    · rw [List.eraseIdx_eq_take_drop_succ, List.map_append, List.map_take, List.map_drop, h7, ← List.eraseIdx_eq_take_drop_succ])
  clear x6 r6 hr6 hh6 hp6 ho6 O6 hcl q3 q4 f4 ne0 ne1
  go_wp2_with fail
  refine bodyPost_ret (v := .tuple #[.agg #[.int .i64 xk, .int .i64 xt, .int .i64 xu], .bool true]) (by simp [results, Try.results143, go_sem, s0, s1, s2]) rfl ⟨rfl, HQ7.out, OE.out⟩
theorem pop_none (d : D) (w : World) (base q : Nat) (ow : Option Nat) (N : Int) (h : Q w base q ow d [] N) :
    Calls Try.prog 143 #[.pointer (some ⟨q, 0, none⟩)] w fun e w' => e = .returned (.tuple #[.agg #[.int .i64 0, .int .i64 0, .int .i64 0], .bool false]) ∧ Below w.heap.size w w' := by
  have P := fun w' (hb : Below w.heap.size w w') => peek_none d w' base q ow N (h.below hb)
  have HP := Lib.hid P
  clear P h
  go_enter Try.func143, Try.ntmps143
  go_wp2_with fail
  refine (HP.out _ (by (repeat' (first | (with_reducible exact Below.refl _ _) | (with_reducible assumption) | (with_reducible refine Below.drew ?_) | (with_reducible refine below_drewN ?_ _) | (with_reducible refine Below.alloc ?_ ?_ _) | (with_reducible refine Below.setCell ?_ ?_ _) | go_size)))).mono ?_
  rintro e w1 ⟨rfl, hb1⟩
  have hk := bcell hb1
  have z1 := szs (show w.heap.size < w1.heap.size by have := hb1.size; simp at this; omega)
  have hb2 : Below w.heap.size w w1 := ((Below.refl _ _).alloc (Nat.le_refl _) _).trans (hb1.mono (by simp))
  go_wp2_with fail
  refine bodyPost_ret (v := .tuple #[.agg #[.int .i64 0, .int .i64 0, .int .i64 0], .bool false]) (by simp [results, Try.results143, go_sem, hk, z1]) rfl ⟨rfl, ?_⟩
  (have hszz := (hb2).size; (repeat' (first | (with_reducible exact Below.refl _ _) | (with_reducible assumption) | (with_reducible refine Below.drew ?_) | (with_reducible refine below_drewN ?_ _) | (with_reducible refine Below.alloc ?_ ?_ _) | (with_reducible refine Below.setCell ?_ ?_ _) | go_size)))
theorem pop_nil (w : World) :
    Calls Try.prog 143 #[.pointer none] w fun e w' => e = .returned (.tuple #[.agg #[.int .i64 0, .int .i64 0, .int .i64 0], .bool false]) ∧ Below w.heap.size w w' := by
  go_enter Try.func143, Try.ntmps143
  go_wp2_with fail
  refine (peek_nil _).mono ?_
  rintro e w1 ⟨rfl, hb1⟩
  have hk := bcell hb1
  have z1 := szs (show w.heap.size < w1.heap.size by have := hb1.size; simp at this; omega)
  have hb2 : Below w.heap.size w w1 := ((Below.refl _ _).alloc (Nat.le_refl _) _).trans (hb1.mono (by simp))
  go_wp2_with fail
  refine bodyPost_ret (v := .tuple #[.agg #[.int .i64 0, .int .i64 0, .int .i64 0], .bool false]) (by simp [results, Try.results143, go_sem, hk, z1]) rfl ⟨rfl, ?_⟩
  (have hszz := (hb2).size; (repeat' (first | (with_reducible exact Below.refl _ _) | (with_reducible assumption) | (with_reducible refine Below.drew ?_) | (with_reducible refine below_drewN ?_ _) | (with_reducible refine Below.alloc ?_ ?_ _) | (with_reducible refine Below.setCell ?_ ?_ _) | go_size)))
/-- What is pushed comes last. -/
theorem push_q (d : D) (w : World) (base q : Nat) (ow : Option Nat) (l : List T) (N : Int) (x : T) (h : Q w base q ow d l N) (hN : N < 1000000) (hb : base ≤ w.heap.size) :
    Calls Try.prog 142 #[.pointer (some ⟨q, 0, none⟩), vv x] w fun e w' => e = .returned (.tuple #[]) ∧ ∃ ow', Q w' base q ow' d (l ++ [x]) (N + 1) ∧ Off (FP q ow) w w' ∧ ∀ g, ow' = some g → ow = some g ∨ w.heap.size ≤ g := by
  have hlen := h.len
  have h0 := h.nonneg
  obtain ⟨v, G, A, h1, h2, h3, h4, h5, h6, h7, h8, h9, h10, h11⟩ := h
  subst h8
  refine (push d w base q l.length v N G x h1 h2 h3 h9 hb (by omega) ⟨h0, hN⟩).mono ?_
  rintro e w' ⟨rfl, v', G', a1, a2, a3, a4, a5, a6, a7⟩
  refine ⟨rfl, v'.ownBlock, ⟨v', G', A ++ [(x, N)], a1, ?_, ?_, ?_, asc_push h5 (fun y hy => (h6 y hy).2) x, ?_, ?_, rfl, a5, h10, by omega⟩, a6, a7⟩
  · rw [List.length_append]; exact a2
  · rw [List.length_append]; exact a3
  · rw [List.length_append]; exact a4.trans (h4.append_right _)
  · intro y hy
    rcases List.mem_append.1 hy with hy | hy
    · have := h6 y hy; omega
    · simp at hy; subst hy; exact ⟨h0, by omega⟩
  · rw [List.map_append, h7]; rfl
theorem push_nil (w : World) (x : T) : Calls Try.prog 142 #[.pointer none, vv x] w fun e w' => e = .returned (.tuple #[]) ∧ Below w.heap.size w w' := by
  obtain ⟨xk, xt, xu⟩ := x
  unfold vv
  go_enter Try.func142, Try.ntmps142
  go_wp2_with fail
  go_returns
  exact ⟨rfl, by (repeat' (first | (with_reducible exact Below.refl _ _) | (with_reducible assumption) | (with_reducible refine Below.drew ?_) | (with_reducible refine below_drewN ?_ _) | (with_reducible refine Below.alloc ?_ ?_ _) | (with_reducible refine Below.setCell ?_ ?_ _) | go_size))⟩
end QT
end Go.Proofs.Ytlnfhlmgnppcbaa
