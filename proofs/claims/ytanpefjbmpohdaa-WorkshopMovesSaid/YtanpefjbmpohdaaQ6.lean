/- Pop of a queue. Condition: at most a million pushes. -/
import Derived.Test.YtanpefjbmpohdaaQ5
import Derived.Laws.CopyRow
namespace Go.Proofs.Ytanpefjbmpohdaa
open Go.RowKit
namespace QJ
set_option linter.unusedVariables false
set_option linter.unusedSimpArgs false
theorem clear_last {w : World} {base g n cap : Nat} {G : Nat → T × Int} (hr : RowE w base (.slice (some ⟨g, 0, none⟩) (n + 1) cap) (n + 1) G) :
    ∃ w', (∀ ty, (Builtin.clear_ #[58] ty #[.slice (some ⟨g, n * 2, none⟩) 1 (cap - n)]).run Try.prog w = .ok (.tuple #[]) w') ∧ RowE w' base (.slice (some ⟨g, 0, none⟩) n cap) n G ∧ Off (fun b => b = g) w w' := by
  rcases hr.2 with ⟨h, _⟩ | ⟨g', cap', cur, he, hb, hg, hn, hc, hsz, ht⟩
  · cases h
  · cases he
    have hfit : n * 2 + 0 + ([.int .i64 0, .int .i64 0] : List Value).length ≤ cur.size := by
      have : (n + 1) * 2 ≤ cap * 2 := Nat.mul_le_mul_right 2 hn
      rw [hsz, Nat.succ_mul] at *; simp; omega
    have hrun := run_storeCells_at Try.prog g (n * 2) 62 ([.int .i64 0, .int .i64 0] : List Value) 0 cur w hg hfit (by intro v hv; simp at hv; rcases hv with rfl | rfl <;> rfl)
    obtain ⟨i0, hi, hz0, hz1, hz2⟩ := info_parts infoE
    refine ⟨w.setRow g (cur.toList.take (n * 2 + 0) ++ ([.int .i64 0, .int .i64 0] : List Value) ++ cur.toList.drop (n * 2 + 0 + ([.int .i64 0, .int .i64 0] : List Value).length)).toArray, fun ty => ?_, ?_, ?_⟩
    · have hz : (zeroValue 62).run Try.prog w = .ok (.agg #[.int .i64 0, .int .i64 0]) w := by kernel_rfl
      have hzc : Builtin.zeroCells (Value.agg #[.int .i64 0, .int .i64 0]).cells 1 = #[.int .i64 0, .int .i64 0] := by kernel_rfl
      have hu := run_underlying (P := Try.prog) (w := w) Try.underlying58
      simp [Builtin.clear_, hu, hz, Result.andThen, hzc, hrun]
    · refine ⟨flat_len (fun i => ec_len (G i)) n, .inr ⟨g, cap, _, rfl, hb, setRow_heap _ _ _ _ _ _ hg, by omega, hc, ?_, ?_⟩⟩
      · simp at hfit ⊢; omega
      · simp only [Nat.add_zero]
        rw [List.append_assoc]
        rw [List.take_append_of_le_length (by simp at hfit ⊢; omega), List.take_take, Nat.min_self]
        have := congrArg (List.take (n * 2)) ht
        rw [List.take_take, Nat.min_eq_left (Nat.mul_le_mul_right 2 (by omega)), flat_take (fun i => ec_len (G i)) (by omega)] at this
        exact this
    · exact ⟨rfl, rfl, rfl, by simp, fun k _ hx => setRow_other _ _ _ _ hx⟩
set_option maxHeartbeats 1000000 in
theorem pop_some (d : D) (w : World) (base q : Nat) (ow : Option Nat) (l : List T) (N : Int) (h : Q w base q ow d l N) (hl : l ≠ []) (hN : N ≤ 1000000) (hg : Good d w) (hgb : gb d ≤ base) :
    Calls Try.prog 27 #[.pointer (some ⟨q, 0, none⟩)] w fun e w' => e = .returned (.tuple #[vv (l.getD (minIx (lt d) l) default), .bool true]) ∧ Q w' base q ow d (l.eraseIdx (minIx (lt d) l)) N ∧ Off (FP q ow) w w' := by
  have hw := h.within
  have P := peek_some d w base q ow l N h hl
  have hlen := h.len
  obtain ⟨v, G, A, h1, h2, h3, h4, h5, h6, h7, h8, h9, h10, h11, h12⟩ := h
  obtain ⟨n, hn⟩ : ∃ n, l.length = n + 1 := ⟨l.length - 1, by have := List.length_pos_iff.2 hl; omega⟩
  have hp0 := pop_spec (lt_ord d) h4 h5 h3 (by omega)
  rw [h7] at hp0
  have hil : minIx (lt d) l < l.length := minIx_lt hl
  rw [hn] at h2 h3 h4 hil
  rcases h2.shape with ⟨_, hz⟩ | ⟨g, cap, rfl, hbg, hgl, hcap, hcm⟩
  · omega
  have hgo : ow = some g := by rw [← h8]; rfl
  have hqg : q ≠ g := fun e => h9 (by rw [hgo, e])
  have hql := block_lt h1
  have HDG := Lib.hid (fun i (hi : i < n + 1) => h12 (G i).1 (by rw [← h7]; exact List.mem_map_of_mem (h4.subset (mem_ents.2 ⟨i, hi, rfl⟩))))
  have HGd := Lib.hid (fun wr (ho : Off (fun b => b = g) w wr) => hg.off ho (fun b hb h => by omega))
  have zq := szs hql
  have zg := szs hgl
  have hcm2 : cap ≤ 9223372036854775807 := by unfold maxLen at hcm; omega
  have H1 := Lib.hid h1
  have H2 := Lib.hid h2
  have HP := Lib.hid P
  have HHp := Lib.hid h3
  have HPm := Lib.hid h4
  have HP0 := Lib.hid hp0
  have HA := Lib.hid (And.intro h5 (And.intro h6 (And.intro h7 (And.intro h8 (And.intro h9 (And.intro h10 (And.intro h11 h12)))))))
  have HGO := Lib.hid hgo
  have HN := Lib.hid hn
  clear P h1 h2 h3 h4 hp0 h5 h6 h7 h8 h9 h10 h11 h12 hgo hw hn hg
  generalize hx : l.getD (minIx (lt d) l) default = x at *
  have HX := Lib.hid hx
  clear hx
  unfold vv at *
  have q1 : w.cell? ⟨q, 1, none⟩ = some (.slice (some ⟨g, 0, none⟩) (n + 1) cap) := cell_at H1.out 1
  go_enter Try.func27, Try.ntmps27
  go_wp2_with fail
  refine HP.out.mono ?_
  rintro e w1 ⟨rfl, rfl⟩
  go_wp2_with fail
  have S := swap d w base q g (n + 1) cap N G 0 n H1.out H2.out (by omega) (by omega) hcap hcm2 hqg
  rw [show (((0 : Nat) : Int)) = 0 from rfl] at S
  refine S.mono ?_
  rintro e w3 ⟨rfl, hr3, ho3⟩
  obtain ⟨w4, hcl, hr4, ho4⟩ := clear_last hr3
  have ho34 := ho3.same ho4
  have q3 : w3.cell? ⟨q, 1, none⟩ = some (.slice (some ⟨g, 0, none⟩) (n + 1) cap) := cell_at (H1.out.off ho3 hqg) 1
  have zq3 := szs (show q < w3.heap.size by have := ho3.size; omega)
  have zq4 := szs (show q < w4.heap.size by have := ho34.size; omega)
  have qb4 := H1.out.off ho34 hqg
  have q4 : w4.cell? ⟨q, 1, none⟩ = some (.slice (some ⟨g, 0, none⟩) (n + 1) cap) := cell_at qb4 1
  have f4 : w4.frozen? ⟨q, 1, none⟩ = false := free_at qb4 1
  have QB5 := Lib.hid (QB.set1 (v' := .slice (some ⟨g, 0, none⟩) n cap) qb4)
  have o5 : Off (fun b => b = q) w4 (w4.setCell ⟨q, 1, none⟩ (.slice (some ⟨g, 0, none⟩) n cap)) := (Off.refl (fun b => b = q) w4).setCell (fun _ => rfl) _
  have R5 := Lib.hid (show RowE (w4.setCell ⟨q, 1, none⟩ (.slice (some ⟨g, 0, none⟩) n cap)) base (.slice (some ⟨g, 0, none⟩) n cap) n (swp G 0 n) from Row.off hr4 o5 (fun g' hg' h => by cases hg'; exact hqg h.symm))
  have O5 := Lib.hid (show Off (fun b => b = q ∨ b = g) w (w4.setCell ⟨q, 1, none⟩ (.slice (some ⟨g, 0, none⟩) n cap)) from (ho34.mono (fun _ _ h => .inr h)).trans o5 (fun _ _ h => .inl h))
  have G5 := Lib.hid ((HGd.out _ ho34).off o5 (fun b hb h => by have := HA.out.2.2.2.2.2.1; omega))
  have D5 : Hid (∀ i, i < n → dom d (swp G 0 n i).1) := Lib.hid fun i hi => dom_of' (G' := swp G 0 n) HDG.out (swp_perm (by omega) (by omega)) (by omega)
  clear S hr3 ho3 hr4 ho4 ho34 qb4 o5 q1
  go_wp2_with fail
  refine (sink d _ base q g n cap N (swp G 0 n) QB5.out R5.out (down_start HHp.out) (by omega) hcm2 hqg (by have := HN.out; omega) G5.out hgb D5.out).mono ?_
  rintro e w6 ⟨rfl, G', hr6, hh6, hp6, ho6⟩
  have O6 : Off (fun b => b = q ∨ b = g) w w6 := O5.out.trans ho6 (fun _ _ h => .inr h)
  have OE := Lib.hid (O6.mono (Y := FP q ow) (fun b _ h => h.imp id (fun e => by rw [HGO.out, e])))
  have HP6 := hp6.trans (pop_rest HPm.out HP0.out (swp_perm (by omega) (by omega)) (swp_right _ _ _))
  have HQ7 := Lib.hid (show Q w6 base q ow d (l.eraseIdx (minIx (lt d) l)) N from by
    obtain ⟨h5, h6, h7, h8, h9, h10, h11, h12⟩ := HA.out
    have hlen' : (l.eraseIdx (minIx (lt d) l)).length = n := by rw [List.length_eraseIdx_of_lt (by have := HN.out; omega), HN.out]; rfl
    refine ⟨_, G', A.eraseIdx (minIx (lt d) l), QB5.out.off ho6 hqg, ?_, ?_, ?_, asc_erase h5 _, fun x hx => h6 x (List.mem_of_mem_eraseIdx hx), ?_, h8, h9, h10, h11, fun x hx => h12 x (List.mem_of_mem_eraseIdx hx)⟩
    · rw [hlen']; exact hr6
    · rw [hlen']; exact hh6
    · rw [hlen']; exact HP6
    · rw [List.eraseIdx_eq_take_drop_succ, List.map_append, List.map_take, List.map_drop, h7, ← List.eraseIdx_eq_take_drop_succ])
  clear hr6 hh6 hp6 ho6 O6 hcl q3 q4 f4 HP6
  go_wp2_with fail
  go_returns
  exact ⟨rfl, HQ7.out, OE.out⟩
theorem pop_none (d : D) (w : World) (base q : Nat) (ow : Option Nat) (N : Int) (h : Q w base q ow d [] N) :
    Calls Try.prog 27 #[.pointer (some ⟨q, 0, none⟩)] w fun e w' => e = .returned (.tuple #[.int .i64 0, .bool false]) ∧ w = w' := by
  have HP := Lib.hid (peek_none d w base q ow N h)
  clear h
  go_enter Try.func27, Try.ntmps27
  go_wp2_with fail
  refine HP.out.mono ?_
  rintro e w1 ⟨rfl, rfl⟩
  go_wp2_with fail
  go_returns
  exact ⟨rfl, rfl⟩
/-- What is pushed comes last. -/
theorem push_q (d : D) (w : World) (base q : Nat) (ow : Option Nat) (l : List T) (N : Int) (x : T) (h : Q w base q ow d l N) (hN : N < 1000000) (hb : base ≤ w.heap.size) (hg : Good d w) (hgb : gb d ≤ base) (hdx : dom d x) :
    Calls Try.prog 26 #[.pointer (some ⟨q, 0, none⟩), vv x] w fun e w' => e = .returned (.tuple #[]) ∧ ∃ ow', Q w' base q ow' d (l ++ [x]) (N + 1) ∧ Off (FP q ow) w w' ∧ ∀ g, ow' = some g → ow = some g ∨ w.heap.size ≤ g := by
  have hlen := h.len
  have h0 := h.nonneg
  obtain ⟨v, G, A, h1, h2, h3, h4, h5, h6, h7, h8, h9, h10, h11, h12⟩ := h
  subst h8
  refine (push d w base q l.length v N G x h1 h2 h3 h9 hb (by omega) ⟨h0, hN⟩ hg hgb h10 (fun i hi => h12 (G i).1 (by rw [← h7]; exact List.mem_map_of_mem (h4.subset (mem_ents.2 ⟨i, hi, rfl⟩)))) hdx).mono ?_
  rintro e w' ⟨rfl, v', G', a1, a2, a3, a4, a5, a6, a7⟩
  refine ⟨rfl, v'.ownBlock, ⟨v', G', A ++ [(x, N)], a1, ?_, ?_, ?_, asc_push h5 (fun y hy => (h6 y hy).2) x, ?_, ?_, rfl, a5, h10, by omega, fun y hy => by rcases List.mem_append.1 hy with hy | hy; exact h12 y hy; (simp at hy; rw [hy]; exact hdx)⟩, a6, a7⟩
  · rw [List.length_append]; exact a2
  · rw [List.length_append]; exact a3
  · rw [List.length_append]; exact a4.trans (h4.append_right _)
  · intro y hy
    rcases List.mem_append.1 hy with hy | hy
    · have := h6 y hy; omega
    · simp at hy; subst hy; exact ⟨h0, by omega⟩
  · rw [List.map_append, h7]; rfl
end QJ
end Go.Proofs.Ytanpefjbmpohdaa
