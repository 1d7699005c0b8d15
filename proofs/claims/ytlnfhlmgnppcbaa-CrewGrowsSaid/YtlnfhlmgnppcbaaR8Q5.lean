/- Queues as lists in the order of the pushes: New, Len, Peek, Pop, Push. Condition: fewer than a million pushes. -/
import Derived.Test.YtlnfhlmgnppcbaaR8Q3
import Derived.Test.YtlnfhlmgnppcbaaR8Q4
import Derived.Laws.EntriesVeiled
import Derived.WalkSpells
namespace Go.Proofs.Ytlnfhlmgnppcbaa
open Go.RowKit
namespace QT
set_option linter.unusedVariables false
set_option linter.unusedSimpArgs false
set_option maxRecDepth 8000
/-- The blocks of a queue. -/
def FP (q : Nat) (ow : Option Nat) : Nat → Prop := fun b => b = q ∨ some b = ow
/-- The pointer leads to a queue of this order, which holds these values, pushed in this order; N pushes so far. -/
def Q (w : World) (base q : Nat) (ow : Option Nat) (d : D) (l : List T) (N : Int) : Prop :=
  ∃ (v : Value) (G : Nat → T × Int) (A : List (T × Int)), QB w q d v N ∧ RowE w base v l.length G ∧ Heap (befE (lt d)) G l.length ∧ (ents G l.length).Perm A ∧ Asc A ∧ (∀ x ∈ A, 0 ≤ x.2 ∧ x.2 < N) ∧ A.map (·.1) = l ∧ v.ownBlock = ow ∧ ow ≠ some q ∧ base ≤ q ∧ 0 ≤ N
theorem Q.len {w : World} {base q : Nat} {ow : Option Nat} {d : D} {l : List T} {N : Int} (h : Q w base q ow d l N) : (l.length : Int) ≤ N := by
  obtain ⟨v, G, A, _, _, _, hp, ha, hN, rfl, _, _, _, h0⟩ := h
  have := asc_len ha hN
  simp; omega
theorem Q.nonneg {w : World} {base q : Nat} {ow : Option Nat} {d : D} {l : List T} {N : Int} (h : Q w base q ow d l N) : 0 ≤ N := by
  obtain ⟨v, G, A, _, _, _, _, _, _, _, _, _, _, h0⟩ := h; exact h0
theorem Q.off {X : Nat → Prop} {w w' : World} {base q : Nat} {ow : Option Nat} {d : D} {l : List T} {N : Int} (h : Q w base q ow d l N) (ho : Off X w w') (hX : ∀ b, FP q ow b → ¬ X b) : Q w' base q ow d l N := by
  obtain ⟨v, G, A, h1, h2, h3, h4, h5, h6, h7, h8, h9⟩ := h
  exact ⟨v, G, A, h1.off ho (hX q (.inl rfl)), Row.off h2 ho (fun g hg => hX g (.inr (by rw [← h8]; exact hg.symm))), h3, h4, h5, h6, h7, h8, h9⟩
theorem Q.below {w w' : World} {base q : Nat} {ow : Option Nat} {d : D} {l : List T} {N : Int} (h : Q w base q ow d l N) (hb : Below w.heap.size w w') : Q w' base q ow d l N :=
  h.off (X := fun _ => False) (Off.of_below hb) (fun _ _ h => h)
theorem Q.within {w : World} {base q : Nat} {ow : Option Nat} {d : D} {l : List T} {N : Int} (h : Q w base q ow d l N) : ∀ b, FP q ow b → base ≤ b ∧ b < w.heap.size := by
  obtain ⟨v, G, A, h1, h2, _, _, _, _, _, rfl, _, hq, _⟩ := h
  intro b hb
  rcases hb with rfl | hb
  · exact ⟨hq, block_lt h1⟩
  · exact World.ownsRow.lt h2 b hb.symm
/-- The queue's own block, for the walk. -/
theorem Q.block {w : World} {base q : Nat} {ow : Option Nat} {d : D} {l : List T} {N : Int} (h : Q w base q ow d l N) : ∃ a cap, w.cell? ⟨q, 1, none⟩ = some (.slice a l.length cap) ∧ w.cell? ⟨q, 0, none⟩ = some (F d) ∧ q < w.heap.size := by
  obtain ⟨v, G, A, h1, h2, _⟩ := h
  rcases h2.shape with ⟨rfl, h0⟩ | ⟨g, cap, rfl, _⟩
  · rw [h0]; exact ⟨none, 0, cell_at h1 1, cell_at h1 0, block_lt h1⟩
  · exact ⟨_, cap, cell_at h1 1, cell_at h1 0, block_lt h1⟩

theorem new (d : D) (w : World) (base : Nat) (hb : base ≤ w.heap.size) :
    Calls Try.prog 139 #[F d] w fun e w' => e = .returned (.pointer (some ⟨w.heap.size, 0, none⟩)) ∧ Q w' base w.heap.size none d [] 0 ∧ Below w.heap.size w w' := by
  have fin : ∀ w', w.alloc (.cells #[F d, .slice none 0 0, .int .i64 0] 216) = w' → Q w' base w.heap.size none d [] 0 ∧ Below w.heap.size w w' := by
    rintro w' rfl
    refine ⟨⟨.slice none 0 0, fun _ => default, [], heap_alloc_new w _, World.ownsRow_nil _ _ _ _, fun i _ h => absurd h (by simp), by simp [ents], List.Pairwise.nil, by simp, rfl, rfl, by simp, hb, by omega⟩, (Below.refl _ _).alloc (Nat.le_refl _) _⟩
  have HF := Lib.hid fin
  clear fin
  have hnf : ∀ w, Sem.run Try.prog (binOp .eql 210 (F d) .nilFunc) w = .ok (.bool false) w := fun w => by cases d <;> kernel_rfl
  cases d
  all_goals
    simp only [F, fn, if_true, if_false, Bool.false_eq_true] at *
    go_enter Try.func139, Try.ntmps139
    go_wp2
    go_returns
    exact ⟨rfl, HF.out _ rfl⟩

theorem len (d : D) (w : World) (base q : Nat) (ow : Option Nat) (l : List T) (N : Int) (h : Q w base q ow d l N) :
    Calls Try.prog 148 #[.pointer (some ⟨q, 0, none⟩)] w fun e w' => e = .returned (.int .i64 l.length) ∧ w = w' := by
  obtain ⟨a, cap, h1, _, h3⟩ := h.block
  clear h
  go_enter Try.func148, Try.ntmps148
  go_wp2
  go_returns
  exact ⟨rfl, rfl⟩
theorem len_nil (w : World) : Calls Try.prog 148 #[.pointer none] w fun e w' => e = .returned (.int .i64 0) ∧ w = w' := by
  go_enter Try.func148, Try.ntmps148
  go_wp2
  go_returns
  exact ⟨rfl, rfl⟩

/-- The first value, for the walk. -/
theorem Q.first {w : World} {base q : Nat} {ow : Option Nat} {d : D} {l : List T} {N : Int} (h : Q w base q ow d l N) (hl : l ≠ []) :
    ∃ g cap n, l.length = n + 1 ∧ n + 1 ≤ cap ∧ w.cell? ⟨q, 1, none⟩ = some (.slice (some ⟨g, 0, none⟩) (n + 1) cap) ∧ (∀ j, j < 4 → w.cell? ⟨g, j, none⟩ = (ec (l.getD (minIx (lt d) l) default, 0))[j]? ∨ j = 4 - 1) := by
  obtain ⟨v, G, A, h1, h2, h3, h4, h5, h6, rfl, h8, h9, _⟩ := h
  have h0 : 0 < (A.map (·.1)).length := List.length_pos_iff.2 hl
  obtain ⟨n, hn⟩ : ∃ n, (A.map (·.1)).length = n + 1 := ⟨_, (Nat.succ_pred_eq_of_pos h0).symm⟩
  rcases h2.shape with ⟨_, hz⟩ | ⟨g, cap, rfl, _, _, hc, _⟩
  · omega
  · have hp := pop_spec (lt_ord d) h4 h5 h3 h0
    rw [hn] at h2 hc
    refine ⟨g, cap, n, hn, hc, by rw [← hn]; exact cell_at h1 1, fun j hj => ?_⟩
    have hcell := RowE.at h2 (i := 0) (by omega) j hj
    rw [Nat.zero_mul, Nat.zero_add] at hcell
    have e : (A.map (·.1)).getD (minIx (lt d) (A.map (·.1))) default = (G 0).1 := getD_of_some (by rw [List.getElem?_map, hp]; rfl)
    rw [hcell, e]
    by_cases hj2 : j = 4 - 1
    · exact .inr hj2
    · left
      obtain rfl | rfl | rfl : j = 0 ∨ j = 1 ∨ j = 2 := by omega
      · rfl
      · rfl
      · rfl

set_option maxHeartbeats 400000 in
theorem peek_some (d : D) (w : World) (base q : Nat) (ow : Option Nat) (l : List T) (N : Int) (h : Q w base q ow d l N) (hl : l ≠ []) :
    Calls Try.prog 146 #[.pointer (some ⟨q, 0, none⟩)] w fun e w' => e = .returned (.tuple #[vv (l.getD (minIx (lt d) l) default), .bool true]) ∧ Below w.heap.size w w' := by
  obtain ⟨g, cap, n, hn, hc, q1, hcell⟩ := h.first hl
  have L := fun w' (hb : Below w.heap.size w w') => len d w' base q ow l N (h.below hb)
  rw [hn] at L
  have HL := Lib.hid L
  have HN := Lib.hid hn
  generalize l.getD (minIx (lt d) l) default = x at *
  obtain ⟨xk, xt, xu⟩ := x
  have h0 := (hcell 0 (by decide)).resolve_right (by decide); have h1 := (hcell 1 (by decide)).resolve_right (by decide); have h2 := (hcell 2 (by decide)).resolve_right (by decide); simp only [ec, Nat.add_zero, List.getElem?_cons_zero, List.getElem?_cons_succ] at h0 h1 h2
  have zq := szs (cell_lt q1)
  have zg := szs (cell_lt h0)
  dsimp only at zq zg
  clear L hn hcell h hl
  unfold vv
  have hne : ((n : Int) + 1 == 0) = false := by simp; omega
  go_enter Try.func146, Try.ntmps146
  go_wp2_with (go_at_call 148; refine (HL.out _ (by (repeat' (first | (with_reducible exact Below.refl _ _) | (with_reducible assumption) | (with_reducible refine Below.drew ?_) | (with_reducible refine below_drewN ?_ _) | (with_reducible refine Below.alloc ?_ ?_ _) | (with_reducible refine Below.setCell ?_ ?_ _) | go_size)))).mono ?_; rintro e w1 ⟨rfl, rfl⟩)
  refine bodyPost_ret (v := .tuple #[.agg #[.int .i64 xk, .int .i64 xt, .int .i64 xu], .bool true]) (by simp [results, Try.results146, go_sem]) rfl ⟨rfl, ?_⟩
  (repeat' (first | (with_reducible exact Below.refl _ _) | (with_reducible assumption) | (with_reducible refine Below.drew ?_) | (with_reducible refine below_drewN ?_ _) | (with_reducible refine Below.alloc ?_ ?_ _) | (with_reducible refine Below.setCell ?_ ?_ _) | go_size))
theorem peek_none (d : D) (w : World) (base q : Nat) (ow : Option Nat) (N : Int) (h : Q w base q ow d [] N) :
    Calls Try.prog 146 #[.pointer (some ⟨q, 0, none⟩)] w fun e w' => e = .returned (.tuple #[.agg #[.int .i64 0, .int .i64 0, .int .i64 0], .bool false]) ∧ Below w.heap.size w w' := by
  have L := fun w' (hb : Below w.heap.size w w') => len d w' base q ow [] N (h.below hb)
  have HL := Lib.hid L
  clear L h
  go_enter Try.func146, Try.ntmps146
  go_wp2_with (go_at_call 148; refine (HL.out _ (by (repeat' (first | (with_reducible exact Below.refl _ _) | (with_reducible assumption) | (with_reducible refine Below.drew ?_) | (with_reducible refine below_drewN ?_ _) | (with_reducible refine Below.alloc ?_ ?_ _) | (with_reducible refine Below.setCell ?_ ?_ _) | go_size)))).mono ?_; rintro e w1 ⟨rfl, rfl⟩)
  refine bodyPost_ret (v := .tuple #[.agg #[.int .i64 0, .int .i64 0, .int .i64 0], .bool false]) (by simp [results, Try.results146, go_sem]) rfl ⟨rfl, ?_⟩
  (repeat' (first | (with_reducible exact Below.refl _ _) | (with_reducible assumption) | (with_reducible refine Below.drew ?_) | (with_reducible refine below_drewN ?_ _) | (with_reducible refine Below.alloc ?_ ?_ _) | (with_reducible refine Below.setCell ?_ ?_ _) | go_size))
theorem peek_nil (w : World) :
    Calls Try.prog 146 #[.pointer none] w fun e w' => e = .returned (.tuple #[.agg #[.int .i64 0, .int .i64 0, .int .i64 0], .bool false]) ∧ Below w.heap.size w w' := by
  go_enter Try.func146, Try.ntmps146
  go_wp2_with (go_at_call 148; refine (len_nil _).mono ?_; rintro e w1 ⟨rfl, rfl⟩)
  refine bodyPost_ret (v := .tuple #[.agg #[.int .i64 0, .int .i64 0, .int .i64 0], .bool false]) (by simp [results, Try.results146, go_sem]) rfl ⟨rfl, ?_⟩
  (repeat' (first | (with_reducible exact Below.refl _ _) | (with_reducible assumption) | (with_reducible refine Below.drew ?_) | (with_reducible refine below_drewN ?_ _) | (with_reducible refine Below.alloc ?_ ?_ _) | (with_reducible refine Below.setCell ?_ ?_ _) | go_size))
end QT
end Go.Proofs.Ytlnfhlmgnppcbaa
