/- A queue filled with the items of some keys; two queues merged. Conditions: fewer than 100,000 pushes. -/
import Derived.Test.YtknmmgijhlpedaaR5
namespace Go.Proofs.Ytknmmgijhlpedaa
open Go.RowKit
namespace QI
set_option linter.unusedVariables false
set_option linter.unusedSimpArgs false
/-- The items with these keys, whose tags are numbered from first on. -/
def its (K : Nat → Int) (first : Int) (n : Nat) : List T := (List.range n).map fun i => ⟨K i, first + i⟩
theorem its_len (K : Nat → Int) (first : Int) (n : Nat) : (its K first n).length = n := by simp [its]
theorem its_succ (K : Nat → Int) (first : Int) (n : Nat) : its K first (n + 1) = its K first n ++ [⟨K n, first + n⟩] := by simp [its, List.range_succ]
def Keys (w : World) (ao : Option Addr) (n : Nat) (K : Nat → Int) : Prop := SlE w 1 ao n (fun i => [.int .i64 (K i)])
theorem Keys.cell {w : World} {ao : Option Addr} {n : Nat} {K : Nat → Int} (h : Keys w ao n K) {i : Nat} (hi : i < n) : ∃ g o, ao = some ⟨g, o, none⟩ ∧ w.cell? ⟨g, o + i, none⟩ = some (.int .i64 (K i)) := by
  obtain ⟨g, o, e, hc⟩ := h i hi
  exact ⟨g, o, e, by have := hc 0 (by decide); simpa using this⟩

set_option maxHeartbeats 1000000 in
theorem fill12 (d : D) (w : World) (base q : Nat) (ow : Option Nat) (l0 : List T) (N : Int) (ao : Option Addr) (n c : Nat) (K : Nat → Int) (first : Int) (h : Q w base q ow d l0 N) (hs : Keys w ao n K) (hX : 0 < n → ∀ a, ao = some a → ¬ FP q ow a.block)
    (hn : n ≤ c) (hc : c ≤ 9223372036854775807) (hn2 : n ≤ 1000) (hN : N ≤ 100000) (hf0 : 0 ≤ first) (hf1 : first ≤ 100000) (hb : base ≤ w.heap.size) :
    Calls Try.prog 12 #[.pointer (some ⟨q, 0, none⟩), .slice ao n c, .int .i64 first] w fun e w' => ∃ v ow', e = .returned v ∧ IL w' w.heap.size v (its K first n) ∧ Q w' base q ow' d (l0 ++ its K first n) (N + n) ∧ Off (FP q ow) w w' ∧
      (∀ g, ow' = some g → ow = some g ∨ w.heap.size ≤ g) ∧ ∀ g, v.ownBlock = some g → ow' ≠ some g := by
  have HF := Lib.hid h.within
  have H := Lib.hid h
  have HS := Lib.hid hs
  have HX := Lib.hid hX
  clear h hs hX
  go_enter Try.func12, Try.ntmps12
  go_wp2_with fail
  go_loopw [7, 8] (fun lv i wr => ∃ (k : Nat) (ow' : Option Nat), i = .int .i64 k ∧ k ≤ n ∧ Hid (IL wr w.heap.size lv (its K first k) ∧ Q wr base q ow' d (l0 ++ its K first k) (N + k) ∧ Off (FP q ow) w wr ∧ (∀ g, ow' = some g → ow = some g ∨ w.heap.size ≤ g) ∧ ∀ g, lv.ownBlock = some g → ow' ≠ some g)) (fun _ i _ => n - (intOf i).toNat)
  case atStart => exact ⟨0, ow, rfl, by omega, IL.nil _ _, by simpa [its] using H.out, Off.refl _ _, fun g hg => .inl hg, fun g hg => by simp [Value.ownBlock] at hg⟩
  case round =>
    obtain ⟨k, ow', rfl, hk, hrel⟩ := hrel
    clear H
    by_cases hlt : k < n
    · obtain ⟨g, o, rfl, kc⟩ := Keys.cell (w := wr) (K := K) (SlE.off (fun _ => rfl) HS.out hrel.out.2.2.1 (HX.out (by omega))) hlt
      have t1 : (k : Int) < (n : Int) := by omega
      have zg := szs (cell_lt kc)
      dsimp only at zg
      obtain ⟨kk, hkk⟩ : ∃ kk, kk = K k := ⟨_, rfl⟩
      rw [← hkk] at kc
      have HK := Lib.hid hkk
      have hbw : base ≤ wr.heap.size := by have := hrel.out.2.2.1.size; omega
      have P := push_q d (wr.alloc (.cells #[.int .i64 kk, .int .i64 (first + k)] 27)) base q ow' (l0 ++ its K first k) (N + k) ⟨kk, first + k⟩ (hrel.out.2.1.below ((Below.refl _ _).alloc (Nat.le_refl _) _)) (by omega) (by simp; omega)
      unfold vv at P
      dsimp only at P
      have HP := Lib.hid P
      clear hkk P
      go_wp2_with fail
      refine HP.out.mono ?_
      rintro e w1 ⟨rfl, ow2, q1, o1, f1⟩
      obtain ⟨h1, h2, h3, h4, h5⟩ := hrel.out
      have o1' : Off (FP q ow') wr w1 := (Off.of_below ((Below.refl wr.heap.size wr).alloc (Nat.le_refl _) _)).trans o1 (fun _ _ h => h)
      have hq' := h2.within
      have sz1 : wr.heap.size < w1.heap.size := by have := o1.size; simp at this; omega
      have b1 : w1.heap[wr.heap.size]? = some (.cells #[.int .i64 kk, .int .i64 (first + k)] 27) := (o1.block _ (by simp) (fun h => by have := (hq' _ h).2; omega)).trans (heap_alloc_new wr _)
      have l1 : IL w1 w.heap.size u7 (its K first k) := h1.off o1' (fun g hg hx => by
        rcases hx with rfl | hx
        · have := (h1.own _ hg).1; have := (HF.out _ (.inl rfl)).2; omega
        · exact h5 g hg hx.symm)
      have R := refpush w1 w.heap.size u7 (its K first k) ⟨kk, first + k⟩ l1 (by rw [its_len]; omega)
      unfold vv at R
      dsimp only at R
      have HR := Lib.hid R
      have Q1 := Lib.hid q1
      have F1 := Lib.hid f1
      have O1 := Lib.hid o1'
      have c0 : w1.cell? ⟨wr.heap.size, 0, none⟩ = some (.int .i64 kk) := cell_at b1 0
      have c1 : w1.cell? ⟨wr.heap.size, 1, none⟩ = some (.int .i64 (first + k)) := cell_at b1 1
      clear R q1 o1 f1 h1 h2 h3 h4 h5 o1' hq' b1 l1
      go_wp2_with fail
      refine HR.out.mono ?_
      rintro e w2 ⟨v2, rfl, l2, b2⟩
      have L2 := Lib.hid l2
      have B2 := Lib.hid b2
      clear l2 b2
      go_wp2_with fail
      go_roundw
      case rel =>
        obtain ⟨h1, h2, h3, h4, h5⟩ := hrel.out
        have hsz := h3.size
        refine ⟨k + 1, ow2, by go_num, by omega, ?_, ?_, (h3.trans O1.out (fun b hb hx => ?_)).trans (Off.of_below (X := fun _ => False) B2.out) (fun _ _ h => h.elim), fun g hg => ?_, fun g hg e => ?_⟩
        · rw [its_succ, ← HK.out]; exact L2.out.base_mono (by omega)
        · rw [its_succ, ← HK.out, ← List.append_assoc]
          have := Q1.out.below B2.out
          rw [show N + ((k + 1 : Nat) : Int) = N + (k : Int) + 1 by omega]
          exact this
        · rcases hx with rfl | hx
          · exact .inl rfl
          · rcases h4 b hx.symm with h | h
            · exact .inr h.symm
            · omega
        · rcases F1.out g hg with h | h
          · exact h4 g h
          · right; simp at h; omega
        · have a1 := (L2.out.own g hg).1
          have a2 := (Q1.out.within g (.inr e.symm)).2
          omega
      case measure => simp [intOf]; omega
    · obtain rfl : k = n := by omega
      go_wp2_with fail
      go_returns
      obtain ⟨h1, h2, h3, h4, h5⟩ := hrel.out
      exact ⟨_, ow', rfl, h1, h2, h3, h4, h5⟩
end QI
end Go.Proofs.Ytknmmgijhlpedaa
