/- The network of the examples, and what is known of it. -/
import Derived.Test.YtbmlnjdfnjjjhaaZ2
import Derived.Test.YtbmlnjdfnjjjhaaY1
namespace Go.Proofs.Ytbmlnjdfnjjjhaa
open Go.RowKit
set_option linter.unusedVariables false
set_option linter.unusedSimpArgs false
open Rd
def sqE : Nat → Ed
  | 0 => ⟨0, 1, 5⟩
  | 1 => ⟨1, 2, 5⟩
  | 2 => ⟨0, 2, 10⟩
  | 3 => ⟨0, 1, 5⟩
  | _ => ⟨0, 0, 0⟩
theorem sq_right : Right 4 4 sqE := by
  refine ⟨by omega, by omega, by omega, fun i hi => ?_, fun i hi => ?_, fun i hi => ?_⟩ <;> (rcases (by omega : i = 0 ∨ i = 1 ∨ i = 2 ∨ i = 3) with rfl | rfl | rfl | rfl <;> decide)
theorem sq_ok : roadE 4 4 sqE = 0 := by decide
abbrev gF : Gr := gr Ed.frm Ed.til 4 4 sqE
abbrev gB : Gr := gr Ed.til Ed.frm 4 4 sqE
theorem sq_f0 {v s k : Int} (h : Rc gF 0 v s k) : (v = 0 ∧ leL 0 0 s k) ∨ (v = 1 ∧ leL 5 1 s k) ∨ (v = 2 ∧ leL 10 1 s k) := by
  induction h with
  | nil => left; exact ⟨rfl, leL.refl _ _⟩
  | @snoc s k i h hi ih =>
    have hi : i < 4 := hi
    have hn := h.nonneg sq_right.fwd
    rcases (by omega : i = 0 ∨ i = 1 ∨ i = 2 ∨ i = 3) with rfl | rfl | rfl | rfl
    · simp [gF, gr, sqE, leL] at *; omega
    · simp [gF, gr, sqE, leL] at *; omega
    · simp [gF, gr, sqE, leL] at *; omega
    · simp [gF, gr, sqE, leL] at *; omega
theorem sq_f2 {v s k : Int} (h : Rc gF 2 v s k) : v = 2 ∧ leL 0 0 s k := by
  induction h with
  | nil => exact ⟨rfl, leL.refl _ _⟩
  | @snoc s k i h hi ih =>
    have hi : i < 4 := hi
    rcases (by omega : i = 0 ∨ i = 1 ∨ i = 2 ∨ i = 3) with rfl | rfl | rfl | rfl
    all_goals (simp [gF, gr, sqE] at ih)
theorem sq_b2 {v s k : Int} (h : Rc gB 2 v s k) : (v = 2 ∧ leL 0 0 s k) ∨ (v = 1 ∧ leL 5 1 s k) ∨ (v = 0 ∧ leL 10 1 s k) := by
  induction h with
  | nil => left; exact ⟨rfl, leL.refl _ _⟩
  | @snoc s k i h hi ih =>
    have hi : i < 4 := hi
    have hn := h.nonneg sq_right.bwd
    rcases (by omega : i = 0 ∨ i = 1 ∨ i = 2 ∨ i = 3) with rfl | rfl | rfl | rfl
    · simp [gB, gr, sqE, leL] at *; omega
    · simp [gB, gr, sqE, leL] at *; omega
    · simp [gB, gr, sqE, leL] at *; omega
    · simp [gB, gr, sqE, leL] at *; omega
theorem sq_b1 {v s k : Int} (h : Rc gB 1 v s k) : (v = 1 ∧ leL 0 0 s k) ∨ (v = 0 ∧ leL 5 1 s k) := by
  induction h with
  | nil => left; exact ⟨rfl, leL.refl _ _⟩
  | @snoc s k i h hi ih =>
    have hi : i < 4 := hi
    have hn := h.nonneg sq_right.bwd
    rcases (by omega : i = 0 ∨ i = 1 ∨ i = 2 ∨ i = 3) with rfl | rfl | rfl | rfl
    · simp [gB, gr, sqE, leL] at *; omega
    · simp [gB, gr, sqE, leL] at *
    · simp [gB, gr, sqE, leL] at *
    · simp [gB, gr, sqE, leL] at *; omega
theorem sq_b3 {v s k : Int} (h : Rc gB 3 v s k) : v = 3 := by
  induction h with
  | nil => rfl
  | @snoc s k i h hi ih =>
    have hi : i < 4 := hi
    rcases (by omega : i = 0 ∨ i = 1 ∨ i = 2 ∨ i = 3) with rfl | rfl | rfl | rfl
    all_goals (simp [gB, gr, sqE] at ih)
theorem sq_t0 : Best gF 0 0 0 0 := Best.home sq_right.fwd
theorem sq_t1 : Best gF 0 1 5 1 := ⟨Rc.snoc (g := gF) 0 .nil (by decide), fun s k h => by rcases sq_f0 h with h | h | h; (have := h.1; omega); exact h.2; (have := h.1; omega)⟩
theorem sq_t2 : Best gF 0 2 10 1 := ⟨Rc.snoc (g := gF) 2 .nil (by decide), fun s k h => by rcases sq_f0 h with h | h | h; (have := h.1; omega); (have := h.1; omega); exact h.2⟩
theorem sq_t3 : ¬ Rd.Can gF 0 3 := fun ⟨s, k, h⟩ => by rcases sq_f0 h.1 with h | h | h <;> (have := h.1; omega)
theorem sq_22 : Best gF 2 2 0 0 := Best.home sq_right.fwd
theorem sq_20 : ¬ Rd.Can gF 2 0 := fun ⟨s, k, h⟩ => by have := (sq_f2 h.1).1; omega
theorem sq_times (i : Nat) (hi : i < 4) : sec gF 0 i = [0, 5, 10, -1].getD i 0 := by
  rcases (by omega : i = 0 ∨ i = 1 ∨ i = 2 ∨ i = 3) with rfl | rfl | rfl | rfl
  · exact sq_t0.sec.1
  · exact sq_t1.sec.1
  · exact sq_t2.sec.1
  · exact (not_can sq_t3).1
theorem sq_w2 : Best gB 2 0 10 1 := ⟨Rc.snoc (g := gB) 2 .nil (by decide), fun s k h => by rcases sq_b2 h with h | h | h; (have := h.1; omega); (have := h.1; omega); exact h.2⟩
theorem sq_w1 : Best gB 1 0 5 1 := ⟨Rc.snoc (g := gB) 0 .nil (by decide), fun s k h => by rcases sq_b1 h with h | h; (have := h.1; omega); exact h.2⟩
theorem sq_w3 : ¬ Rd.Can gB 3 0 := fun ⟨s, k, h⟩ => by have := sq_b3 h.1; omega
theorem sq_v2 : Best gB 2 1 5 1 := ⟨Rc.snoc (g := gB) 1 .nil (by decide), fun s k h => by rcases sq_b2 h with h | h | h; (have := h.1; omega); exact h.2; (have := h.1; omega)⟩
theorem sq_way2 : wayL 4 4 sqE 2 1 0 = [2] := by
  have e : first (fit 4 4 sqE 2 0) 4 = 2 := by
    refine first_eq (fun j hj => ?_) ?_ (by omega)
    · cases h : fit 4 4 sqE 2 0 j
      · rfl
      · have h2 := fit_iff.1 h
        rcases (by omega : j = 0 ∨ j = 1) with rfl | rfl
        · have h3 := h2.2.2.2
          change edg gB 2 0 = edg gB 2 1 + 1 at h3
          rw [sq_w2.sec.2, sq_v2.sec.2] at h3; omega
        · have := h2.1; simp [sqE] at this
    · refine fit_iff.2 ⟨rfl, ⟨0, 0, Best.home sq_right.bwd⟩, ?_, ?_⟩
      · show sec gB 2 0 = sec gB 2 2 + 10
        rw [sq_w2.sec.1, (Best.home (src := 2) sq_right.bwd).sec.1]; rfl
      · show edg gB 2 0 = edg gB 2 2 + 1
        rw [sq_w2.sec.2, (Best.home (src := 2) sq_right.bwd).sec.2]; rfl
  show [(first (fit 4 4 sqE 2 0) 4 : Int)] = [2]
  rw [e]; rfl
theorem sq_way1 : wayL 4 4 sqE 1 1 0 = [0] := by
  have e : first (fit 4 4 sqE 1 0) 4 = 0 := by
    refine first_eq (fun j hj => by omega) ?_ (by omega)
    refine fit_iff.2 ⟨rfl, ⟨0, 0, Best.home sq_right.bwd⟩, ?_, ?_⟩
    · show sec gB 1 0 = sec gB 1 1 + 5
      rw [sq_w1.sec.1, (Best.home (src := 1) sq_right.bwd).sec.1]; rfl
    · show edg gB 1 0 = edg gB 1 1 + 1
      rw [sq_w1.sec.2, (Best.home (src := 1) sq_right.bwd).sec.2]; rfl
  show [(first (fit 4 4 sqE 1 0) 4 : Int)] = [0]
  rw [e]; rfl
theorem square23 (w : World) : Calls Try.prog 23 #[] w fun e w' => ∃ b, e = .returned (.agg #[.int .i64 4, .slice (some ⟨b, 0, none⟩) 4 4]) ∧ Net w' (some ⟨b, 0, none⟩) 4 4 sqE ∧ Below w.heap.size w w' := by
  go_enter Try.func23, Try.ntmps23
  go_wp2_with fail
  refine bodyPost_ret (v := .agg #[.int .i64 4, .slice (some ⟨w.heap.size + 1, 0, none⟩) 4 4]) (by simp [results, Try.results23, go_sem]) rfl ⟨_, rfl, ⟨by omega, by omega, fun i hi => ?_⟩, by (repeat' (first | (with_reducible exact Below.refl _ _) | (with_reducible assumption) | (with_reducible refine Below.drew ?_) | (with_reducible refine below_drewN ?_ _) | (with_reducible refine Below.alloc ?_ ?_ _) | (with_reducible refine Below.setCell ?_ ?_ _) | go_size))⟩
  refine ⟨w.heap.size + 1, 0, rfl, fun j hj => ?_⟩
  rcases (by omega : i = 0 ∨ i = 1 ∨ i = 2 ∨ i = 3) with rfl | rfl | rfl | rfl <;> rcases (by omega : j = 0 ∨ j = 1 ∨ j = 2) with rfl | rfl | rfl <;> go_simp <;> rfl
theorem few9 (N : Int) (ao : Option Addr) (m c : Nat) (w : World) (hm : m ≤ c) (hc : c ≤ 9223372036854775807) : Calls Try.prog 9 #[.agg #[.int .i64 N, .slice ao m c]] w fun e w' => e = .returned (.bool (decide (m ≤ 60 ∨ (512 < m ∧ m ≤ 600)))) ∧ Below w.heap.size w w' := by
  go_enter Try.func9, Try.ntmps9
  go_wp2_with fail
  all_goals go_returns
  all_goals exact ⟨by simp [*]; first | done | omega | (rw [Bool.eq_iff_iff]; simp; omega), by (repeat' (first | (with_reducible exact Below.refl _ _) | (with_reducible assumption) | (with_reducible refine Below.drew ?_) | (with_reducible refine below_drewN ?_ _) | (with_reducible refine Below.alloc ?_ ?_ _) | (with_reducible refine Below.setCell ?_ ?_ _) | go_size))⟩
end Go.Proofs.Ytbmlnjdfnjjjhaa
