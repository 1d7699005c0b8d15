/- Contracts: the reference's Elapsed and Allowed, the law's keeps and inside, and both checks of a list of synchronizations. -/
import Derived.Test.YtmhnkfcbbjbpfaaDA
namespace Go.Proofs.Ytmhnkfcbbjbpfaa
open Go.RowKit
set_option linter.unusedVariables false
set_option linter.unusedSimpArgs false

theorem elapsed80 (s p : Int) (w : World) :
    Calls Try.prog 80 #[.int .i64 s, .int .i64 p] w fun e w' => e = .returned (elapsedV s p) ∧ Below w.heap.size w w' := by
  by_cases h : (0 ≤ s ∧ s ≤ 4294943999) ∧ (0 ≤ p ∧ p ≤ 100000)
  · have e : elapsedV s p = .tuple #[.agg #[.int .i64 (elLo s p), .int .i64 (elHi s p)], .int .i64 0] := by simp [elapsedV, isMom_iff, isRate_iff, h]
    rw [e]
    obtain ⟨⟨h0, h1⟩, h2, h3⟩ := h
    go_enter Try.func80, Try.ntmps80
    go_wp2
    (refine region_drawn 13 mixed (by kernel_rfl) ?_; simp only [List.take_succ_cons, List.take_zero, List.drop_succ_cons, List.drop_zero]; (repeat (any_goals (first | go_big_quiet_step (fail) | quiet_step (fail) | (refine wpQuiet_step (fun K hK => ?_); go_simp; split <;> (refine hK _ ?_; clear hK K))))); (all_goals (refine wpQuiet_nil (fun nq => ?_))))
    go_wp2
    go_returns
    exact ⟨rfl, by (repeat' (first | (with_reducible exact Below.refl _ _) | (with_reducible assumption) | (with_reducible refine Below.drew ?_) | (with_reducible refine below_drewN ?_ _) | (with_reducible refine Below.alloc ?_ ?_ _) | (with_reducible refine Below.setCell ?_ ?_ _) | go_size))⟩
  · have e : elapsedV s p = .tuple #[.agg #[.int .i64 0, .int .i64 0], .int .i64 1] := by simp only [elapsedV, isMom_iff, isRate_iff, h, if_false]
    rw [e]
    go_enter Try.func80, Try.ntmps80
    go_wp2
    all_goals (go_returns; exact ⟨rfl, by (repeat' (first | (with_reducible exact Below.refl _ _) | (with_reducible assumption) | (with_reducible refine Below.drew ?_) | (with_reducible refine below_drewN ?_ _) | (with_reducible refine Below.alloc ?_ ?_ _) | (with_reducible refine Below.setCell ?_ ?_ _) | go_size))⟩)

structure Sy where
  loc : Int
  frm : Int
  til : Int
/-- What a synchronization allows. -/
def alLo (y : Sy) (p t : Int) : Int := if y.loc ≤ t then y.frm + elLo (t - y.loc) p else y.frm - elHi (y.loc - t) p
def alHi (y : Sy) (p t : Int) : Int := if y.loc ≤ t then y.til + elHi (t - y.loc) p else y.til - elLo (y.loc - t) p
def okS (y : Sy) : Prop := (0 ≤ y.loc ∧ y.loc ≤ 4294943999) ∧ (0 ≤ y.frm ∧ y.frm ≤ y.til ∧ y.til ≤ 4294943999)
theorem el_bd (s p : Int) (h0 : 0 ≤ s) (h1 : s ≤ 4294943999) (h2 : 0 ≤ p) (h3 : p ≤ 100000) : 0 ≤ elLo s p ∧ elLo s p ≤ s ∧ s ≤ elHi s p ∧ elHi s p ≤ 2 * s := by
  unfold elLo elHi
  refine ⟨Int.ediv_nonneg (by omega) (by omega), ?_, ?_, ?_⟩
  · have : s * 1000000 / (1000000 + p) ≤ s := by
      refine Int.ediv_le_of_le_mul (by omega) ?_
      rw [Int.mul_add]; have := Int.mul_nonneg h0 h2; omega
    exact this
  · refine Int.le_ediv_of_mul_le (by omega) ?_
    rw [Int.mul_sub]; have := Int.mul_nonneg h0 h2; omega
  · have h4 : s * p ≤ s * 100000 := Int.mul_le_mul_of_nonneg_left h3 h0
    by_cases hs : s = 0
    · subst hs
      have : (0 * 1000000 + (1000000 - p) - 1) / (1000000 - p) = 0 := Int.ediv_eq_zero_of_lt (by omega) (by omega)
      omega
    · have : (s * 1000000 + (1000000 - p) - 1) / (1000000 - p) < 2 * s + 1 := by
        refine Int.ediv_lt_of_lt_mul (by omega) ?_
        have e : (2 * s + 1) * (1000000 - p) = 2000000 * s - 2 * (s * p) + (1000000 - p) := by
          rw [Int.add_mul, Int.mul_sub, Int.mul_assoc 2 s p]; omega
        rw [e]; omega
      omega

theorem allowed68 (y : Sy) (p t : Int) (w : World) (hy : okS y) (h0 : 0 ≤ p) (h1 : p ≤ 100000) (h2 : 0 ≤ t) (h3 : t ≤ 4294943999) :
    Calls Try.prog 68 #[.agg #[.int .i64 y.loc, .int .i64 y.frm, .int .i64 y.til], .int .i64 p, .int .i64 t] w fun e w' => e = .returned (.agg #[.int .i64 (alLo y p t), .int .i64 (alHi y p t)]) ∧ Below w.heap.size w w' := by
  obtain ⟨l, f, u⟩ := y
  obtain ⟨⟨a0, a1⟩, a2, a3, a4⟩ := hy
  dsimp only at *
  by_cases h : l ≤ t
  · have E : elapsedV (t - l) p = .tuple #[.agg #[.int .i64 (elLo (t - l) p), .int .i64 (elHi (t - l) p)], .int .i64 0] := by simp only [elapsedV, isMom_iff, isRate_iff]; rw [if_pos (by omega)]
    have bd := el_bd (t - l) p (by omega) (by omega) h0 h1
    have C := fun w' => elapsed80 (t - l) p w'
    rw [E] at C
    rw [show alLo ⟨l, f, u⟩ p t = f + elLo (t - l) p from if_pos h, show alHi ⟨l, f, u⟩ p t = u + elHi (t - l) p from if_pos h]
    go_enter Try.func68, Try.ntmps68
    go_wp2_with (go_at_call 80; refine (C _).mono ?_; rintro e w1 ⟨rfl, hb⟩; have hk := bcell hb; have z0 := szs (a := w.heap.size + 1) (b := w1.heap.size) (by have := hb.size; simp at this; omega); have z1 := szs (a := w.heap.size) (b := w1.heap.size) (by have := hb.size; simp at this; omega))
    refine bodyPost_ret (v := .agg #[.int .i64 (f + elLo (t - l) p), .int .i64 (u + elHi (t - l) p)]) (by simp [results, Try.results68, go_sem, hk, z0, z1]) rfl ⟨rfl, ?_⟩
    have hb2 := (((Below.refl w.heap.size w).alloc (Nat.le_refl _) _).alloc (by simp) _).trans (hb.mono (by go_size))
    (repeat' (first | (with_reducible exact Below.refl _ _) | (with_reducible assumption) | (with_reducible refine Below.drew ?_) | (with_reducible refine below_drewN ?_ _) | (with_reducible refine Below.alloc ?_ ?_ _) | (with_reducible refine Below.setCell ?_ ?_ _) | go_size))
  · have E : elapsedV (l - t) p = .tuple #[.agg #[.int .i64 (elLo (l - t) p), .int .i64 (elHi (l - t) p)], .int .i64 0] := by simp only [elapsedV, isMom_iff, isRate_iff]; rw [if_pos (by omega)]
    have bd := el_bd (l - t) p (by omega) (by omega) h0 h1
    have C := fun w' => elapsed80 (l - t) p w'
    rw [E] at C
    rw [show alLo ⟨l, f, u⟩ p t = f - elHi (l - t) p from if_neg h, show alHi ⟨l, f, u⟩ p t = u - elLo (l - t) p from if_neg h]
    go_enter Try.func68, Try.ntmps68
    go_wp2_with (go_at_call 80; refine (C _).mono ?_; rintro e w1 ⟨rfl, hb⟩; have hk := bcell hb; have z0 := szs (a := w.heap.size + 1) (b := w1.heap.size) (by have := hb.size; simp at this; omega); have z1 := szs (a := w.heap.size) (b := w1.heap.size) (by have := hb.size; simp at this; omega))
    refine bodyPost_ret (v := .agg #[.int .i64 (f - elHi (l - t) p), .int .i64 (u - elLo (l - t) p)]) (by simp [results, Try.results68, go_sem, hk, z0, z1]) rfl ⟨rfl, ?_⟩
    have hb2 := (((Below.refl w.heap.size w).alloc (Nat.le_refl _) _).alloc (by simp) _).trans (hb.mono (by go_size))
    (repeat' (first | (with_reducible exact Below.refl _ _) | (with_reducible assumption) | (with_reducible refine Below.drew ?_) | (with_reducible refine below_drewN ?_ _) | (with_reducible refine Below.alloc ?_ ?_ _) | (with_reducible refine Below.setCell ?_ ?_ _) | go_size))

def insideB (a0 a1 b0 b1 : Int) : Bool := decide (b0 ≤ a0) && decide (a1 ≤ b1)


/-- A synchronization that is not right by itself. -/
def badS (y : Sy) : Bool := !isMom y.loc || (!isMom y.frm || (!isMom y.til || decide (y.til < y.frm)))
theorem badS_no {y : Sy} : badS y = false ↔ okS y := by
  simp [badS, okS, isMom]; omega
open Classical in
/-- The error of a list of synchronizations. -/
noncomputable def syncE (len : Nat) (L : Nat → Sy) : Int :=
  if len = 0 then 10 else if 32 < len then 8 else if ∃ i, i < len ∧ badS (L i) = true then 1 else if ∃ i, i + 1 < len ∧ (L (i + 1)).loc ≤ (L i).loc then 9 else 0
/-- The slice reads as these synchronizations. -/
def SySl (w : World) (a : Option Addr) (len : Nat) (L : Nat → Sy) : Prop :=
  ∀ i, i < len → ∃ b off, a = some ⟨b, off, none⟩ ∧ w.cell? ⟨b, off + i * 3, none⟩ = some (.int .i64 (L i).loc) ∧ w.cell? ⟨b, off + i * 3 + 1, none⟩ = some (.int .i64 (L i).frm) ∧ w.cell? ⟨b, off + i * 3 + 2, none⟩ = some (.int .i64 (L i).til)
theorem SySl.kept {w w1 : World} {a : Option Addr} {len : Nat} {L : Nat → Sy} (h : SySl w a len L) (hb : Below w.heap.size w w1) : SySl w1 a len L :=
  fun i hi => let ⟨b, off, e, h0, h1, h2⟩ := h i hi; ⟨b, off, e, cell_kept hb h0, cell_kept hb h1, cell_kept hb h2⟩
theorem SySl.all {w : World} {a : Option Addr} {len : Nat} {L : Nat → Sy} (h : SySl w a len L) (h0 : 0 < len) : ∃ b off, a = some ⟨b, off, none⟩ ∧
    ∀ i, i < len → w.cell? ⟨b, off + i * 3, none⟩ = some (.int .i64 (L i).loc) ∧ w.cell? ⟨b, off + i * 3 + 1, none⟩ = some (.int .i64 (L i).frm) ∧ w.cell? ⟨b, off + i * 3 + 2, none⟩ = some (.int .i64 (L i).til) := by
  obtain ⟨b, off, e, _⟩ := h 0 h0
  refine ⟨b, off, e, fun i hi => ?_⟩
  obtain ⟨b', off', e', h1, h2, h3⟩ := h i hi
  rw [e] at e'
  cases e'
  exact ⟨h1, h2, h3⟩
end Go.Proofs.Ytmhnkfcbbjbpfaa
