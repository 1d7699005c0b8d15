/- The law DriftNarrows walked. -/
import Derived.Test.YtbgnmhphbjkfcaaN
import Derived.BigRegion
namespace Go.Proofs.Ytbgnmhphbjkfcaa
open Go.RowKit Go.ChangeShapes Go.WideShapes Go.Deep
set_option linter.unusedVariables false
set_option linter.unusedSimpArgs false

/-- The list without one. -/
def skip {α : Type} (f : Nat → α) (k i : Nat) : α := if i < k then f i else f (i + 1)
theorem flat_congr {f g : Nat → List Value} : ∀ n, (∀ i, i < n → f i = g i) → flat f n = flat g n
  | 0, _ => rfl
  | n + 1, h => by rw [flat, flat, flat_congr n (fun i hi => h i (by omega)), h n (by omega)]
theorem flat_skip (f : Nat → List Value) (k : Nat) : ∀ m, flat f k ++ flat (fun j => f (k + 1 + j)) m = flat (skip f k) (k + m)
  | 0 => by
    simp only [flat, List.append_nil, Nat.add_zero]
    exact flat_congr k (fun i hi => by simp [skip, hi])
  | m + 1 => by
    rw [flat, ← List.append_assoc, flat_skip f k m, ← Nat.add_assoc, flat]
    congr 1
    simp only [skip, if_neg (show ¬ k + m < k by omega)]
    congr 1
    omega
theorem skip_cells (L : Nat → Sy) (k : Nat) : skip (syCells L) k = syCells (skip L k) := by
  funext i; unfold skip syCells; split <;> simp [*]
theorem skip_is {α : Type} (f : Nat → α) (k i n : Nat) (h : i < n) : ∃ j, j < n + 1 ∧ skip f k i = f j := by
  unfold skip; split
  · exact ⟨i, by omega, rfl⟩
  · exact ⟨i + 1, by omega, rfl⟩
theorem bLo_le {L : Nat → Sy} {p t M : Int} (h0 : 0 ≤ M) : ∀ n, (∀ i, i < n → alLo (L i) p t ≤ M) → bLo L p t n ≤ M
  | 0, _ => h0
  | n + 1, h => by rw [bLo_succ]; have := bLo_le h0 n (fun i hi => h i (by omega)); have := h n (by omega); omega
theorem bHi_ge {L : Nat → Sy} {p t M : Int} (h0 : M ≤ 4294943999) : ∀ n, (∀ i, i < n → M ≤ alHi (L i) p t) → M ≤ bHi L p t n
  | 0, _ => h0
  | n + 1, h => by rw [bHi_succ]; have := bHi_ge h0 n (fun i hi => h i (by omega)); have := h n (by omega); omega
theorem bLo_ge' (L : Nat → Sy) (p t : Int) : ∀ n i, i < n → alLo (L i) p t ≤ bLo L p t n
  | 0, i, hi => absurd hi (by omega)
  | n + 1, i, hi => by
    rw [bLo_succ]
    rcases Nat.lt_succ_iff_lt_or_eq.1 hi with h | h
    · have := bLo_ge' L p t n i h; omega
    · subst h; omega
theorem bHi_le' (L : Nat → Sy) (p t : Int) : ∀ n i, i < n → bHi L p t n ≤ alHi (L i) p t
  | 0, i, hi => absurd hi (by omega)
  | n + 1, i, hi => by
    rw [bHi_succ]
    rcases Nat.lt_succ_iff_lt_or_eq.1 hi with h | h
    · have := bHi_le' L p t n i h; omega
    · subst h; omega
theorem bLo_zero' (L : Nat → Sy) (p t : Int) : ∀ n, 0 ≤ bLo L p t n
  | 0 => by simp [bLo]
  | n + 1 => by rw [bLo_succ]; have := bLo_zero' L p t n; omega
theorem bHi_max' (L : Nat → Sy) (p t : Int) : ∀ n, bHi L p t n ≤ 4294943999
  | 0 => by simp [bHi]
  | n + 1 => by rw [bHi_succ]; have := bHi_max' L p t n; omega
theorem el_mono {s p q : Int} (hs : 0 ≤ s) (hs1 : s ≤ 4294943999) (h0 : 0 ≤ p) (h1 : p ≤ q) (h2 : q ≤ 100000) : elLo s q ≤ elLo s p ∧ elHi s p ≤ elHi s q := by
  constructor
  · obtain ⟨a, _⟩ := ex_lo s q (by omega) h2
    have h3 := (el_bd s q hs hs1 (by omega) h2).1
    have h4 : (1000000 + p) * elLo s q ≤ (1000000 + q) * elLo s q := Int.mul_le_mul_of_nonneg_right (by omega) h3
    have h5 : elLo s q * (1000000 + p) ≤ s * 1000000 := by rw [Int.mul_comm]; omega
    exact Int.le_ediv_of_mul_le (by omega) h5
  · obtain ⟨a, _⟩ := ex_hi s q (by omega) h2
    have h3 := (el_bd s q hs hs1 (by omega) h2).2.2.1
    have h4 : (1000000 - q) * elHi s q ≤ (1000000 - p) * elHi s q := Int.mul_le_mul_of_nonneg_right (by omega) (by omega)
    have h5 : s * 1000000 + (1000000 - p) - 1 < (elHi s q + 1) * (1000000 - p) := by
      rw [Int.add_mul, Int.mul_comm (elHi s q)]; omega
    have h6 : elHi s p < elHi s q + 1 := Int.ediv_lt_of_lt_mul (by omega) h5
    omega
theorem al_mono {y : Sy} {p q t : Int} (hy : okS y) (ht0 : 0 ≤ t) (ht1 : t ≤ 4294943999) (h0 : 0 ≤ p) (h1 : p ≤ q) (h2 : q ≤ 100000) : alLo y q t ≤ alLo y p t ∧ alHi y p t ≤ alHi y q t := by
  obtain ⟨⟨a, b⟩, c, d, e⟩ := hy
  unfold alLo alHi
  by_cases h : y.loc ≤ t
  · rw [if_pos h, if_pos h, if_pos h, if_pos h]
    have := el_mono (s := t - y.loc) (by omega) (by omega) h0 h1 h2
    omega
  · rw [if_neg h, if_neg h, if_neg h, if_neg h]
    have := el_mono (s := y.loc - t) (by omega) (by omega) h0 h1 h2
    omega
/-- Without one of them (there are at least two), the synchronizations are right, and their bounds are no narrower; with a greater rate neither. -/
theorem narrows {L : Nat → Sy} {n k : Nat} {p q t : Int} (hk : k < n + 2) (hc : checkE (n + 2) L = 0) (h0 : 0 ≤ p) (h1 : p ≤ q) (h2 : q ≤ 100000) (ht0 : 0 ≤ t) (ht1 : t ≤ 4294943999) :
    checkE (n + 1) (skip L k) = 0 ∧ bLo (skip L k) p t (n + 1) ≤ bLo L p t (n + 2) ∧ bHi L p t (n + 2) ≤ bHi (skip L k) p t (n + 1) ∧ bLo L q t (n + 2) ≤ bLo L p t (n + 2) ∧ bHi L p t (n + 2) ≤ bHi L q t (n + 2) := by
  obtain ⟨n0, n1, hok, hord⟩ := check_okS hc
  refine ⟨checkE_ok (by omega) (by omega) (fun i hi => ?_) (fun i hi => ?_), bLo_le (bLo_zero' _ _ _ _) _ (fun i hi => ?_), bHi_ge (bHi_max' _ _ _ _) _ (fun i hi => ?_), bLo_le (bLo_zero' _ _ _ _) _ (fun i hi => ?_), bHi_ge (bHi_max' _ _ _ _) _ (fun i hi => ?_)⟩
  · obtain ⟨j, hj, e⟩ := skip_is L k i (n + 1) hi
    rw [e, badS_no]; exact hok j hj
  · unfold skip
    by_cases h3 : i + 1 < k
    · rw [if_pos (by omega), if_pos h3]; exact hord i (by omega)
    · rw [if_neg h3]
      split
      · have a := hord i (by omega)
        have b := hord (i + 1) (by omega)
        omega
      · exact hord (i + 1) (by omega)
  · obtain ⟨j, hj, e⟩ := skip_is L k i (n + 1) hi
    rw [e]; exact bLo_ge' L p t _ j hj
  · obtain ⟨j, hj, e⟩ := skip_is L k i (n + 1) hi
    rw [e]; exact bHi_le' L p t _ j hj
  · exact Int.le_trans (al_mono (hok i hi) ht0 ht1 h0 h1 h2).1 (bLo_ge' L p t _ i hi)
  · exact Int.le_trans (bHi_le' L p t _ i hi) (al_mono (hok i hi) ht0 ht1 h0 h1 h2).2

theorem open_rates {H : Type} {enc : TypeId × Value → H} {W : World} {base : Nat} {v : Value} {d : DataW H} {p : List MemPlace} (hv : Value.okWide Try.prog W .any base 38 v) (h : DataW.Trod enc Try.prog W 0 (fun _ => true) true 38 v d p) :
    ∃ a b : Int, v = .agg #[.int .i64 a, .int .i64 b] ∧ inI64 a ∧ inI64 b := by
  have hv' := hv
  simp only [Value.okWide, Try.underlying38] at hv'
  obtain ⟨cs, rfl, hsz, _⟩ := hv'
  obtain ⟨fuel, hf⟩ := h
  obtain ⟨xs, m, _, _, hlen, hxl, hx⟩ := DataW.trod_array Try.underlying38 hf
  have hc : Try.prog.cellsOf 38 = 2 := by kernel_rfl
  have hc3 : Try.prog.cellsOf 3 = 1 := by kernel_rfl
  obtain ⟨l⟩ := cs
  have hl : l.length = 2 := by rw [hc] at hsz; simpa using hsz
  match l, hl with
  | [c0, c1], _ =>
    match xs, hxl with
    | [x0, x1], _ =>
      have e0 := hx 0 (by omega)
      have e1 := hx 1 (by omega)
      simp [Value.cells, hc3] at e0 e1
      obtain ⟨n0, f0, _, w0⟩ := DataW.trod_int Try.underlying3 e0
      obtain ⟨n1, f1, _, w1⟩ := DataW.trod_int Try.underlying3 e1
      simp at f0 f1
      subst f0 f1
      exact ⟨n0, n1, rfl, wf_in w0, wf_in w1⟩
end Go.Proofs.Ytbgnmhphbjkfcaa
