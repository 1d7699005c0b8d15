/- Bytes compared; few; the order's test. -/
import Derived.Test.YtmhnkfcbbjbpfaaBS
import Derived.Test.YtmhnkfcbbjbpfaaE6
import Derived.Test.YtmhnkfcbbjbpfaaBC
namespace Go.Proofs.Ytmhnkfcbbjbpfaa
open Go.RowKit Go.ChangeShapes Go.WideShapes Go.Deep
set_option linter.unusedVariables false
set_option linter.unusedSimpArgs false
theorem byte_ents {n : Nat} {B : Nat → Nat} (h : ∀ i, i < n → B i < 256) : ∀ x ∈ ents B n, x < 256 := fun x hx => by
  obtain ⟨i, hi, rfl⟩ := mem_ents.1 hx
  exact h i hi
theorem sameBytes27 (a1 : Option Addr) (n c1 : Nat) (A : Nat → Nat) (a2 : Option Addr) (m c2 : Nat) (B : Nat → Nat) (w : World) (h1 : BSl w a1 n c1 A) (h2 : BSl w a2 m c2 B) (hA : ∀ i, i < n → A i < 256) (hB : ∀ i, i < m → B i < 256) : Calls Try.prog 27 #[.slice a1 n c1, .slice a2 m c2] w fun e w' => e = .returned (.bool (decide (ents A n = ents B m))) ∧ w = w' := by
  have k1 := convB h1
  have k2 := convB h2
  have EQ := strB_beq (byte_ents hA) (byte_ents hB)
  obtain ⟨r, hr⟩ : ∃ r, r = decide (ents A n = ents B m) := ⟨_, rfl⟩
  rw [← hr] at EQ ⊢
  clear h1 h2 hA hB hr
  generalize strB (ents A n) = s1 at *
  generalize strB (ents B m) = s2 at *
  go_enter Try.func27, Try.ntmps27
  go_wp2_with fail
  go_returns
  exact ⟨rfl, rfl⟩
theorem few13 (f : Fl) (w : World) (h : f.In w) : Calls Try.prog 13 #[.agg f.cells] w fun e w' => e = .returned (.bool (decide (f.nd ≤ 100) && decide (f.nt ≤ 100))) ∧ Below w.heap.size w w' := by
  have h1 := h.docks.hm
  have h2 := h.docks.hc
  have h3 := h.trucks.hm
  have h4 := h.trucks.hc
  clear h
  obtain ⟨bk, rd, dv, ad, nd, cd, D, a2, nt, ct, T⟩ := f
  dsimp only at h1 h2 h3 h4 ⊢
  unfold Fl.cells
  dsimp only
  by_cases c1 : nd ≤ 100
  · have t1 : (nd : Int) ≤ 100 := by omega
    by_cases c2 : nt ≤ 100
    · have t2 : (nt : Int) ≤ 100 := by omega
      go_enter Try.func13, Try.ntmps13
      go_wp2_with fail
      go_returns
      exact ⟨by simp [c1, c2], by (repeat' (first | (with_reducible exact Below.refl _ _) | (with_reducible assumption) | (with_reducible refine Below.drew ?_) | (with_reducible refine below_drewN ?_ _) | (with_reducible refine Below.alloc ?_ ?_ _) | (with_reducible refine Below.setCell ?_ ?_ _) | go_size))⟩
    · have t2 : (100 : Int) < (nt : Int) := by omega
      go_enter Try.func13, Try.ntmps13
      go_wp2_with fail
      go_returns
      exact ⟨by simp [c1, c2] <;> omega, by (repeat' (first | (with_reducible exact Below.refl _ _) | (with_reducible assumption) | (with_reducible refine Below.drew ?_) | (with_reducible refine below_drewN ?_ _) | (with_reducible refine Below.alloc ?_ ?_ _) | (with_reducible refine Below.setCell ?_ ?_ _) | go_size))⟩
  · have t1 : (100 : Int) < (nd : Int) := by omega
    go_enter Try.func13, Try.ntmps13
    go_wp2_with fail
    go_returns
    exact ⟨by simp [c1] <;> omega, by (repeat' (first | (with_reducible exact Below.refl _ _) | (with_reducible assumption) | (with_reducible refine Below.drew ?_) | (with_reducible refine below_drewN ?_ _) | (with_reducible refine Below.alloc ?_ ?_ _) | (with_reducible refine Below.setCell ?_ ?_ _) | go_size))⟩
end Go.Proofs.Ytmhnkfcbbjbpfaa
