/- A fleet of few stations and trucks. -/
import Derived.Test.YtlnfhlmgnppcbaaGreatZEVA
namespace Go.Proofs.YtlnfhlmgnppcbaaGreat
open Go.RowKit Go.ChangeShapes Go.WideShapes Go.Deep
set_option linter.unusedVariables false
set_option linter.unusedSimpArgs false
theorem few26 (f : Fl) (w : World) (h : f.In w) : Calls Tryz.prog 26 #[.agg f.cells] w fun e w' => e = .returned (.bool (decide (f.nd ≤ 100) && decide (f.nt ≤ 100))) ∧ Below w.heap.size w w' := by
  have h1 := h.docks.hm
  have h2 := h.docks.hc
  have h3 := h.trucks.hm
  have h4 := h.trucks.hc
  clear h
  obtain ⟨bk, rd, dv, ad, nd, cd, D, a2, nt, ct, T⟩ := f
  dsimp only at h1 h2 h3 h4 ⊢
  unfold Fl.cells
  dsimp only
  by_cases c1 : nd ≤ 100
  · have t1 : (nd : Int) ≤ 100 := by omega
    by_cases c2 : nt ≤ 100
    · have t2 : (nt : Int) ≤ 100 := by omega
      go_enter Tryz.func26, Tryz.ntmps26
      go_wp2_with fail
      go_returns
      exact ⟨by simp [c1, c2], by (repeat' (first | (with_reducible exact Below.refl _ _) | (with_reducible assumption) | (with_reducible refine Below.drew ?_) | (with_reducible refine below_drewN ?_ _) | (with_reducible refine Below.alloc ?_ ?_ _) | (with_reducible refine Below.setCell ?_ ?_ _) | go_size))⟩
    · have t2 : (100 : Int) < (nt : Int) := by omega
      go_enter Tryz.func26, Tryz.ntmps26
      go_wp2_with fail
      go_returns
      exact ⟨by simp [c1, c2] <;> omega, by (repeat' (first | (with_reducible exact Below.refl _ _) | (with_reducible assumption) | (with_reducible refine Below.drew ?_) | (with_reducible refine below_drewN ?_ _) | (with_reducible refine Below.alloc ?_ ?_ _) | (with_reducible refine Below.setCell ?_ ?_ _) | go_size))⟩
  · have t1 : (100 : Int) < (nd : Int) := by omega
    go_enter Tryz.func26, Tryz.ntmps26
    go_wp2_with fail
    go_returns
    exact ⟨by simp [c1] <;> omega, by (repeat' (first | (with_reducible exact Below.refl _ _) | (with_reducible assumption) | (with_reducible refine Below.drew ?_) | (with_reducible refine below_drewN ?_ _) | (with_reducible refine Below.alloc ?_ ?_ _) | (with_reducible refine Below.setCell ?_ ?_ _) | go_size))⟩
end Go.Proofs.YtlnfhlmgnppcbaaGreat
