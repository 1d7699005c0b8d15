/- TopTrucks: few, quick; the loads of a truck. -/
import Derived.Test.YtlnfhlmgnppcbaaGreatZTT9
import Derived.Test.YtlnfhlmgnppcbaaGreatZLVP
import Derived.Test.YtlnfhlmgnppcbaaGreatZCMZ
import Derived.BigQuiet
namespace Go.Proofs.YtlnfhlmgnppcbaaGreat
open Go.RowKit Go.ChangeShapes Go.WideShapes Go.Deep
set_option linter.unusedVariables false
set_option linter.unusedSimpArgs false
theorem loads_case (f : Fl) (l : List Ev) (truck t : Int) :
    ((loadsE f truck ≠ 0 ∨ t < 0 ∨ 4294943999 < t) ∧ (movedV f l truck t).1 = 0 ∧ (movedV f l truck t).2.1 = 0 ∧ (movedV f l truck t).2.2 ≠ 0) ∨
    (loadsE f truck = 0 ∧ (0 ≤ truck ∧ truck < f.nt) ∧ (movedV f l truck t).2.2 = 0 ∧ 0 ≤ (movedV f l truck t).2.1 ∧ (movedV f l truck t).1 - (movedV f l truck t).2.1 = countT t (loadsL f l truck) ∧ (movedV f l truck t).2.1 ≤ (movedV f l truck t).1 ∧ (movedV f l truck t).1 ≤ l.length ∧ countT t (loadsL f l truck) ≤ f.T truck.toNat ∧
      ∃ c1 r1, loadsL f l truck = (0, c1) :: r1 ∧ 0 ≤ c1 ∧ (c1 = 0 → carB (f.T truck.toNat) (loadsL f l truck).length (fun i => (loadsL f l truck).getD i (0, 0)) = true)) := by
  unfold loadsE movedV
  by_cases h1 : fleetE f ≠ 0
  · rw [if_pos h1, if_pos h1]; exact .inl ⟨.inl h1, rfl, rfl, h1⟩
  rw [if_neg h1, if_neg h1]
  by_cases h2 : truck < 0 ∨ (f.nt : Int) ≤ truck
  · rw [if_pos h2, if_pos h2]; exact .inl ⟨.inl (by decide), rfl, rfl, by decide⟩
  rw [if_neg h2, if_neg h2]
  by_cases h3 : t < 0 ∨ 4294943999 < t
  · rw [if_pos h3]; exact .inl ⟨.inr h3, rfl, rfl, by decide⟩
  rw [if_neg h3]
  obtain ⟨g1, g2, g3, c1, r1, g4, g5, g6⟩ := loads_law (f := f) (l := l) (truck := truck) (t := t) (Decidable.not_not.1 h1) (by omega) (by omega) (by omega)
  have g7 := mvP_most truck t (runE f l).2 (fun _ => false) 0 0
  have g8 := acc_len f l
  have g9 := moved_cap (f := f) (l := l) (truck := truck) (t := t) (Decidable.not_not.1 h1) (by omega) (by omega)
  refine .inr ⟨rfl, ⟨by omega, by omega⟩, rfl, g2, g1.symm, by dsimp only; omega, by dsimp only; omega, by omega, c1, r1, g4, g5, fun hz => carB_yes ?_⟩
  obtain ⟨k1, k2, k3⟩ := g6 hz
  exact ⟨k1, k2, fun i hi => k3 i hi⟩
theorem countT_take (t : Int) (L : List (Int × Int)) {j : Nat} (hj : j < L.length) : countT t (L.take (j + 1)) = if (L.getD j (0, 0)).1 ≤ t then (L.getD j (0, 0)).2 else countT t (L.take j) := by
  rw [List.take_add_one, List.getElem?_eq_getElem hj]
  show countT t (L.take j ++ [L[j]]) = _
  rw [countT_snoc]
  have e : L.getD j (0, 0) = L[j] := by rw [List.getD, List.getElem?_eq_getElem hj]; rfl
  rw [e]
theorem few10 (f : Fl) (ao : Option Addr) (n c : Nat) (w : World) (h : f.In w) (hn : n ≤ c) (hc : c ≤ 9223372036854775807) : Calls Tryz.prog 10 #[.agg f.cells, .slice ao n c] w fun e w' => e = .returned (.bool (decide (n ≤ 40) && decide (f.nd ≤ 40) && decide (f.nt ≤ 20))) ∧ Below w.heap.size w w' := by
  have h1 := h.docks.hm
  have h2 := h.docks.hc
  have h3 := h.trucks.hm
  have h4 := h.trucks.hc
  clear h
  obtain ⟨bk, rd, dv, ad, nd, cd, D, a2, nt, ct, T⟩ := f
  dsimp only at h1 h2 h3 h4 ⊢
  unfold Fl.cells
  dsimp only
  by_cases c0 : n ≤ 40
  · have t0 : decide ((n : Int) ≤ 40) = true := decide_eq_true (by omega)
    by_cases c1 : nd ≤ 40
    · have t1 : decide ((nd : Int) ≤ 40) = true := decide_eq_true (by omega)
      by_cases c2 : nt ≤ 20
      · have t2 : decide ((nt : Int) ≤ 20) = true := decide_eq_true (by omega)
        go_enter Tryz.func10, Tryz.ntmps10
        go_wp2_with fail
        go_returns
        exact ⟨by simp [c0, c1, c2], by (repeat' (first | (with_reducible exact Below.refl _ _) | (with_reducible assumption) | (with_reducible refine Below.drew ?_) | (with_reducible refine below_drewN ?_ _) | (with_reducible refine Below.alloc ?_ ?_ _) | (with_reducible refine Below.setCell ?_ ?_ _) | go_size))⟩
      · have t2 : decide ((nt : Int) ≤ 20) = false := decide_eq_false (by omega)
        go_enter Tryz.func10, Tryz.ntmps10
        go_wp2_with fail
        go_returns
        exact ⟨by simp [c0, c1, c2] <;> omega, by (repeat' (first | (with_reducible exact Below.refl _ _) | (with_reducible assumption) | (with_reducible refine Below.drew ?_) | (with_reducible refine below_drewN ?_ _) | (with_reducible refine Below.alloc ?_ ?_ _) | (with_reducible refine Below.setCell ?_ ?_ _) | go_size))⟩
    · have t1 : decide ((nd : Int) ≤ 40) = false := decide_eq_false (by omega)
      go_enter Tryz.func10, Tryz.ntmps10
      go_wp2_with fail
      go_returns
      exact ⟨by simp [c1] <;> omega, by (repeat' (first | (with_reducible exact Below.refl _ _) | (with_reducible assumption) | (with_reducible refine Below.drew ?_) | (with_reducible refine below_drewN ?_ _) | (with_reducible refine Below.alloc ?_ ?_ _) | (with_reducible refine Below.setCell ?_ ?_ _) | go_size))⟩
  · have t0 : decide ((n : Int) ≤ 40) = false := decide_eq_false (by omega)
    go_enter Tryz.func10, Tryz.ntmps10
    go_wp2_with fail
    go_returns
    exact ⟨by simp [c0] <;> omega, by (repeat' (first | (with_reducible exact Below.refl _ _) | (with_reducible assumption) | (with_reducible refine Below.drew ?_) | (with_reducible refine below_drewN ?_ _) | (with_reducible refine Below.alloc ?_ ?_ _) | (with_reducible refine Below.setCell ?_ ?_ _) | go_size))⟩
theorem quick11 (g : Ng) (w : World) (h : g.In w) : Calls Tryz.prog 11 #[.agg g.cells, .agg #[.slice none 0 0, .slice none 0 0]] w fun e w' => e = .returned (.bool (decide (g.nn ≤ 5) && decide (g.tn ≤ 3) && decide (g.em ≤ 60))) ∧ Below w.heap.size w w' := by
  have h1 := h.needs.hm
  have h2 := h.needs.hc
  have h3 := h.trucks.hm
  have h4 := h.trucks.hc
  have h5 := h.net.hm
  have h6 := h.net.hc
  clear h
  obtain ⟨N, ea, em, ec, E, ta, tn, tc, T, na, nn, nc, D, hh⟩ := g
  dsimp only at h1 h2 h3 h4 h5 h6 ⊢
  unfold Ng.cells
  dsimp only
  by_cases c0 : nn ≤ 5
  · have t0 : decide (5 < (nn : Int)) = false := decide_eq_false (by omega)
    by_cases c1 : tn ≤ 3
    · have t1 : decide (3 < (tn : Int)) = false := decide_eq_false (by omega)
      by_cases c2 : em ≤ 60
      · have t2 : decide (60 < (em : Int)) = false := decide_eq_false (by omega)
        go_enter Tryz.func11, Tryz.ntmps11
        go_wp2_with fail
        go_loopw [5] (fun s5 wr => s5 = .int .i64 0 ∧ wr = (w.alloc (.cells #[.int .i64 N, .slice ea em ec, .slice ta tn tc, .slice na nn nc, .int .i64 hh] 32)).alloc (.cells #[.slice none 0 0, .slice none 0 0] 37)) (fun _ _ => 0)
        case atStart => exact ⟨rfl, rfl⟩
        case round =>
          obtain ⟨rfl, rfl⟩ := hrel
          go_wp2_with fail
          go_returns
          exact ⟨by simp [c0, c1, c2], by (repeat' (first | (with_reducible exact Below.refl _ _) | (with_reducible assumption) | (with_reducible refine Below.drew ?_) | (with_reducible refine below_drewN ?_ _) | (with_reducible refine Below.alloc ?_ ?_ _) | (with_reducible refine Below.setCell ?_ ?_ _) | go_size))⟩
      · have t2 : decide (60 < (em : Int)) = true := decide_eq_true (by omega)
        go_enter Tryz.func11, Tryz.ntmps11
        go_wp2_with fail
        go_returns
        exact ⟨by simp [c0, c1, c2] <;> omega, by (repeat' (first | (with_reducible exact Below.refl _ _) | (with_reducible assumption) | (with_reducible refine Below.drew ?_) | (with_reducible refine below_drewN ?_ _) | (with_reducible refine Below.alloc ?_ ?_ _) | (with_reducible refine Below.setCell ?_ ?_ _) | go_size))⟩
    · have t1 : decide (3 < (tn : Int)) = true := decide_eq_true (by omega)
      go_enter Tryz.func11, Tryz.ntmps11
      go_wp2_with fail
      go_returns
      exact ⟨by simp [c1] <;> omega, by (repeat' (first | (with_reducible exact Below.refl _ _) | (with_reducible assumption) | (with_reducible refine Below.drew ?_) | (with_reducible refine below_drewN ?_ _) | (with_reducible refine Below.alloc ?_ ?_ _) | (with_reducible refine Below.setCell ?_ ?_ _) | go_size))⟩
  · have t0 : decide (5 < (nn : Int)) = true := decide_eq_true (by omega)
    go_enter Tryz.func11, Tryz.ntmps11
    go_wp2_with fail
    go_returns
    exact ⟨by simp [c0] <;> omega, by (repeat' (first | (with_reducible exact Below.refl _ _) | (with_reducible assumption) | (with_reducible refine Below.drew ?_) | (with_reducible refine below_drewN ?_ _) | (with_reducible refine Below.alloc ?_ ?_ _) | (with_reducible refine Below.setCell ?_ ?_ _) | go_size))⟩
end Go.Proofs.YtlnfhlmgnppcbaaGreat
