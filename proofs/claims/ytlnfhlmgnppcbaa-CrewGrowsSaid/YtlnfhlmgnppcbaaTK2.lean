/- Trucks: the error of a night, the program's. -/
import Derived.Test.YtlnfhlmgnppcbaaTK1
import Derived.Test.YtlnfhlmgnppcbaaR8B13
namespace Go.Proofs.Ytlnfhlmgnppcbaa
open Go.RowKit Go.ChangeShapes Go.WideShapes Go.Deep
set_option linter.unusedVariables false
set_option linter.unusedSimpArgs false
set_option maxRecDepth 8000
/-- The closure of Check: is a need at this one's node? -/
theorem node130 (x : Nd) (b : Nat) (v : Int) (w : World) (h : w.cell? ⟨b, 0, none⟩ = some (.int .i64 v)) :
    Calls Try.prog 130 #[.agg #[.int .i64 x.node, .int .i64 x.mv], .pointer (some ⟨b, 0, none⟩)] w fun e w' => e = .returned (.bool (decide (x.node = v))) ∧ Below w.heap.size w w' := by
  have zb := szs (cell_lt h)
  dsimp only at zb
  obtain ⟨p, q⟩ := x
  dsimp only
  by_cases hp : p = v
  · subst hp
    have t : (p == p) = true := by simp
    rw [show decide (p = p) = true from decide_eq_true rfl]
    go_enter Try.func130, Try.ntmps130
    go_wp2_with fail
    go_returns
    exact ⟨rfl, by (repeat' (first | (with_reducible exact Below.refl _ _) | (with_reducible assumption) | (with_reducible refine Below.drew ?_) | (with_reducible refine below_drewN ?_ _) | (with_reducible refine Below.alloc ?_ ?_ _) | (with_reducible refine Below.setCell ?_ ?_ _) | go_size))⟩
  · have t : (p == v) = false := by simpa using hp
    rw [show decide (p = v) = false from decide_eq_false hp]
    go_enter Try.func130, Try.ntmps130
    go_wp2_with fail
    go_returns
    exact ⟨rfl, by (repeat' (first | (with_reducible exact Below.refl _ _) | (with_reducible assumption) | (with_reducible refine Below.drew ?_) | (with_reducible refine below_drewN ?_ _) | (with_reducible refine Below.alloc ?_ ?_ _) | (with_reducible refine Below.setCell ?_ ?_ _) | go_size))⟩
theorem nodes137 (ao : Option Addr) (m c : Nat) (D : Nat → Nd) (b : Nat) (v : Int) (w : World) (hb : w.cell? ⟨b, 0, none⟩ = some (.int .i64 v)) (h : Sl w 2 ao m c (ndf D)) (hm : m ≤ 1000) :
    Calls Try.prog 137 #[.slice ao m c, .func (.func 130) #[] #[.pointer (some ⟨b, 0, none⟩)]] w fun e w' => ∃ x : Int, e = .returned (.int .i64 x) ∧ decide (0 ≤ x) = anyN (fun j => decide ((D j).node = v)) m ∧ Below w.heap.size w w' := by
  have hmc := h.hm
  have hcc := h.hc
  have HS := Lib.hid h
  have HB := Lib.hid hb
  clear h hb
  go_enter Try.func137, Try.ntmps137
  go_wp2_with fail
  go_loopw [8] (fun i wr => ∃ j : Nat, i = .int .i64 j ∧ j ≤ m ∧ Hid (anyN (fun j => decide ((D j).node = v)) j = false ∧ Below w.heap.size w wr)) (fun i _ => m - (intOf i).toNat)
  case atStart => exact ⟨0, rfl, by omega, Lib.hid ⟨rfl, by (repeat' (first | (with_reducible exact Below.refl _ _) | (with_reducible assumption) | (with_reducible refine Below.drew ?_) | (with_reducible refine below_drewN ?_ _) | (with_reducible refine Below.alloc ?_ ?_ _) | (with_reducible refine Below.setCell ?_ ?_ _) | go_size))⟩⟩
  case round =>
    obtain ⟨j, rfl, hj, hrel⟩ := hrel
    have HR := hrel
    clear hrel
    by_cases hlt : j < m
    · have tj : (j : Int) < (m : Int) := by omega
      obtain ⟨g, o, rfl, hg, e0, e1⟩ := (HS.out.below HR.out.2).nd hlt
      have zg := szs hg
      have OU := node130 (D j) b v wr (cell_kept HR.out.2 HB.out)
      obtain ⟨y, hy⟩ : ∃ y, y = decide ((D j).node = v) := ⟨_, rfl⟩
      rw [← hy] at OU
      have HY := Lib.hid hy
      obtain ⟨x, hx⟩ : ∃ x, x = D j := ⟨_, rfl⟩
      rw [← hx] at e0 e1 OU
      clear hy hx
      obtain ⟨x1, x2⟩ := x
      dsimp only at e0 e1 OU
      replace OU := Lib.hid OU
      go_wp2_with fail
      refine OU.out.mono ?_
      rintro e w1 ⟨rfl, b1⟩
      have B1 := Lib.hid (HR.out.2.trans (b1.mono HR.out.2.size))
      clear OU b1
      cases y with
      | true =>
        have HA := Lib.hid (anyN_yes (p := fun j => decide ((D j).node = v)) hlt HY.out.symm)
        go_wp2_with fail
        go_returns
        exact ⟨_, rfl, by rw [HA.out]; exact decide_eq_true (by omega), B1.out⟩
      | false =>
        have HA : Hid (anyN (fun j => decide ((D j).node = v)) (j + 1) = false) := Lib.hid (by rw [anyN, HR.out.1, ← HY.out]; rfl)
        go_wp2_with fail
        go_roundw
        case rel => exact ⟨j + 1, by go_num, by omega, Lib.hid ⟨HA.out, B1.out⟩⟩
        case measure => simp [intOf]; omega
    · obtain rfl : j = m := by omega
      go_wp2_with fail
      go_returns
      exact ⟨_, rfl, by rw [HR.out.1]; rfl, HR.out.2⟩
theorem anyNode129 (ao : Option Addr) (m c : Nat) (D : Nat → Nd) (b : Nat) (v : Int) (w : World) (hb : w.cell? ⟨b, 0, none⟩ = some (.int .i64 v)) (h : Sl w 2 ao m c (ndf D)) (hm : m ≤ 1000) :
    Calls Try.prog 129 #[.slice ao m c, .func (.func 130) #[] #[.pointer (some ⟨b, 0, none⟩)]] w fun e w' => e = .returned (.bool (anyN (fun j => decide ((D j).node = v)) m)) ∧ Below w.heap.size w w' := by
  have IX := Lib.hid (nodes137 ao m c D b v w hb h hm)
  clear h hb
  generalize anyN (fun j => decide ((D j).node = v)) m = y at *
  go_enter Try.func129, Try.ntmps129
  go_wp2_with fail
  refine IX.out.mono ?_
  rintro e w1 ⟨x, rfl, rfl, b1⟩
  have B1 := Lib.hid b1
  clear b1 IX
  go_wp2_with fail
  go_returns
  exact ⟨rfl, B1.out⟩
end Go.Proofs.Ytlnfhlmgnppcbaa
