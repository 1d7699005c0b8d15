/- The checks of a set of needs. -/
import Derived.Test.YtlnfhlmgnppcbaaGreatZTT3
import Derived.BigQuiet
import Derived.BigRegion
namespace Go.Proofs.YtlnfhlmgnppcbaaGreat
open Go.RowKit Go.ChangeShapes Go.WideShapes Go.Deep
set_option linter.unusedVariables false
set_option linter.unusedSimpArgs false
open Rd
theorem out133 (b : Nat) (nn : Nat) (na : Option Addr) (nc : Nat) (x : Int) (w : World) (h : w.cell? ⟨b, 3, none⟩ = some (.slice na nn nc)) (hn : nn ≤ 1000) :
    Calls Tryz.prog 133 #[.int .i64 x, .pointer (some ⟨b, 0, none⟩)] w fun e w' => e = .returned (.bool (outB nn x)) ∧ w = w' := by
  have zb := szs (cell_lt h)
  dsimp only at zb
  by_cases h0 : x < 0
  · have t0 : decide (x < 0) = true := decide_eq_true h0
    have HO : Hid (outB nn x = true) := Lib.hid (by unfold outB inB; simp; omega)
    rw [HO.out]
    go_enter Tryz.func133, Tryz.ntmps133
    go_wp2_with fail
    go_returns
    exact ⟨rfl, rfl⟩
  · have t0 : decide (x < 0) = false := decide_eq_false h0
    by_cases h1 : (nn : Int) ≤ x
    · have t1 : decide ((nn : Int) ≤ x) = true := decide_eq_true h1
      have HO : Hid (outB nn x = true) := Lib.hid (by unfold outB inB; simp; omega)
      rw [HO.out]
      go_enter Tryz.func133, Tryz.ntmps133
      go_wp2_with fail
      go_returns
      exact ⟨rfl, rfl⟩
    · have t1 : decide ((nn : Int) ≤ x) = false := decide_eq_false h1
      have HO : Hid (outB nn x = false) := Lib.hid (by unfold outB inB; simp; omega)
      rw [HO.out]
      go_enter Tryz.func133, Tryz.ntmps133
      go_wp2_with fail
      go_returns
      exact ⟨rfl, rfl⟩
theorem outs133 (ao : Option Addr) (m c : Nat) (F : Nat → Int) (b nn : Nat) (na : Option Addr) (nc : Nat) (w : World) (hb : w.cell? ⟨b, 3, none⟩ = some (.slice na nn nc)) (hn : nn ≤ 1000) (h : Sl w 1 ao m c (nf F)) (hm : m ≤ 1000) :
    Calls Tryz.prog 80 #[.slice ao m c, .func (.func 133) #[] #[.pointer (some ⟨b, 0, none⟩)]] w fun e w' => ∃ x : Int, e = .returned (.int .i64 x) ∧ decide (0 ≤ x) = anyN (fun j => outB nn (F j)) m ∧ Below w.heap.size w w' := by
  have hmc := h.hm
  have hcc := h.hc
  have HS := Lib.hid h
  have HB := Lib.hid hb
  clear h hb
  go_enter Tryz.func80, Tryz.ntmps80
  go_wp2_with fail
  go_loopw [8] (fun i wr => ∃ j : Nat, i = .int .i64 j ∧ j ≤ m ∧ Hid (anyN (fun j => outB nn (F j)) j = false ∧ Below w.heap.size w wr)) (fun i _ => m - (intOf i).toNat)
  case atStart => exact ⟨0, rfl, by omega, Lib.hid ⟨rfl, by (repeat' (first | (with_reducible exact Below.refl _ _) | (with_reducible assumption) | (with_reducible refine Below.drew ?_) | (with_reducible refine below_drewN ?_ _) | (with_reducible refine Below.alloc ?_ ?_ _) | (with_reducible refine Below.setCell ?_ ?_ _) | go_size))⟩⟩
  case round =>
    obtain ⟨j, rfl, hj, hrel⟩ := hrel
    have HR := hrel
    clear hrel
    by_cases hlt : j < m
    · have tj : (j : Int) < (m : Int) := by omega
      obtain ⟨g, o, rfl, hg, e0⟩ := (HS.out.below HR.out.2).num hlt
      have zg := szs hg
      have OU := out133 b nn na nc (F j) wr (cell_kept HR.out.2 HB.out) hn
      obtain ⟨y, hy⟩ : ∃ y, y = outB nn (F j) := ⟨_, rfl⟩
      rw [← hy] at OU
      have HY := Lib.hid hy
      obtain ⟨x, hx⟩ : ∃ x, x = F j := ⟨_, rfl⟩
      rw [← hx] at e0 OU
      replace OU := Lib.hid OU
      clear hy hx
      go_wp2_with fail
      refine OU.out.mono ?_
      rintro e w1 ⟨rfl, rfl⟩
      clear OU
      cases y with
      | true =>
        have HA := Lib.hid (anyN_yes (p := fun j => outB nn (F j)) hlt HY.out.symm)
        go_wp2_with fail
        go_returns
        exact ⟨_, rfl, by rw [HA.out]; exact decide_eq_true (by omega), HR.out.2⟩
      | false =>
        have HA : Hid (anyN (fun j => outB nn (F j)) (j + 1) = false) := Lib.hid (by rw [anyN, HR.out.1, ← HY.out]; rfl)
        go_wp2_with fail
        go_roundw
        case rel => exact ⟨j + 1, by go_num, by omega, Lib.hid ⟨HA.out, HR.out.2⟩⟩
        case measure => simp [intOf]; omega
    · obtain rfl : j = m := by omega
      go_wp2_with fail
      go_returns
      exact ⟨_, rfl, by rw [HR.out.1]; rfl, HR.out.2⟩
theorem anyOut133 (ao : Option Addr) (m c : Nat) (F : Nat → Int) (b nn : Nat) (na : Option Addr) (nc : Nat) (w : World) (hb : w.cell? ⟨b, 3, none⟩ = some (.slice na nn nc)) (hn : nn ≤ 1000) (h : Sl w 1 ao m c (nf F)) (hm : m ≤ 1000) :
    Calls Tryz.prog 82 #[.slice ao m c, .func (.func 133) #[] #[.pointer (some ⟨b, 0, none⟩)]] w fun e w' => e = .returned (.bool (anyN (fun j => outB nn (F j)) m)) ∧ Below w.heap.size w w' := by
  have IX := Lib.hid (outs133 ao m c F b nn na nc w hb hn h hm)
  clear h hb
  generalize anyN (fun j => outB nn (F j)) m = y at *
  go_enter Tryz.func82, Tryz.ntmps82
  go_wp2_with fail
  refine IX.out.mono ?_
  rintro e w1 ⟨x, rfl, rfl, b1⟩
  have B1 := Lib.hid b1
  clear b1 IX
  go_wp2_with fail
  go_returns
  exact ⟨rfl, B1.out⟩
theorem nums_holds {w : World} {base b n c : Nat} {V : Nat → Int} (h : NumR w base (.slice (some ⟨b, 0, none⟩) n c) n V) : Go.Sort.Holds (Value.int .i64) w b 0 (ents V n).toArray := by
  intro j hj
  have hj' : j < n := by simpa [ents] using hj
  refine ⟨?_, Row.free h _⟩
  rw [Nat.zero_add, h.at hj', ents_arr hj']
theorem put_off {w : World} {b q : Nat} {d : Array Int} {enc : Int → Value} : Off (fun k => k = b) w (Go.Sort.putRow enc (Go.Sort.ahead w q) b 0 d) := by
  refine ⟨rfl, rfl, rfl, ?_, fun i hi hx => ?_⟩
  · unfold Go.Sort.putRow Go.Sort.mapBlock Go.Sort.ahead
    simp
  · unfold Go.Sort.putRow Go.Sort.mapBlock Go.Sort.ahead
    dsimp only
    rw [Array.getElem?_modify, if_neg (fun h => hx h.symm)]
theorem compact136 (base : Nat) (v : Value) (n : Nat) (V : Nat → Int) (w : World) (hR : NumR w base v n V) (hn : n ≤ 1000) :
    Calls Tryz.prog 136 #[v] w fun e w' => (∃ (a : Option Addr) (m c : Nat), e = .returned (.slice a m c)) ∧ Off (fun k => v.ownBlock = some k) w w' := by
  rcases Row.shape hR with ⟨rfl, rfl⟩ | ⟨g, cap, rfl, hg, hgl, hnc, hcm⟩
  · refine Calls.mono (Go.Proofs.AnyG.slices_Compact_int_empty layCompact136 none 0 w) ?_
    rintro e w' ⟨rfl, rfl⟩
    exact ⟨⟨_, _, _, rfl⟩, Off.refl _ _⟩
  · have h := Go.Proofs.AnyG.slices_Compact_int_arr layCompact136 g 0 cap (ents V n).toArray w (nums_holds hR) (by simp [ents]; omega) (by simpa [ents] using hnc)
    have e : (ents V n).toArray.size = n := by simp [ents]
    rw [e] at h
    refine Calls.mono h ?_
    rintro e w' ⟨rfl, q, rfl⟩
    exact ⟨⟨_, _, _, rfl⟩, (put_off (w := w) (b := g) (q := q)).mono (fun i _ h => by rw [h]; rfl)⟩
end Go.Proofs.YtlnfhlmgnppcbaaGreat
