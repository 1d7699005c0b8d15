/- Theorems of this seat. -/
import Derived.Test.YtdpoppilnokniaaGreatDoorYBA
import Derived.Test.YtdpoppilnokniaaGreatDoorYST8
import Derived.BigQuiet
import Derived.WalkLawsBesides
import Derived.BigRegion
namespace Go.Proofs.YtdpoppilnokniaaGreatDoor
set_option linter.unusedVariables false
set_option linter.unusedSimpArgs false
def wts (num den : Int) : Nat → Int
 | 0 => 16777216
 | d + 1 => (wts num den d * den + num - 1) / num
section
variable {num den : Int}
end
end Go.Proofs.YtdpoppilnokniaaGreatDoor
namespace Go.Proofs.YtdpoppilnokniaaGreatDoor
open Go.RowKit Go.ChangeShapes Go.WideShapes Go.Deep
set_option linter.unusedVariables false
set_option linter.unusedSimpArgs false
set_option linter.unnecessarySimpa false
theorem Sl.ints {w : World} {ao : Option Addr} {n c : Nat} {W : Nat → Int} (h : Sl w 1 ao n c (nuR W)) (hn : 0 < n) : ∃ g o, ao = some ⟨g, o, none⟩ ∧ g < w.heap.size ∧ ∀ j, j < n → w.cell? ⟨g, o + j, none⟩ = some (.int .i64 (W j)) := by
 obtain ⟨g, o, rfl, h0⟩ := h.cell hn
 refine ⟨g, o, rfl, cell_lt (by have := h0 0 (by decide); exact this), fun j hj => ?_⟩
 obtain ⟨g', o', e, hc⟩ := h.cell hj
 cases e
 have := hc 0 (by decide)
 rw [Nat.mul_one, Nat.add_zero] at this
 exact this
def NOK (n : Nat) (W : Nat → Int) : Prop := 1 ≤ n ∧ n ≤ 33 ∧ ∀ i, i < n → 1 ≤ W i ∧ W i ≤ 16777216 ∧ (0 < i → W i ≤ W (i - 1))
set_option maxRecDepth 4000 in
set_option maxHeartbeats 4000000 in
theorem check32 (a : Option Addr) (n c : Nat) (W : Nat → Int) (w : World) (h : Sl w 1 a n c (nuR W)) :
   Calls Tryz.prog 32 #[.agg #[.slice a n c]] w fun e w' => (∃ r : Int, e = .returned (.int .i64 r) ∧ (r = 0 ↔ NOK n W)) ∧ Below w.heap.size w w' := by
 have hlm := h.hm
 have hlc := h.hc
 have B0 : Hid (Below w.heap.size w (w.alloc (.cells #[.slice a n c] 40))) := Lib.hid (by (repeat' (first | with_reducible (first | exact Below.refl _ _ | assumption | refine Below.drew ?_ | refine below_drewN ?_ _ | refine Below.alloc ?_ ?_ _ | refine Below.setCell ?_ ?_ _) | go_size)))
 have X0 := Lib.hid (al_at w (.cells #[.slice a n c] 40) rfl)
 obtain ⟨w1, hw1⟩ : ∃ w1, w1 = w.alloc (.cells #[.slice a n c] 40) := ⟨_, rfl⟩
 rw [← hw1] at B0 X0
 have HW1 := Lib.hid hw1
 have H := Lib.hid (h.below B0.out)
 clear h hw1
 have x0 := cell_at X0.out 0
 have zx := szs (block_lt X0.out)
 by_cases h0 : (n : Int) < 1
 · have t0 : decide ((n : Int) < 1) = true := decide_eq_true h0
   have t0n : decide (n = 0) = true := decide_eq_true (by omega)
   go_enter Tryz.func32, Tryz.ntmps32
   go_simp
   ((repeat ((fail_if_success (rw [← HW1.out])); go_step)); rw [← HW1.out])
   go_wp2_with fail
   go_returns
   exact ⟨⟨32, rfl, ⟨fun e => by omega, fun e => by have := e.1; omega⟩⟩, B0.out⟩
 have t0 : decide ((n : Int) < 1) = false := decide_eq_false h0
 have t0n : decide (n = 0) = false := decide_eq_false (by omega)
 by_cases h1 : (n : Int) > 33
 · have t1 : decide ((n : Int) > 33) = true := decide_eq_true h1
   have t1o : decide (33 < (n : Int)) = true := decide_eq_true h1
   go_enter Tryz.func32, Tryz.ntmps32
   go_simp
   ((repeat ((fail_if_success (rw [← HW1.out])); go_step)); rw [← HW1.out])
   go_wp2_with fail
   go_returns
   exact ⟨⟨32, rfl, ⟨fun e => by omega, fun e => by have := e.2.1; omega⟩⟩, B0.out⟩
 have t1 : decide ((n : Int) > 33) = false := decide_eq_false h1
 have t1o : decide (33 < (n : Int)) = false := decide_eq_false h1
 obtain ⟨g, o, rfl, hg, hcs⟩ := H.out.ints (by omega)
 have HCS := Lib.hid hcs
 clear hcs
 go_enter Tryz.func32, Tryz.ntmps32
 go_simp
 ((repeat ((fail_if_success (rw [← HW1.out])); go_step)); rw [← HW1.out])
 go_wp2_with fail
 clear HW1
 go_loopw [18] (fun s wr => ∃ j : Nat, s = .int .i64 j ∧ j ≤ n ∧ Hid (∀ i, i < j → 1 ≤ W i ∧ W i ≤ 16777216 ∧ (0 < i → W i ≤ W (i - 1))) ∧ wr = w1) (fun s _ => n - (intOf s).toNat)
 case atStart => exact ⟨0, rfl, Nat.zero_le _, Lib.hid (fun i hi => absurd hi (Nat.not_lt_zero _)), rfl⟩
 case round =>
   obtain ⟨j, rfl, hj, hok, rfl⟩ := hrel
   have HOK := hok
   clear hok
   by_cases hlt : j < n
   · have t3 : decide ((j : Int) < (n : Int)) = true := decide_eq_true (by omega)
     have t3n : decide (j < n) = true := decide_eq_true (by omega)
     have u0 := HCS.out j hlt
     by_cases k0 : W j < 1
     · have d0 : decide (W j < 1) = true := decide_eq_true k0
       go_wp2_with fail
       go_returns
       exact ⟨⟨32, rfl, ⟨fun e => by omega, fun e => by have := (e.2.2 j hlt).1; omega⟩⟩, B0.out⟩
     have d0 : decide (W j < 1) = false := decide_eq_false k0
     by_cases k1 : W j > 16777216
     · have d1 : decide (W j > 16777216) = true := decide_eq_true k1
       have d1o : decide (16777216 < W j) = true := decide_eq_true k1
       go_wp2_with fail
       go_returns
       exact ⟨⟨32, rfl, ⟨fun e => by omega, fun e => by have := (e.2.2 j hlt).2.1; omega⟩⟩, B0.out⟩
     have d1 : decide (W j > 16777216) = false := decide_eq_false k1
     have d1o : decide (16777216 < W j) = false := decide_eq_false k1
     by_cases k2 : (j : Int) > 0
     · have d2 : decide ((j : Int) > 0) = true := decide_eq_true k2
       have d2o : decide (0 < (j : Int)) = true := decide_eq_true k2
       have d2n : decide (0 < j) = true := decide_eq_true (by omega)
       obtain ⟨i, rfl⟩ : ∃ i, j = i + 1 := ⟨j - 1, by omega⟩
       have u1 := HCS.out i (by omega)
       have e1 : ((i + 1 : Nat) : Int) - 1 = (i : Int) := by omega
       by_cases k3 : W (i + 1) > W i
       · have d3 : decide (W (i + 1) > W i) = true := decide_eq_true k3
         have d3o : decide (W i < W (i + 1)) = true := decide_eq_true k3
         go_wp2_with fail
         go_returns
         exact ⟨⟨32, rfl, ⟨fun e => by omega, fun e => by have := (e.2.2 (i + 1) hlt).2.2 (by omega); rw [Nat.add_sub_cancel] at this; omega⟩⟩, B0.out⟩
       have d3 : decide (W (i + 1) > W i) = false := decide_eq_false k3
       have d3o : decide (W i < W (i + 1)) = false := decide_eq_false k3
       have HN : Hid (∀ l, l < i + 1 + 1 → 1 ≤ W l ∧ W l ≤ 16777216 ∧ (0 < l → W l ≤ W (l - 1))) := Lib.hid (fun l hl => by
         by_cases e : l = i + 1
         · subst e; exact ⟨by omega, by omega, fun _ => by rw [Nat.add_sub_cancel]; omega⟩
         · exact HOK.out l (by omega))
       go_wp2_with fail
       go_roundw
       case rel => exact ⟨i + 1 + 1, by go_num, by omega, HN, trivial⟩
       case measure => simp [intOf] <;> omega
     · have d2 : decide ((j : Int) > 0) = false := decide_eq_false k2
       have d2o : decide (0 < (j : Int)) = false := decide_eq_false k2
       have d2n : decide (0 < j) = false := decide_eq_false (by omega)
       have HN : Hid (∀ l, l < j + 1 → 1 ≤ W l ∧ W l ≤ 16777216 ∧ (0 < l → W l ≤ W (l - 1))) := Lib.hid (fun l hl => by
         by_cases e : l = j
         · subst e; exact ⟨by omega, by omega, fun q => by omega⟩
         · exact HOK.out l (by omega))
       go_wp2_with fail
       go_roundw
       case rel => exact ⟨j + 1, by go_num, by omega, HN, trivial⟩
       case measure => simp [intOf] <;> omega
   · have t3 : decide ((j : Int) < (n : Int)) = false := decide_eq_false (by omega)
     have t3n : decide (j < n) = false := decide_eq_false (by omega)
     obtain rfl : j = n := by omega
     go_wp2_with fail
     go_returns
     exact ⟨⟨0, rfl, ⟨fun _ => ⟨by omega, by omega, HOK.out⟩, fun _ => rfl⟩⟩, B0.out⟩
def rtE (num den : Int) : Bool := decide (den ≥ 1) && (decide (den ≤ num) && decide (num ≤ 1024))
end Go.Proofs.YtdpoppilnokniaaGreatDoor
namespace Go.Proofs.YtdpoppilnokniaaGreatDoor
open Go.RowKit Go.ChangeShapes Go.WideShapes Go.Deep
set_option linter.unusedVariables false
set_option linter.unusedSimpArgs false
set_option linter.unnecessarySimpa false
def Sgn (w : World) : Prop := w.cell? ⟨0, 0, none⟩ = some (.int .i64 (-1)) ∧ w.cell? ⟨0, 1, none⟩ = some (.int .i64 1)
theorem Sgn.below {w w' : World} (h : Sgn w) (hb : Below w.heap.size w w') : Sgn w' := ⟨cell_kept hb h.1, cell_kept hb h.2⟩
theorem ix0 (w : World) : (Instr.index 48 (.agg #[.int .i64 (-1), .int .i64 1]) (.int .i64 0)).run Tryz.prog w = .ok (.int .i64 (-1)) w := by kernel_rfl
theorem ix1 (w : World) : (Instr.index 48 (.agg #[.int .i64 (-1), .int .i64 1]) (.int .i64 1)).run Tryz.prog w = .ok (.int .i64 1) w := by kernel_rfl
def wtE (n : Nat) (W : Nat → Int) (v : Int) : Int := if v.natAbs < n then W v.natAbs else 0
set_option maxRecDepth 4000 in
set_option maxHeartbeats 4000000 in
theorem weight54 (a : Option Addr) (n c : Nat) (W : Nat → Int) (v : Int) (w : World) (h : Sl w 1 a n c (nuR W)) (hs : Sgn w) (hv : -4000000 ≤ v ∧ v ≤ 4000000) :
   Calls Tryz.prog 54 #[.agg #[.slice a n c], .int .i64 v] w fun e w' => e = .returned (.int .i64 (wtE n W v)) ∧ Below w.heap.size w w' := by
 have hlm := h.hm
 have hlc := h.hc
 have B0 : Hid (Below w.heap.size w (w.alloc (.cells #[.slice a n c] 40))) := Lib.hid (by (repeat' (first | with_reducible (first | exact Below.refl _ _ | assumption | refine Below.drew ?_ | refine below_drewN ?_ _ | refine Below.alloc ?_ ?_ _ | refine Below.setCell ?_ ?_ _) | go_size))); have X0 := Lib.hid (al_at w (.cells #[.slice a n c] 40) rfl); obtain ⟨w1, hw0⟩ : ∃ w1, w1 = w.alloc (.cells #[.slice a n c] 40) := ⟨_, rfl⟩; rw [← hw0] at B0 X0; have HW0 := Lib.hid hw0; clear hw0; have z0 := szs (block_lt X0.out); have x0_0 := cell_at X0.out 0
 have H := Lib.hid (h.below B0.out)
 obtain ⟨s0, s1⟩ := hs.below B0.out
 clear h hs
 have z0' := szs (cell_lt s0)
 try dsimp only at z0'
 have i0 := ix0 w1
 have i1 := ix1 w1
 have e1 : (1 : Int) * v = v := Int.one_mul v
 have e2 : (-1 : Int) * v = -v := by omega
 go_enter Tryz.func54, Tryz.ntmps54
 go_simp
 ((repeat ((fail_if_success (rw [← HW0.out])); go_step)); rw [← HW0.out])
 go_wp2_with fail
 go_loopw [9] (fun s wr => ∃ j : Nat, s = .int .i64 j ∧ j ≤ 2 ∧ Hid ((1 ≤ j → ¬ (-v ≥ 0 ∧ -v < (n : Int))) ∧ (2 ≤ j → ¬ (v ≥ 0 ∧ v < (n : Int)))) ∧ wr = w1) (fun s _ => 2 - (intOf s).toNat)
 case atStart => exact ⟨0, rfl, by omega, Lib.hid ⟨fun q => absurd q (by omega), fun q => absurd q (by omega)⟩, rfl⟩
 case round =>
   obtain ⟨j, rfl, hj, hok, rfl⟩ := hrel
   have HOK := hok
   clear hok
   rcases (by omega : j = 0 ∨ j = 1 ∨ j = 2) with rfl | rfl | rfl
   · by_cases k0 : -v ≥ 0 ∧ -v < (n : Int)
     · have d0 : decide (-v ≥ 0) = true := decide_eq_true k0.1
       have d0o : decide (0 ≤ -v) = true := decide_eq_true k0.1
       have d0p : decide (v ≤ 0) = true := decide_eq_true (by omega)
       have d1 : decide (-v < (n : Int)) = true := decide_eq_true k0.2
       obtain ⟨g, o, rfl, hg, hcs⟩ := H.out.ints (by omega)
       have u0 := hcs v.natAbs (by omega)
       obtain ⟨m, rfl⟩ : ∃ m : Nat, v = -(m : Int) := ⟨v.natAbs, by omega⟩
       have em : (-(m : Int)).natAbs = m := by omega
       rw [em] at u0
       have en : -(-(m : Int)) = (m : Int) := by omega
       have e3 : (-1 : Int) * -(m : Int) = (m : Int) := by omega
       have HEM := Lib.hid em
       clear hcs e2 em
       go_wp2_with fail
       go_returns
       refine ⟨?_, B0.out⟩
       unfold wtE
       rw [if_pos (by omega), HEM.out]
       rfl
     · have HN : Hid ((1 ≤ 0 + 1 → ¬ (-v ≥ 0 ∧ -v < (n : Int))) ∧ (2 ≤ 0 + 1 → ¬ (v ≥ 0 ∧ v < (n : Int)))) := Lib.hid ⟨fun _ => k0, fun q => absurd q (by omega)⟩
       by_cases k1 : -v ≥ 0
       · have d0 : decide (-v ≥ 0) = true := decide_eq_true k1
         have d0o : decide (0 ≤ -v) = true := decide_eq_true k1
         have d0p : decide (v ≤ 0) = true := decide_eq_true (by omega)
         have d1 : decide (-v < (n : Int)) = false := decide_eq_false (fun q => k0 ⟨k1, q⟩)
         clear k0
         go_wp2_with fail
         go_roundw
         case rel => exact ⟨1, by go_num, by omega, HN, trivial⟩
         case measure => simp [intOf] <;> omega
       · have d0 : decide (-v ≥ 0) = false := decide_eq_false k1
         have d0o : decide (0 ≤ -v) = false := decide_eq_false k1
         have d0p : decide (v ≤ 0) = false := decide_eq_false (by omega)
         clear k0
         go_wp2_with fail
         go_roundw
         case rel => exact ⟨1, by go_num, by omega, HN, trivial⟩
         case measure => simp [intOf] <;> omega
   · by_cases k0 : v ≥ 0 ∧ v < (n : Int)
     · have d0 : decide (v ≥ 0) = true := decide_eq_true k0.1
       have d0o : decide (0 ≤ v) = true := decide_eq_true k0.1
       have d1 : decide (v < (n : Int)) = true := decide_eq_true k0.2
       obtain ⟨g, o, rfl, hg, hcs⟩ := H.out.ints (by omega)
       have u0 := hcs v.natAbs (by omega)
       obtain ⟨m, rfl⟩ : ∃ m : Nat, v = (m : Int) := ⟨v.natAbs, by omega⟩
       rw [Int.natAbs_natCast] at u0
       have d1n : decide (m < n) = true := decide_eq_true (by omega)
       clear hcs e2
       go_wp2_with fail
       go_returns
       refine ⟨?_, B0.out⟩
       unfold wtE
       rw [if_pos (by omega), Int.natAbs_natCast]
       rfl
     · have HN : Hid ((1 ≤ 1 + 1 → ¬ (-v ≥ 0 ∧ -v < (n : Int))) ∧ (2 ≤ 1 + 1 → ¬ (v ≥ 0 ∧ v < (n : Int)))) := Lib.hid ⟨fun _ => HOK.out.1 (by omega), fun _ => k0⟩
       by_cases k1 : v ≥ 0
       · have d0 : decide (v ≥ 0) = true := decide_eq_true k1
         have d0o : decide (0 ≤ v) = true := decide_eq_true k1
         have d1 : decide (v < (n : Int)) = false := decide_eq_false (fun q => k0 ⟨k1, q⟩)
         clear k0
         go_wp2_with fail
         go_roundw
         case rel => exact ⟨2, by go_num, by omega, HN, trivial⟩
         case measure => simp [intOf] <;> omega
       · have d0 : decide (v ≥ 0) = false := decide_eq_false k1
         have d0o : decide (0 ≤ v) = false := decide_eq_false k1
         clear k0
         go_wp2_with fail
         go_roundw
         case rel => exact ⟨2, by go_num, by omega, HN, trivial⟩
         case measure => simp [intOf] <;> omega
   · have t3 : decide ((2 : Int) < 2) = false := decide_eq_false (by omega)
     go_wp2_with fail
     go_returns
     exact ⟨by unfold wtE; have h1 := HOK.out.1 (by omega); have h2 := HOK.out.2 (by omega); rw [if_neg (by omega)]; rfl, B0.out⟩
def WtE (n : Nat) (W : Nat → Int) (v : Int) (ok : Prop) (r : Int) : Prop := (ok → r = wtE n W v) ∧ (¬ ok → r = 0)
end Go.Proofs.YtdpoppilnokniaaGreatDoor
