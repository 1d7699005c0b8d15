/- Theorems of this seat. -/
import Derived.Test.YtdpoppilnokniaaGreatDoorYNSB
import Derived.Test.YtdpoppilnokniaaGreatDoorYLYP
import Derived.ScopeJumps
import Derived.WalkMore
import Derived.Laws.BitsAll
import Derived.Laws.BitsAllLaws
import Derived.Laws.Bits64
import Derived.Laws.Bits64b
import Derived.Laws.ShiftsVar
import Derived.Laws.ShiftsVarLaws
namespace Go.Proofs.YtdpoppilnokniaaGreatDoor
open Go.RowKit Go.ChangeShapes Go.WideShapes Go.Deep
set_option linter.unusedVariables false
set_option linter.unusedSimpArgs false
set_option linter.unnecessarySimpa false
def u6R (U : Nat → Int) : Nat → List Value := fun i => [.int .u64 (U i)]
theorem wrapU (x : Int) : 0 ≤ IntKind.u64.wrap x ∧ IntKind.u64.wrap x < 18446744073709551616 := by
 have : IntKind.u64.wrap x = x % 18446744073709551616 := by first | rfl | simp [IntKind.wrap]
 rw [this]; omega
theorem andU {a b : Int} (ha : 0 ≤ a ∧ a ≤ 18446744073709551615) (hb : 0 ≤ b ∧ b < 18446744073709551616) : 0 ≤ bits .and .u64 a b ∧ bits .and .u64 a b ≤ a := by
 obtain ⟨x, rfl⟩ : ∃ x : Nat, a = x := ⟨a.toNat, by omega⟩
 obtain ⟨y, rfl⟩ : ∃ y : Nat, b = y := ⟨b.toNat, by omega⟩
 rw [bits_and_u64_nat x y (by omega) (by omega)]
 have : x &&& y ≤ x := Nat.and_le_left
 omega
set_option maxRecDepth 8000 in
set_option maxHeartbeats 4000000 in
theorem Below47 (a : Option Addr) (m c : Nat) (U : Nat → Int) (n : Int) (w : World) (h : Sl w 1 a m c (u6R U)) (hU : ∀ i, i < m → 0 ≤ U i ∧ U i ≤ 18446744073709551615) (hn : 1 ≤ n ∧ n ≤ 2000000000) :
   Calls Tryz.prog 47 #[.slice a m c, .int .i64 n] w fun e w' => (∃ x u r : Int, e = .returned (.tuple #[.int .i64 x, .int .i64 u, .int .i64 r]) ∧ (r = 0 → 0 ≤ x ∧ x < n ∧ 1 ≤ u ∧ u ≤ m) ∧ (0 < m → U 0 < n → r = 0)) ∧ w' = w := by
 have hlm := h.hm
 have hlc := h.hc
 have d0 : decide (n < 1) = false := decide_eq_false (by omega)
 have d1 : decide (n > 1125899906842624) = false := decide_eq_false (by omega)
 have d1o : decide (1125899906842624 < n) = false := decide_eq_false (by omega)
 have CL := Lib.hid (fun (x : Int) (h0 : 0 ≤ x) (h1 : x ≤ 18446744073709551615) => Any.bits_Len64 len67 x w h0 h1)
 obtain ⟨K, hK⟩ : ∃ K, K = IntKind.u64.wrap (IntKind.u64.wrap (2 ^ min (Lib.bitLen (n.toNat - 1)) 64) - 1) := ⟨_, rfl⟩
 have hKb : 0 ≤ K ∧ K < 18446744073709551616 := by rw [hK]; exact wrapU _
 have HK := Lib.hid hK
 clear hK
 go_enter Tryz.func47, Tryz.ntmps47
 go_wp2_with fail
 refine wp_scope_jumps 0 (fun a' w' => w' = w ∧ ∃ (j : Nat) (u9 u10 u11 u12 u13 u14 u15 u16 u17 u18 u19 u20 u21 u22 u23 u24 u25 u26 u27 u28 u29 u30 u31 u32 u33 u34 u35 u36 u37 u38 u39 u40 : Value), a' = { tmps := #[.slice a m c, .int .i64 n, undef, undef, .int .i64 0, .int .i64 0, .int .i64 0, .int .u64 K, .int .i64 j, u9, u10, u11, u12, u13, u14, u15, u16, u17, u18, u19, u20, u21, u22, u23, u24, u25, u26, u27, u28, u29, u30, u31, u32, u33, u34, u35, u36, u37, u38, u39, u40], defers := [] } ∧ 1 ≤ j ∧ j ≤ m ∧ Hid (0 < m → n ≤ U 0)) (fun a' _ => m - (intOf (a'.tmps.getD 8 undef)).toNat) rfl ?_ ?_
 · go_wp2_with fail
   refine (CL.out _ (by omega) (by omega)).mono ?_
   rintro e w1 ⟨rfl, rfl⟩
   go_wp2_with fail
   go_step3
   rw [← HK.out]
   clear HK
   by_cases hlt : m = 0
   · subst hlt
     go_wp2_with fail
     simp only [Exit.jump]
     go_returns
     exact ⟨⟨_, _, _, rfl, fun e => by omega, fun e => by omega⟩, rfl⟩
   · have t0 : ((0 : Int) == (m : Int)) = false := by simp; omega
     have t0n : (0 == m) = false := by simp; omega
     have t0m : (m == 0) = false := by simp; omega
     obtain ⟨g, o, rfl, hc⟩ := h.cell (show 0 < m by omega)
     have hc : w1.cell? ⟨g, o, none⟩ = some (.int .u64 (U 0)) := by have := hc 0 (by decide); rw [Nat.zero_mul] at this; exact this
     have hz := szs (cell_lt hc)
     have hx := andU (hU 0 (by omega)) hKb
     obtain ⟨x, hxe⟩ : ∃ x, x = bits .and .u64 (U 0) K := ⟨_, rfl⟩
     rw [← hxe] at hx
     have HXE := Lib.hid hxe
     by_cases hge : n ≤ x
     · have d2 : decide (x ≥ n) = true := decide_eq_true hge
       have d2o : decide (n ≤ x) = true := decide_eq_true hge
       have HB : Hid (0 < m → n ≤ U 0) := Lib.hid (fun _ => by omega)
       clear hxe
       go_wp2_with (rw [← HXE.out])
       go_step3
       refine ⟨rfl, rfl, 1, _, _, _, _, _, _, _, _, _, _, _, _, _, _, _, _, _, _, _, _, _, _, _, _, _, _, _, _, _, _, _, _, rfl, by omega, by omega, HB⟩
     · have d2 : decide (x ≥ n) = false := decide_eq_false hge
       have d2o : decide (n ≤ x) = false := decide_eq_false hge
       have HX : Hid (0 ≤ x ∧ x < n) := Lib.hid ⟨hx.1, by omega⟩
       have hw : wrap64 x = x := by unfold wrap64; omega
       clear hxe
       go_wp2_with (rw [← HXE.out])
       simp only [Exit.jump]
       go_returns
       exact ⟨⟨_, _, _, rfl, fun _ => ⟨HX.out.1, HX.out.2, by omega, by omega⟩, fun _ _ => rfl⟩, rfl⟩
 · rintro a' w' ⟨rfl, j, u9, u10, u11, u12, u13, u14, u15, u16, u17, u18, u19, u20, u21, u22, u23, u24, u25, u26, u27, u28, u29, u30, u31, u32, u33, u34, u35, u36, u37, u38, u39, u40, rfl, hj1, hj, hb⟩
   by_cases hlt : (j : Int) = (m : Int)
   · have t0 : ((j : Int) == (m : Int)) = true := by simp [hlt]
     have t0n : (j == m) = true := by simp; omega
     go_wp2_with fail
     simp only [Exit.jump]
     go_returns
     exact ⟨⟨_, _, _, rfl, fun e => by omega, fun e1 e2 => by have := hb.out e1; omega⟩, rfl⟩
   · have t0 : ((j : Int) == (m : Int)) = false := by simp; omega
     have t0n : (j == m) = false := by simp; omega
     obtain ⟨g, o, rfl, hc⟩ := h.cell (show j < m by omega)
     have hc : w'.cell? ⟨g, o + j, none⟩ = some (.int .u64 (U j)) := by have := hc 0 (by decide); rw [Nat.mul_one, Nat.add_zero] at this; exact this
     have hx := andU (hU j (by omega)) hKb
     obtain ⟨x, hxe⟩ : ∃ x, x = bits .and .u64 (U j) K := ⟨_, rfl⟩
     rw [← hxe] at hx
     have HXE := Lib.hid hxe
     by_cases hge : n ≤ x
     · have d2 : decide (x ≥ n) = true := decide_eq_true hge
       have d2o : decide (n ≤ x) = true := decide_eq_true hge
       clear hxe
       go_wp2_with (rw [← HXE.out])
       go_step3
       refine ⟨rfl, ⟨rfl, j + 1, _, _, _, _, _, _, _, _, _, _, _, _, _, _, _, _, _, _, _, _, _, _, _, _, _, _, _, _, _, _, _, _, rfl, by omega, by omega, hb⟩, ?_⟩
       simp [intOf]
       omega
     · have d2 : decide (x ≥ n) = false := decide_eq_false hge
       have d2o : decide (n ≤ x) = false := decide_eq_false hge
       have HX : Hid (0 ≤ x ∧ x < n) := Lib.hid ⟨hx.1, by omega⟩
       have hw : wrap64 x = x := by unfold wrap64; omega
       clear hxe
       go_wp2_with (rw [← HXE.out])
       simp only [Exit.jump]
       go_returns
       exact ⟨⟨_, _, _, rfl, fun _ => ⟨HX.out.1, HX.out.2, by omega, by omega⟩, fun _ _ => rfl⟩, rfl⟩
end Go.Proofs.YtdpoppilnokniaaGreatDoor
