/- The program's PutInt: a number's bytes behind a copy of bytes. -/
import Derived.Test.YtlnfhlmgnppcbaaProg
import Derived.Test.YtlnfhlmgnppcbaaBB
import Derived.Test.YtlnfhlmgnppcbaaBA
import Derived.Test.YtlnfhlmgnppcbaaBC
import Derived.BigQuiet
import Derived.WalkLawsBesides
import Derived.BigRegion
namespace Go.Proofs.Ytlnfhlmgnppcbaa
open Go.RowKit Go.ChangeShapes Go.WideShapes Go.Deep
set_option linter.unusedVariables false
set_option linter.unusedSimpArgs false
/-- Bytes in memory. -/
def bf (B : Nat → Nat) : Nat → List Value := fun i => [.int .u8 (B i)]
theorem bf_len (B : Nat → Nat) (i : Nat) : (bf B i).length = 1 := rfl
theorem bf_one (B : Nat → Nat) (i : Nat) : ∀ u ∈ bf B i, u.oneCell' = true := by intro u hu; simp [bf] at hu; subst hu; rfl
theorem byte_one (x : Int) : ∀ u ∈ [Value.int .u8 x], u.oneCell' = true := by intro u hu; simp at hu; subst hu; rfl
abbrev BSl (w : World) (ao : Option Addr) (n c : Nat) (B : Nat → Nat) : Prop := Sl w 1 ao n c (bf B)
abbrev BRow (w : World) (base : Nat) (v : Value) (n : Nat) (B : Nat → Nat) : Prop := Row w base 5 1 v n (bf B)
theorem BRow.toSl {w : World} {base n : Nat} {v : Value} {B : Nat → Nat} (h : BRow w base v n B) : ∃ ao c, v = .slice ao n c ∧ BSl w ao n c B := Row.toSl h (bf_len B)
theorem bf_upd (R : Nat → Nat) (k x : Nat) : upd (bf R) k [.int .u8 (x : Int)] = bf (upd R k x) := by
  funext i
  by_cases h : i = k
  · subst h; simp [bf, upd_same]
  · rw [upd_ne h]; unfold bf; rw [upd_ne h]
theorem info_u8 : (Try.prog.info? 5).map (fun i => (i.zero, i.size, i.bytes)) = some (some (.int .u8 0), 1, 1) := by kernel_rfl
/-- The call makes these bytes. -/
def Bytes (w : World) (l : List Nat) (e : Ending) (w' : World) : Prop := ∃ (v : Value) (k : Nat) (R : Nat → Nat), e = .returned v ∧ ents R k = l ∧ BRow w' w.heap.size v k R ∧ Below w.heap.size w w'
set_option maxRecDepth 2000 in
set_option maxHeartbeats 4000000 in
theorem putInt43 (ao : Option Addr) (n c : Nat) (B : Nat → Nat) (m : Int) (w : World) (h : BSl w ao n c B) (hn : n ≤ 1000000) (hm : inI m) : Calls Try.prog 43 #[.slice ao n c, .int .i64 m] w (Bytes w (ents B n ++ codeN m)) := by
  obtain ⟨i0, hi0, hz0, hz1, hz2⟩ := info_parts info_u8
  obtain ⟨m1, m2⟩ := hm
  have hmc := h.hm
  have hcc := h.hc
  have HS := Lib.hid h
  have ZB := zz_bits m1 m2
  obtain ⟨z, hz⟩ : ∃ z, z = zz m := ⟨_, rfl⟩
  have hzl : z < 18446744073709551616 := by rw [hz]; exact zz_lt m1 m2
  rw [← hz] at ZB
  have HC : Hid (codeN m = codeU z) := Lib.hid (by rw [hz]; rfl)
  have HLEN := Lib.hid (codeN_len m1 m2)
  clear h hz
  cases ao with
  | none =>
    obtain ⟨rfl, rfl⟩ := HS.out.hno rfl
    go_enter Try.func43, Try.ntmps43
    go_wp2_with fail
    have hn0 : (0 : Nat) ≤ 1000000 := by omega
    go_loopw [5, 6] (fun s5 s6 wr => ∃ (u k : Nat) (R : Nat → Nat), s6 = .int .u64 u ∧ u < 18446744073709551616 ∧ k ≤ 1000010 ∧ Hid (ents R k ++ codeU u = ents B 0 ++ codeN m ∧ App wr w.heap.size 5 1 s5 k (bf R) ∧ Below w.heap.size w wr)) (fun _ s6 _ => (intOf s6).toNat)
    case atStart => exact ⟨z, 0, B, rfl, hzl, by omega, Lib.hid ⟨by rw [HC.out], .inl ⟨by simp [flat], .inl ⟨rfl, rfl⟩⟩, by (repeat' (first | (with_reducible exact Below.refl _ _) | (with_reducible assumption) | (with_reducible refine Below.drew ?_) | (with_reducible refine below_drewN ?_ _) | (with_reducible refine Below.alloc ?_ ?_ _) | (with_reducible refine Below.setCell ?_ ?_ _) | go_size))⟩⟩
    case round =>
      obtain ⟨u, k, R, rfl, hu, hk, hrel⟩ := hrel
      have HREL := hrel
      clear hrel
      have hk10 : k < 0 + 10 := by
        have h1 := congrArg List.length HREL.out.1
        have h2 := HLEN.out
        have h3 := codeU_pos u
        simp only [List.length_append, ents_len] at h1
        omega
      have hsz := HREL.out.2.2.size
      by_cases hb : 128 ≤ u
      · have tb : (128 : Int) ≤ (u : Int) := by omega
        have LB := low_or u
        rw [IntKind.wrap_u8] at LB
        obtain ⟨x, hx⟩ : ∃ x, x = u % 128 + 128 := ⟨_, rfl⟩
        rw [← hx] at LB
        have HX := Lib.hid hx
        have BA : Hid (Below wr.heap.size wr (wr.alloc (.cells #[.int .u8 (x : Int)] 5))) := Lib.hid (by (repeat' (first | (with_reducible exact Below.refl _ _) | (with_reducible assumption) | (with_reducible refine Below.drew ?_) | (with_reducible refine below_drewN ?_ _) | (with_reducible refine Below.alloc ?_ ?_ _) | (with_reducible refine Below.setCell ?_ ?_ _) | go_size)))
        clear hx
        go_wp2_with (at_builtin; go_loud (refine wpList_append_app _ rfl _ _ 22 rfl w.heap.size 5 i0 _ 1 1 Try.underlying22 hi0 hz0 hz1 hz2 rfl (by decide) _ k (bf R) rfl (HREL.out.2.1.below (bf_len R) BA.out) (bf_len R) wr.heap.size 1 [.int .u8 (x : Int)] rfl rfl 5 (0, 0) (heap_alloc_new wr _) (byte_one _) (by omega) (by unfold maxLen; omega) (by have := BA.out.size; omega) ?_))
        intro g cap w2 h1 h2 h3 h4 hrow hbel
        rw [bf_upd] at hrow
        have R2 := Lib.hid hrow
        have B2 := Lib.hid (HREL.out.2.2.trans ((BA.out.mono hsz).trans hbel))
        clear hrow hbel
        go_wp2_with fail
        go_roundw
        case rel =>
          refine ⟨u / 128, k + 1, upd R k x, by go_num, by omega, by omega, Lib.hid ⟨?_, .inl R2.out, B2.out⟩⟩
          rw [ents_push, ← HREL.out.1, codeU_big (u := u) (by omega), ← HX.out]; simp
        case measure => simp [intOf]; omega
      · have tb : (u : Int) < (128 : Int) := by omega
        have WB : (u : Int) % 256 = (u : Int) := by omega
        have BA : Hid (Below wr.heap.size wr (wr.alloc (.cells #[.int .u8 (u : Int)] 5))) := Lib.hid (by (repeat' (first | (with_reducible exact Below.refl _ _) | (with_reducible assumption) | (with_reducible refine Below.drew ?_) | (with_reducible refine below_drewN ?_ _) | (with_reducible refine Below.alloc ?_ ?_ _) | (with_reducible refine Below.setCell ?_ ?_ _) | go_size)))
        go_wp2_with (at_builtin; go_loud (refine wpList_append_app _ rfl _ _ 22 rfl w.heap.size 5 i0 _ 1 1 Try.underlying22 hi0 hz0 hz1 hz2 rfl (by decide) _ k (bf R) rfl (HREL.out.2.1.below (bf_len R) BA.out) (bf_len R) wr.heap.size 1 [.int .u8 (u : Int)] rfl rfl 5 (0, 0) (heap_alloc_new wr _) (byte_one _) (by omega) (by unfold maxLen; omega) (by have := BA.out.size; omega) ?_))
        intro g cap w2 h1 h2 h3 h4 hrow hbel
        rw [bf_upd] at hrow
        have R2 := Lib.hid hrow
        have B2 := Lib.hid (HREL.out.2.2.trans ((BA.out.mono hsz).trans hbel))
        clear hrow hbel
        go_wp2_with fail
        go_returns
        refine ⟨_, k + 1, upd R k u, rfl, ?_, R2.out, B2.out⟩
        rw [ents_push, ← HREL.out.1, codeU_small (u := u) (by omega)]
  | some a =>
    go_enter Try.func43, Try.ntmps43
    go_wp2_with fail
    go_loopw [5, 6] (fun s5 s6 wr => ∃ (u k : Nat) (R : Nat → Nat), s6 = .int .u64 u ∧ u < 18446744073709551616 ∧ k ≤ 1000010 ∧ Hid (ents R k ++ codeU u = ents B n ++ codeN m ∧ App wr w.heap.size 5 1 s5 k (bf R) ∧ Below w.heap.size w wr)) (fun _ s6 _ => (intOf s6).toNat)
    case atStart => exact ⟨z, n, B, rfl, hzl, by omega, Lib.hid ⟨by rw [HC.out], .inr ⟨some a, rfl, HS.out.sl, fun h => by cases h⟩, by (repeat' (first | (with_reducible exact Below.refl _ _) | (with_reducible assumption) | (with_reducible refine Below.drew ?_) | (with_reducible refine below_drewN ?_ _) | (with_reducible refine Below.alloc ?_ ?_ _) | (with_reducible refine Below.setCell ?_ ?_ _) | go_size))⟩⟩
    case round =>
      obtain ⟨u, k, R, rfl, hu, hk, hrel⟩ := hrel
      have HREL := hrel
      clear hrel
      have hk10 : k < n + 10 := by
        have h1 := congrArg List.length HREL.out.1
        have h2 := HLEN.out
        have h3 := codeU_pos u
        simp only [List.length_append, ents_len] at h1
        omega
      have hsz := HREL.out.2.2.size
      by_cases hb : 128 ≤ u
      · have tb : (128 : Int) ≤ (u : Int) := by omega
        have LB := low_or u
        rw [IntKind.wrap_u8] at LB
        obtain ⟨x, hx⟩ : ∃ x, x = u % 128 + 128 := ⟨_, rfl⟩
        rw [← hx] at LB
        have HX := Lib.hid hx
        have BA : Hid (Below wr.heap.size wr (wr.alloc (.cells #[.int .u8 (x : Int)] 5))) := Lib.hid (by (repeat' (first | (with_reducible exact Below.refl _ _) | (with_reducible assumption) | (with_reducible refine Below.drew ?_) | (with_reducible refine below_drewN ?_ _) | (with_reducible refine Below.alloc ?_ ?_ _) | (with_reducible refine Below.setCell ?_ ?_ _) | go_size)))
        clear hx
        go_wp2_with (at_builtin; go_loud (refine wpList_append_app _ rfl _ _ 22 rfl w.heap.size 5 i0 _ 1 1 Try.underlying22 hi0 hz0 hz1 hz2 rfl (by decide) _ k (bf R) rfl (HREL.out.2.1.below (bf_len R) BA.out) (bf_len R) wr.heap.size 1 [.int .u8 (x : Int)] rfl rfl 5 (0, 0) (heap_alloc_new wr _) (byte_one _) (by omega) (by unfold maxLen; omega) (by have := BA.out.size; omega) ?_))
        intro g cap w2 h1 h2 h3 h4 hrow hbel
        rw [bf_upd] at hrow
        have R2 := Lib.hid hrow
        have B2 := Lib.hid (HREL.out.2.2.trans ((BA.out.mono hsz).trans hbel))
        clear hrow hbel
        go_wp2_with fail
        go_roundw
        case rel =>
          refine ⟨u / 128, k + 1, upd R k x, by go_num, by omega, by omega, Lib.hid ⟨?_, .inl R2.out, B2.out⟩⟩
          rw [ents_push, ← HREL.out.1, codeU_big (u := u) (by omega), ← HX.out]; simp
        case measure => simp [intOf]; omega
      · have tb : (u : Int) < (128 : Int) := by omega
        have WB : (u : Int) % 256 = (u : Int) := by omega
        have BA : Hid (Below wr.heap.size wr (wr.alloc (.cells #[.int .u8 (u : Int)] 5))) := Lib.hid (by (repeat' (first | (with_reducible exact Below.refl _ _) | (with_reducible assumption) | (with_reducible refine Below.drew ?_) | (with_reducible refine below_drewN ?_ _) | (with_reducible refine Below.alloc ?_ ?_ _) | (with_reducible refine Below.setCell ?_ ?_ _) | go_size)))
        go_wp2_with (at_builtin; go_loud (refine wpList_append_app _ rfl _ _ 22 rfl w.heap.size 5 i0 _ 1 1 Try.underlying22 hi0 hz0 hz1 hz2 rfl (by decide) _ k (bf R) rfl (HREL.out.2.1.below (bf_len R) BA.out) (bf_len R) wr.heap.size 1 [.int .u8 (u : Int)] rfl rfl 5 (0, 0) (heap_alloc_new wr _) (byte_one _) (by omega) (by unfold maxLen; omega) (by have := BA.out.size; omega) ?_))
        intro g cap w2 h1 h2 h3 h4 hrow hbel
        rw [bf_upd] at hrow
        have R2 := Lib.hid hrow
        have B2 := Lib.hid (HREL.out.2.2.trans ((BA.out.mono hsz).trans hbel))
        clear hrow hbel
        go_wp2_with fail
        go_returns
        refine ⟨_, k + 1, upd R k u, rfl, ?_, R2.out, B2.out⟩
        rw [ents_push, ← HREL.out.1, codeU_small (u := u) (by omega)]
end Go.Proofs.Ytlnfhlmgnppcbaa
