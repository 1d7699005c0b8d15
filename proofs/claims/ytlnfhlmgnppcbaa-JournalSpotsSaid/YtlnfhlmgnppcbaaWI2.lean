/- The reference's PutInt: a number's zigzag number, its bytes, bytes joined. -/
import Derived.Test.YtlnfhlmgnppcbaaWI1
namespace Go.Proofs.Ytlnfhlmgnppcbaa
open Go.RowKit Go.ChangeShapes Go.WideShapes Go.Deep
set_option linter.unusedVariables false
set_option linter.unusedSimpArgs false
theorem zigzag98 (m : Int) (w : World) (hm : inI m) : Calls Try.prog 98 #[.int .i64 m] w fun e w' => e = .returned (.int .u64 (zz m)) ∧ w = w' := by
  obtain ⟨m1, m2⟩ := hm
  by_cases h : m < 0
  · have HZ : Hid ((zz m : Int) = 2 * (-(m + 1)) + 1) := Lib.hid (by unfold zz; rw [if_pos h]; omega)
    go_enter Try.func98, Try.ntmps98
    go_wp2_with fail
    go_returns
    refine ⟨?_, rfl⟩
    rw [HZ.out]
    try (first | rfl | (congr 2; simp only [IntKind.wrap_u64, IntKind.wrap_i64]; omega))
  · have HZ : Hid ((zz m : Int) = 2 * m) := Lib.hid (by unfold zz; rw [if_neg h]; omega)
    go_enter Try.func98, Try.ntmps98
    go_wp2_with fail
    go_returns
    refine ⟨?_, rfl⟩
    rw [HZ.out]
    try (first | rfl | (congr 2; simp only [IntKind.wrap_u64, IntKind.wrap_i64]; omega))
theorem number75 (u : Nat) (w : World) (hu : u < 18446744073709551616) : Calls Try.prog 75 #[.int .u64 u] w fun e w' => e = .returned (.int .i64 (unzz u)) ∧ w = w' := by
  by_cases h : u % 2 = 1
  · have t1 : (((u : Int) % 2) == 1) = true := by simp; omega
    have HZ : Hid (unzz u = -((u : Int) / 2) - 1) := Lib.hid (by unfold unzz; rw [if_pos h]; omega)
    clear h
    go_enter Try.func75, Try.ntmps75
    go_wp2_with fail
    go_returns
    refine ⟨?_, rfl⟩
    rw [HZ.out]
    try (first | rfl | (congr 2; simp only [IntKind.wrap_u64, IntKind.wrap_i64]; omega))
  · have t1 : (((u : Int) % 2) == 1) = false := by simp; omega
    have HZ : Hid (unzz u = (u : Int) / 2) := Lib.hid (by unfold unzz; rw [if_neg h]; omega)
    clear h
    go_enter Try.func75, Try.ntmps75
    go_wp2_with fail
    go_returns
    refine ⟨?_, rfl⟩
    rw [HZ.out]
    try (first | rfl | (congr 2; simp only [IntKind.wrap_u64, IntKind.wrap_i64]; omega))
set_option maxRecDepth 2000 in
set_option maxHeartbeats 4000000 in
theorem code74 (m : Int) (w : World) (hm : inI m) : Calls Try.prog 74 #[.int .i64 m] w (Bytes w (codeN m)) := by
  obtain ⟨i0, hi0, hz0, hz1, hz2⟩ := info_parts info_u8
  have CZ := Lib.hid (zigzag98 m w hm)
  obtain ⟨m1, m2⟩ := hm
  obtain ⟨z, hz⟩ : ∃ z, z = zz m := ⟨_, rfl⟩
  have hzl : z < 18446744073709551616 := by rw [hz]; exact zz_lt m1 m2
  rw [← hz] at CZ
  have HC : Hid (codeN m = codeU z) := Lib.hid (by rw [hz]; rfl)
  have HLEN := Lib.hid (codeN_len m1 m2)
  clear hz
  go_enter Try.func74, Try.ntmps74
  go_wp2_with fail
  refine CZ.out.mono ?_
  rintro e w1 ⟨rfl, rfl⟩
  go_wp2_with fail
  go_loopw [3, 4] (fun s3 s4 wr => ∃ (u k : Nat) (R : Nat → Nat), s4 = .int .u64 u ∧ u < 18446744073709551616 ∧ k ≤ 10 ∧ Hid (ents R k ++ codeU u = codeN m ∧ BRow wr w.heap.size s3 k R ∧ Below w.heap.size w wr)) (fun _ s4 _ => (intOf s4).toNat)
  case atStart => exact ⟨z, 0, fun _ => 0, rfl, hzl, by omega, Lib.hid ⟨HC.out.symm, ⟨rfl, .inl ⟨rfl, rfl⟩⟩, by (repeat' (first | (with_reducible exact Below.refl _ _) | (with_reducible assumption) | (with_reducible refine Below.drew ?_) | (with_reducible refine below_drewN ?_ _) | (with_reducible refine Below.alloc ?_ ?_ _) | (with_reducible refine Below.setCell ?_ ?_ _) | go_size))⟩⟩
  case round =>
    obtain ⟨u, k, R, rfl, hu, hk, hrel⟩ := hrel
    have HREL := hrel
    clear hrel
    have hk10 : k < 10 := by
      have h1 := congrArg List.length HREL.out.1
      have h2 := HLEN.out
      have h3 := codeU_pos u
      simp only [List.length_append, ents_len] at h1
      omega
    have hsz := HREL.out.2.2.size
    by_cases hb : 128 ≤ u
    · have tb : (128 : Int) ≤ (u : Int) := by omega
      obtain ⟨x, hx⟩ : ∃ x, x = u % 128 + 128 := ⟨_, rfl⟩
      have LB : Hid (128 + (u : Int) % 128 = (x : Int)) := Lib.hid (by omega)
      have HX := Lib.hid hx
      have BA : Hid (Below wr.heap.size wr (wr.alloc (.cells #[.int .u8 (128 + (u : Int) % 128)] 5))) := Lib.hid (by (repeat' (first | (with_reducible exact Below.refl _ _) | (with_reducible assumption) | (with_reducible refine Below.drew ?_) | (with_reducible refine below_drewN ?_ _) | (with_reducible refine Below.alloc ?_ ?_ _) | (with_reducible refine Below.setCell ?_ ?_ _) | go_size)))
      clear hx
      go_wp2_with (at_builtin; go_loud (refine wpList_append_row _ rfl _ _ 22 rfl w.heap.size 5 i0 _ 1 1 Try.underlying22 hi0 hz0 hz1 hz2 rfl (by decide) _ k (bf R) rfl (Row.off (X := fun _ => False) HREL.out.2.1 (Off.of_below BA.out) (fun _ _ h => h)) (bf_len R) wr.heap.size 1 [.int .u8 (128 + (u : Int) % 128)] rfl rfl 5 (0, 0) (heap_alloc_new wr _) (byte_one _) (by omega) (by unfold maxLen; omega) (by have := BA.out.size; omega) ?_))
      intro g cap w2 h1 h2 h3 h4 _ hrow hbel
      rw [LB.out, bf_upd] at hrow
      have R2 := Lib.hid hrow
      have B2 := Lib.hid (HREL.out.2.2.trans ((BA.out.mono hsz).trans ((Off.of_grown hbel).toBelow (by have := BA.out.size; omega) (fun q hq hx => Row.apart' HREL.out.2.1 hq hx))))
      clear hrow hbel
      go_wp2_with fail
      go_roundw
      case rel =>
        refine ⟨u / 128, k + 1, upd R k x, by go_num, by omega, by omega, Lib.hid ⟨?_, R2.out, B2.out⟩⟩
        rw [ents_push, ← HREL.out.1, codeU_big (u := u) (by omega), ← HX.out]; simp
      case measure => simp [intOf]; omega
    · have tb : (u : Int) < (128 : Int) := by omega
      have WB : (u : Int) % 256 = (u : Int) := by omega
      have BA : Hid (Below wr.heap.size wr (wr.alloc (.cells #[.int .u8 (u : Int)] 5))) := Lib.hid (by (repeat' (first | (with_reducible exact Below.refl _ _) | (with_reducible assumption) | (with_reducible refine Below.drew ?_) | (with_reducible refine below_drewN ?_ _) | (with_reducible refine Below.alloc ?_ ?_ _) | (with_reducible refine Below.setCell ?_ ?_ _) | go_size)))
      go_wp2_with (at_builtin; go_loud (refine wpList_append_row _ rfl _ _ 22 rfl w.heap.size 5 i0 _ 1 1 Try.underlying22 hi0 hz0 hz1 hz2 rfl (by decide) _ k (bf R) rfl (Row.off (X := fun _ => False) HREL.out.2.1 (Off.of_below BA.out) (fun _ _ h => h)) (bf_len R) wr.heap.size 1 [.int .u8 (u : Int)] rfl rfl 5 (0, 0) (heap_alloc_new wr _) (byte_one _) (by omega) (by unfold maxLen; omega) (by have := BA.out.size; omega) ?_))
      intro g cap w2 h1 h2 h3 h4 _ hrow hbel
      rw [bf_upd] at hrow
      have R2 := Lib.hid hrow
      have B2 := Lib.hid (HREL.out.2.2.trans ((BA.out.mono hsz).trans ((Off.of_grown hbel).toBelow (by have := BA.out.size; omega) (fun q hq hx => Row.apart' HREL.out.2.1 hq hx))))
      clear hrow hbel
      go_wp2_with fail
      go_returns
      refine ⟨_, k + 1, upd R k u, rfl, ?_, R2.out, B2.out⟩
      rw [ents_push, ← HREL.out.1, codeU_small (u := u) (by omega)]
theorem cat_bf (A : Nat → Nat) (n : Nat) (B : Nat → Nat) : cat (bf A) n (bf B) = bf (fun i => if i < n then A i else B (i - n)) := by
  funext i
  unfold cat bf
  dsimp only
  split <;> rfl
theorem ents_cat {E : Type} (A : Nat → E) (n m : Nat) (B : Nat → E) : ents (fun i => if i < n then A i else B (i - n)) (n + m) = ents A n ++ ents B m := by
  apply List.ext_getElem?
  intro q
  by_cases h1 : q < n
  · rw [ents_get (by omega), List.getElem?_append_left (by rw [ents_len]; omega), ents_get h1]; simp [h1]
  · rw [List.getElem?_append_right (by rw [ents_len]; omega), ents_len]
    by_cases h2 : q < n + m
    · rw [ents_get h2, ents_get (by omega)]; simp [h1]
    · rw [List.getElem?_eq_none (by rw [ents_len]; omega), List.getElem?_eq_none (by rw [ents_len]; omega)]
set_option maxRecDepth 2000 in
set_option maxHeartbeats 4000000 in
theorem joined73 (a1 : Option Addr) (n1 c1 : Nat) (A : Nat → Nat) (a2 : Option Addr) (n2 c2 : Nat) (B : Nat → Nat) (w : World) (h1 : BSl w a1 n1 c1 A) (h2 : BSl w a2 n2 c2 B) (hn : n1 + n2 ≤ 2000000) : Calls Try.prog 73 #[.slice a1 n1 c1, .slice a2 n2 c2] w (Bytes w (ents A n1 ++ ents B n2)) := by
  obtain ⟨i0, hi0, hz0, hz1, hz2⟩ := info_parts info_u8
  have H1 := Lib.hid h1
  have H2 := Lib.hid h2
  have R0 : Hid (Row w w.heap.size 5 1 (.slice none 0 0) 0 (bf A)) := Lib.hid ⟨rfl, .inl ⟨rfl, rfl⟩⟩
  clear h1 h2
  go_enter Try.func73, Try.ntmps73
  go_wp2_with (at_builtin; refine wpList_append_sl w rfl (.tmp 6) (.tmp 7) 22 rfl w.heap.size 5 i0 _ 1 1 Try.underlying22 hi0 hz0 hz1 hz2 rfl (by decide) _ 0 (bf A) rfl R0.out (bf_len A) a1 n1 c1 (bf A) rfl (bf_len A) H1.out.hno H1.out.sl (fun i => bf_one A i) (by omega) (by unfold maxLen; omega) (by omega) ?_)
  intro v1 w1 r1 g1 f1
  have B1 : Hid (Below w.heap.size w w1) := Lib.hid ((Off.of_grown g1).toBelow (Nat.le_refl _) (fun q hq h => by simp [Value.ownBlock] at h))
  have R1 : Hid (Row w1 w.heap.size 5 1 v1 n1 (bf A)) := Lib.hid (by
    exact Row.congr r1 fun i hi => by simp [cat])
  clear r1 g1 f1
  go_wp2_with (at_builtin; refine wpList_append_sl w1 rfl (.tmp 9) (.tmp 10) 22 rfl w.heap.size 5 i0 _ 1 1 Try.underlying22 hi0 hz0 hz1 hz2 rfl (by decide) _ n1 (bf A) rfl R1.out (bf_len A) a2 n2 c2 (bf B) rfl (bf_len B) H2.out.hno (H2.out.sl.below (bf_len B) B1.out) (fun i => bf_one B i) (by omega) (by unfold maxLen; omega) B1.out.size ?_)
  intro v2 w2 r2 g2 f2
  rw [cat_bf] at r2
  have R2 := Lib.hid r2
  have B2 : Hid (Below w.heap.size w w2) := Lib.hid (B1.out.trans ((Off.of_grown g2).toBelow B1.out.size (fun q hq h => R1.out.apart' hq h)))
  clear r2 g2 f2
  go_wp2_with fail
  go_returns
  exact ⟨_, n1 + n2, _, rfl, ents_cat A n1 n2 B, R2.out, B2.out⟩
set_option maxRecDepth 2000 in
set_option maxHeartbeats 4000000 in
theorem putInt52 (ao : Option Addr) (n c : Nat) (B : Nat → Nat) (m : Int) (w : World) (h : BSl w ao n c B) (hn : n ≤ 1000000) (hm : inI m) : Calls Try.prog 52 #[.slice ao n c, .int .i64 m] w (Bytes w (ents B n ++ codeN m)) := by
  have CC := Lib.hid (code74 m w hm)
  have HS := Lib.hid h
  have HLEN := Lib.hid (codeN_len hm.1 hm.2)
  clear h
  go_enter Try.func52, Try.ntmps52
  go_wp2_with fail
  refine CC.out.mono ?_
  rintro e w1 ⟨v, k, R, rfl, hR, hrow, hbel⟩
  obtain ⟨bo, bc, rfl, S1⟩ := BRow.toSl hrow
  have hk : k ≤ 10 := by
    have h1 := congrArg List.length hR
    rw [ents_len] at h1
    have := HLEN.out; omega
  have CJ := Lib.hid (joined73 ao n c B bo k bc R w1 (HS.out.below hbel) S1 (by omega))
  have B1 := Lib.hid hbel
  have HR := Lib.hid hR
  clear hR hrow hbel S1 CC
  go_wp2_with fail
  refine CJ.out.mono ?_
  rintro e w2 ⟨v, k2, R2, rfl, hR2, hrow, hbel⟩
  have B2 := Lib.hid (B1.out.trans (hbel.mono B1.out.size))
  have HROW := Lib.hid (Row.base_mono hrow B1.out.size)
  have HR2 := Lib.hid hR2
  clear hR2 hrow hbel CJ
  go_wp2_with fail
  go_returns
  exact ⟨_, k2, R2, rfl, by rw [HR2.out, HR.out], HROW.out, B2.out⟩
end Go.Proofs.Ytlnfhlmgnppcbaa
