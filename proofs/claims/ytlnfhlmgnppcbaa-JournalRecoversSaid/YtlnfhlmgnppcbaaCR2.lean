/- The tail's four bytes. -/
import Derived.Test.YtlnfhlmgnppcbaaCR1
namespace Go.Proofs.Ytlnfhlmgnppcbaa
open Go.RowKit Go.ChangeShapes Go.WideShapes Go.Deep
set_option linter.unusedVariables false
set_option linter.unusedSimpArgs false
def tailF (n : Nat) : Nat → Nat := fun i => if i = 0 then n % 256 else if i = 1 then n / 256 % 256 else if i = 2 then n / 65536 % 256 else n / 16777216 % 256
theorem tail_ents (n : Nat) : ents (tailF n) 4 = tailB n := by simp [ents, tailF, tailB, List.range_succ]
/-- The block of the four bytes. -/
theorem tail_row {w0 w1 : World} (hb : Below w0.heap.size w0 w1) {s : Nat} (hs : s < 4294967296) {c0 c1 c2 c3 : Int} (e0 : c0 = ((s % 256 : Nat) : Int)) (e1 : c1 = ((s / 256 % 256 : Nat) : Int)) (e2 : c2 = ((s / 65536 % 256 : Nat) : Int)) (e3 : c3 = ((s / 16777216 % 256 : Nat) : Int)) :
    Bytes w0 (tailB s) (.returned (.slice (some ⟨w1.heap.size, 0, none⟩) 4 4)) (w1.alloc (.cells #[.int .u8 c0, .int .u8 c1, .int .u8 c2, .int .u8 c3] 5)) := by
  subst e0 e1 e2 e3
  exact ⟨_, 4, tailF s, rfl, tail_ents s, Row.of_block (heap_alloc_new _ _) hb.size (bf_len _) (by simp [flat, bf, tailF, List.range_succ]) (by decide), hb.alloc hb.size _⟩
set_option maxRecDepth 4000 in
set_option maxHeartbeats 4000000 in
theorem tail44 (ao : Option Addr) (n c : Nat) (B : Nat → Nat) (w : World) (h : BSl w ao n c B) (hB : ∀ i, i < n → B i < 256) : Calls Try.prog 44 #[.slice ao n c] w (Bytes w (tailB (sumB (ents B n)))) := by
  obtain ⟨i0, hi0, hz0, hz1, hz2⟩ := info_parts info_u8
  have CS := Lib.hid (sum60 ao n c B w h hB)
  have hs := sumB_lt (ents B n)
  generalize sumB (ents B n) = s at *
  clear h hB
  go_enter Try.func44, Try.ntmps44
  go_wp2_with fail
  refine CS.out.mono ?_
  rintro e w1 ⟨rfl, b1⟩
  have B1 := Lib.hid b1
  clear CS b1
  go_wp2_with fail
  go_returns
  exact tail_row B1.out hs (by omega) (by omega) (by omega) (by omega)
set_option maxRecDepth 4000 in
set_option maxHeartbeats 4000000 in
theorem tail53 (s : Nat) (hs : s < 4294967296) (w : World) : Calls Try.prog 53 #[.int .i64 s] w (Bytes w (tailB s)) := by
  obtain ⟨i0, hi0, hz0, hz1, hz2⟩ := info_parts info_u8
  go_enter Try.func53, Try.ntmps53
  go_wp2_with fail
  go_returns
  exact tail_row (Below.refl _ _) hs (by omega) (by omega) (by omega) (by omega)
set_option maxRecDepth 4000 in
set_option maxHeartbeats 4000000 in
theorem sum54 (ao : Option Addr) (n c : Nat) (B : Nat → Nat) (w : World) (h : BSl w ao n c B) (hB : ∀ i, i < n → B i < 256) : Calls Try.prog 54 #[.slice ao n c] w fun e w' => e = .returned (.int .i64 (sumB (ents B n))) ∧ w' = w := by
  have hmc := h.hm
  have hcc := h.hc
  have HS := Lib.hid h
  have HB := Lib.hid hB
  clear h hB
  go_enter Try.func54, Try.ntmps54
  go_wp2_with fail
  go_loopw [3, 4] (fun s3 s4 wr => ∃ i : Nat, s4 = .int .i64 i ∧ i ≤ n ∧ s3 = .int .u64 ((crcS 4294967295 (ents B i) : Nat) : Int) ∧ wr = w) (fun _ s4 _ => n - (intOf s4).toNat)
  case atStart => exact ⟨0, rfl, by omega, rfl, rfl⟩
  case round =>
    obtain ⟨i, rfl, hi, rfl, rfl⟩ := hrel
    have hx : crcS 4294967295 (ents B i) < 4294967296 := crcS_lt _ (by decide) (fun c hc => by
      obtain ⟨q, hq, rfl⟩ := mem_ents.1 hc
      exact HB.out q (by omega))
    by_cases hlt : i < n
    · have ti : (i : Int) < n := by omega
      have hb : B i < 256 := HB.out i hlt
      have HN : Hid (crcS 4294967295 (ents B (i + 1)) = _) := Lib.hid (by rw [ents_succ, crcS_snoc])
      obtain ⟨g, o, rfl, hg, cB⟩ := BSl.byte HS.out hlt
      have zB := szs hg
      generalize crcS 4294967295 (ents B i) = x at *
      generalize B i = b at *
      have A1 : bits .xor .u64 (x : Int) (b : Int) = ((x ^^^ b : Nat) : Int) := u64_xor_nat x b (by omega) (by omega)
      have hy : x ^^^ b < 4294967296 := Nat.xor_lt_two_pow (n := 32) hx (by omega)
      generalize x ^^^ b = y at *
      go_wp2_with fail
      go_loopw [3, 5] (fun s3 s5 wi => ∃ j : Nat, s5 = .int .i64 j ∧ j ≤ 8 ∧ s3 = .int .u64 ((cN j y : Nat) : Int) ∧ wi = wr) (fun _ s5 _ => 8 - (intOf s5).toNat)
      case atStart => exact ⟨0, rfl, by omega, rfl, rfl⟩
      case round =>
        obtain ⟨j, rfl, hj, rfl, rfl⟩ := hrel
        by_cases hlj : j < 8
        · have tj : (j : Int) < 8 := by omega
          have hx := cN_lt j (x := y) (by omega)
          have HL := Lib.hid (cN_last j y)
          obtain ⟨x, hxx⟩ : ∃ x, x = cN j y := ⟨_, rfl⟩
          rw [← hxx] at hx HL ⊢
          clear hxx
          have A2 : bits .xor .u64 ((x : Int) / 2) 3988292384 = ((x / 2 ^^^ 3988292384 : Nat) : Int) := by
            rw [show (x : Int) / 2 = ((x / 2 : Nat) : Int) by omega, show (3988292384 : Int) = ((3988292384 : Nat) : Int) from rfl, u64_xor_nat (x / 2) 3988292384 (by omega) (by decide)]
          by_cases hodd : x % 2 = 1
          · have e1 : cstep x = x / 2 ^^^ 3988292384 := by unfold cstep; rw [if_pos hodd]
            have E1 := Lib.hid e1
            have t1 : ((x : Int) % 2) = 1 := by omega
            clear e1 hodd
            go_wp2_with fail
            go_roundw
            case rel => exact ⟨j + 1, by go_num, by omega, by rw [HL.out, E1.out, ← A2], trivial⟩
            case measure => simp [intOf]; omega
          · have e1 : cstep x = x / 2 := by unfold cstep; rw [if_neg hodd]
            have E1 := Lib.hid e1
            have t1 : ((x : Int) % 2) = 0 := by omega
            clear e1 hodd A2
            go_wp2_with fail
            go_roundw
            case rel => exact ⟨j + 1, by go_num, by omega, by rw [HL.out, E1.out]; try rfl, trivial⟩
            case measure => simp [intOf]; omega
        · obtain rfl : j = 8 := by omega
          have hz := cN_lt 8 (x := y) (by omega)
          go_wp2_with fail
          go_roundw
          case rel => exact ⟨i + 1, by go_num, by omega, by rw [HN.out], trivial⟩
          case measure => simp [intOf]; omega
    · obtain rfl : i = n := by omega
      have HX : sumB (ents B i) = 4294967295 - crcS 4294967295 (ents B i) := rfl
      generalize crcS 4294967295 (ents B i) = x at *
      go_wp2_with fail
      go_returns
      refine ⟨?_, rfl⟩
      show Ending.returned (Value.int .i64 (4294967295 - (x : Int))) = _
      first | (congr 2; omega) | (rw [HX]; congr 2; omega)
end Go.Proofs.Ytlnfhlmgnppcbaa
