/- General theorems of this seat, in one text. -/
import Derived.Test.YtlnfhlmgnppcbaaProg
import Derived.Test.YtlnfhlmgnppcbaaBS
import Derived.Test.YtlnfhlmgnppcbaaAR
import Derived.Test.YtlnfhlmgnppcbaaBC
import Derived.Test.YtlnfhlmgnppcbaaWI3
import Derived.Test.YtlnfhlmgnppcbaaSB
import Derived.Deep.WholeRow
import Derived.Test.YtlnfhlmgnppcbaaWI2
import Derived.Test.YtlnfhlmgnppcbaaEC3
/- The table of checksums, and the sum of bytes by it. -/
namespace Go.Proofs.Ytlnfhlmgnppcbaa
open Go.RowKit Go.ChangeShapes Go.WideShapes Go.Deep
set_option linter.unusedVariables false
set_option linter.unusedSimpArgs false
/-- The table's cells when the first k stand. -/
def tabA (k : Nat) : Array Value := ((List.range 256).map fun i => Value.int .u32 ((if i < k then tab i else 0 : Nat) : Int)).toArray
theorem tabA_size (k : Nat) : (tabA k).size = 256 := by simp [tabA]
theorem tabA_at (k : Nat) {i : Nat} (hi : i < 256) : (tabA k)[i]? = some (.int .u32 ((if i < k then tab i else 0 : Nat) : Int)) := by simp [tabA, hi]
theorem tabA_one (k : Nat) : (tabA k).all (·.oneCell') = true := Array.all_eq_true_iff_forall_mem.2 (fun v hv => by
  simp only [tabA, List.mem_toArray, List.mem_map] at hv
  obtain ⟨i, _, rfl⟩ := hv
  rfl)
theorem tabA_set {k : Nat} (hk : k < 256) : (tabA k).setIfInBounds k (.int .u32 (tab k : Int)) = tabA (k + 1) := by
  apply Array.ext_getElem?
  intro i
  by_cases e : k = i
  · subst e
    rw [Array.getElem?_setIfInBounds_self_of_lt (by rw [tabA_size]; exact hk), tabA_at _ hk, if_pos (by omega)]
  · rw [Array.getElem?_setIfInBounds_ne e]
    by_cases hi : i < 256
    · rw [tabA_at _ hi, tabA_at _ hi]
      by_cases h : i < k
      · rw [if_pos h, if_pos (by omega)]
      · rw [if_neg h, if_neg (by omega)]
    · rw [Array.getElem?_eq_none (by rw [tabA_size]; omega), Array.getElem?_eq_none (by rw [tabA_size]; omega)]
theorem info_tab : (Try.prog.info? 132).map (fun i => (i.zero, i.size)) = some (some (.agg (tabA 0)), 256) := by kernel_rfl
theorem and1_u32 {x : Nat} (h : x < 4294967296) : bits .and .u32 (x : Int) 1 = ((x % 2 : Nat) : Int) := by
  rw [show (1 : Int) = ((1 : Nat) : Int) from rfl, u32_and_nat x 1 h (by decide), nat_mask1]
/-- The two blocks of the table. -/
structure TabM (W0 wr : World) (k : Nat) : Prop where
  res : wr.heap[W0.heap.size]? = some (.cells (tabA 0) 132 (0, 0))
  tb : wr.heap[W0.heap.size + 1]? = some (.cells (tabA k) 132 (0, 0))
  bel : Below W0.heap.size W0 wr
theorem TabM.start (w : World) : TabM w ((w.alloc (.cells (tabA 0) 132)).alloc (.cells (tabA 0) 132)) 0 := by
  have h0 := heap_alloc_new w (.cells (tabA 0) 132)
  have hb : Below (w.alloc (.cells (tabA 0) 132)).heap.size (w.alloc (.cells (tabA 0) 132)) ((w.alloc (.cells (tabA 0) 132)).alloc (.cells (tabA 0) 132)) := (Below.refl _ _).alloc (Nat.le_refl _) _
  refine ⟨(hb.block _ (block_lt h0)).trans h0, ?_, by (repeat' (first | (with_reducible exact Below.refl _ _) | (with_reducible assumption) | (with_reducible refine Below.drew ?_) | (with_reducible refine below_drewN ?_ _) | (with_reducible refine Below.alloc ?_ ?_ _) | (with_reducible refine Below.setCell ?_ ?_ _) | go_size))⟩
  have h1 := heap_alloc_new (w.alloc (.cells (tabA 0) 132)) (.cells (tabA 0) 132)
  rwa [show (w.alloc (.cells (tabA 0) 132)).heap.size = w.heap.size + 1 by simp] at h1
theorem TabM.set {W0 wr : World} {k : Nat} (h : TabM W0 wr k) (hk : k < 256) : TabM W0 (wr.setCell ⟨W0.heap.size + 1, k, none⟩ (.int .u32 (tab k : Int))) (k + 1) := by
  refine ⟨?_, ?_, h.bel.setCell (Nat.le_succ _) _⟩
  · rw [setCell_at h.tb, setAt_ne (by omega)]; exact h.res
  · rw [setCell_at h.tb, setAt_same (block_lt h.tb), tabA_set hk]
set_option maxRecDepth 4000 in
set_option maxHeartbeats 4000000 in
theorem table76 (w : World) : Calls Try.prog 76 #[] w fun e w' => e = .returned (.agg (tabA 256)) ∧ Below w.heap.size w w' := by
  obtain ⟨hz, hsz⟩ := zero_of_info info_tab
  have M0 := Lib.hid (TabM.start w)

  go_enter Try.func76, Try.ntmps76
  go_wp2_with fail
  go_loopw [5] (fun s5 wr => ∃ k : Nat, s5 = .int .i64 k ∧ k ≤ 256 ∧ Hid (TabM w wr k)) (fun s5 _ => 256 - (intOf s5).toNat)
  case atStart => exact ⟨0, rfl, by omega, M0⟩
  case round =>
    obtain ⟨k, rfl, hk, hrel⟩ := hrel
    have HM := hrel
    clear hrel M0
    by_cases hlt : k < 256
    · have tk : (k : Int) < 256 := by omega
      have wk : IntKind.u32.wrap (k : Int) = (k : Int) := by rw [IntKind.wrap_u32]; omega
      go_wp2_with fail
      go_loopw [3, 10] (fun s3 s10 wi => ∃ j : Nat, s10 = .int .i64 j ∧ j ≤ 8 ∧ s3 = .int .u32 ((cN j k : Nat) : Int) ∧ Hid (TabM w wi k)) (fun _ s10 _ => 8 - (intOf s10).toNat)
      case atStart => exact ⟨0, rfl, by omega, rfl, HM⟩
      case round =>
        clear HM
        obtain ⟨j, rfl, hj, rfl, hrel⟩ := hrel
        have HM := hrel
        clear hrel
        by_cases hlj : j < 8
        · have tj : (j : Int) < 8 := by omega
          have hx := cN_lt j (x := k) (by omega)
          have hl := cN_last j k
          have HL := Lib.hid hl
          obtain ⟨x, hxx⟩ : ∃ x, x = cN j k := ⟨_, rfl⟩
          rw [← hxx] at hx HL ⊢
          clear hl hxx
          have A1 := and1_u32 hx
          have A2 : bits .xor .u32 ((x : Int) / 2) 3988292384 = ((x / 2 ^^^ 3988292384 : Nat) : Int) := by
            rw [show (x : Int) / 2 = ((x / 2 : Nat) : Int) by omega, show (3988292384 : Int) = ((3988292384 : Nat) : Int) from rfl, u32_xor_nat (x / 2) 3988292384 (by omega) (by decide)]
          by_cases hodd : x % 2 = 1
          · have e1 : cstep x = x / 2 ^^^ 3988292384 := by unfold cstep; rw [if_pos hodd]
            have E1 := Lib.hid e1
            have t1 : (((x % 2 : Nat) : Int) == 1) = true := by simp; omega
            clear e1 hodd
            replace A2 := Lib.hid A2
            go_wp2_with fail
            go_roundw
            case rel => exact ⟨j + 1, by go_num, by omega, by rw [HL.out, E1.out, ← A2.out]; try rfl, HM⟩
            case measure => simp [intOf]; omega
          · have e1 : cstep x = x / 2 := by unfold cstep; rw [if_neg hodd]
            have E1 := Lib.hid e1
            have t1 : (((x % 2 : Nat) : Int) == 1) = false := by simp; omega
            clear e1 hodd A2
            go_wp2_with fail
            go_roundw
            case rel => exact ⟨j + 1, by go_num, by omega, by rw [HL.out, E1.out]; try rfl, HM⟩
            case measure => simp [intOf]; omega
        · obtain rfl : j = 8 := by omega
          have hx := cN_lt 8 (x := k) (by omega)
          have MS := Lib.hid (HM.out.set hlt)
          unfold tab at MS
          have cA := (cell_at HM.out.tb k).trans (tabA_at k hlt)
          have fA := free_at HM.out.tb k
          have zA := szs (block_lt HM.out.tb)
          generalize cN 8 k = y at *
          clear HM
          go_wp2_with fail
          go_roundw
          case rel => exact ⟨k + 1, by go_num, by omega, MS⟩
          case measure => simp [intOf]; omega
    · obtain rfl : k = 256 := by omega
      have t0' := (tabA_size 256)
      go_wp2_with (first | (refine wpList_load_row rfl 132 (.tmp 1) rfl (w.heap.size + 1) rfl (tabA 256) 256 131 (0, 0) 132 HM.out.tb Try.underlying132 (by rw [tabA_size]; exact hsz) ?_) | (refine wpList_store_row rfl 132 (.tmp 0) (.tmp 25) rfl w.heap.size (tabA 0) (tabA 256) rfl rfl HM.out.res (by rw [tabA_size]; exact hsz) (by rw [tabA_size, tabA_size]) (tabA_one _) ?_))
      have x2 := setAt_same (o := .cells (tabA 256) 132 (0, 0)) (block_lt HM.out.res)
      have hld := run_loadVar_row (P := Try.prog) _ w.heap.size 132 132 (tabA 256) (0, 0) _ x2 Try.underlying132 rfl (by rw [tabA_size]; exact hsz)
      refine bodyPost_ret (v := .agg (tabA 256)) ?_ rfl ⟨rfl, below_setAt (Nat.le_refl _) HM.out.bel⟩
      simp [results, Try.results76, asAddr, Act.put, Result.andThen, Sem.run_bind, hld]
/-- One byte of the sum. -/
theorem sum_step {x c : Nat} (hx : x < 4294967296) (hc : c < 256) : bits .xor .u8 (((x % 256 : Nat) : Int)) (c : Int) = (((x % 256) ^^^ c : Nat) : Int) := by
  rw [u8_xor_nat (x % 256) c (by omega) hc]
theorem xor_byte {x c : Nat} (hc : c < 256) : (x % 256) ^^^ c < 256 := Nat.xor_lt_two_pow (n := 8) (by omega) hc
theorem tab_lt {i : Nat} (h : i < 256) : tab i < 4294967296 := cN_lt 8 (by omega)
set_option maxRecDepth 4000 in
set_option maxHeartbeats 4000000 in
theorem sum60 (ao : Option Addr) (n c : Nat) (B : Nat → Nat) (w : World) (h : BSl w ao n c B) (hB : ∀ i, i < n → B i < 256) : Calls Try.prog 60 #[.slice ao n c] w fun e w' => e = .returned (.int .i64 (sumB (ents B n))) ∧ Below w.heap.size w w' := by
  obtain ⟨hz, hsz⟩ := zero_of_info info_tab
  have hmc := h.hm
  have hcc := h.hc
  have HS := Lib.hid h
  have HB := Lib.hid hB
  have CT := Lib.hid (table76 w)
  clear h hB
  go_enter Try.func60, Try.ntmps60
  go_wp2_with fail
  refine CT.out.mono ?_
  rintro e w1 ⟨rfl, b1⟩
  have B1 := Lib.hid b1
  clear CT b1
  have h0 := heap_alloc_new w1 (.cells (tabA 0) 132)
  go_wp2_with (first | (refine wpList_store_row rfl 132 (.tmp 3) (.tmp 7) rfl w1.heap.size (tabA 0) (tabA 256) rfl rfl h0 (by rw [tabA_size]; exact hsz) (by rw [tabA_size, tabA_size]) (tabA_one _) ?_))
  have x2 := setAt_same (o := .cells (tabA 256) 132 (0, 0)) (block_lt h0)
  have bel2 : Below w.heap.size w (setAt (w1.alloc (.cells (tabA 0) 132)) w1.heap.size (.cells (tabA 256) 132)) := below_setAt B1.out.size (B1.out.alloc B1.out.size _)
  have X2 := Lib.hid x2
  have BL := Lib.hid bel2
  clear h0 x2 bel2
  generalize setAt (w1.alloc (.cells (tabA 0) 132)) w1.heap.size (.cells (tabA 256) 132) = w2 at *
  generalize w1.heap.size = tb at *
  replace HS := Lib.hid (HS.out.below BL.out)
  go_wp2_with fail
  go_loopw [4, 10] (fun s4 s10 wr => ∃ i : Nat, s10 = .int .i64 i ∧ i ≤ n ∧ s4 = .int .u32 ((crcS 4294967295 (ents B i) : Nat) : Int) ∧ wr = w2) (fun _ s10 _ => n - (intOf s10).toNat)
  case atStart => exact ⟨0, rfl, by omega, rfl, rfl⟩
  case round =>
    obtain ⟨i, rfl, hi, rfl, rfl⟩ := hrel
    by_cases hlt : i < n
    · have ti : (i : Int) < n := by omega
      have hb : B i < 256 := HB.out i hlt
      have hx : crcS 4294967295 (ents B i) < 4294967296 := crcS_lt _ (by decide) (fun c hc => by
        obtain ⟨q, hq, rfl⟩ := mem_ents.1 hc
        exact HB.out q (by omega))
      have HN : Hid (crcS 4294967295 (ents B (i + 1)) = _) := Lib.hid (by rw [ents_succ, crcS_snoc, crc_step])
      obtain ⟨g, o, rfl, hg, cB⟩ := BSl.byte HS.out hlt
      have zB := szs hg
      generalize crcS 4294967295 (ents B i) = x at *
      generalize B i = b at *
      have A1 : bits .xor .u8 ((x : Int) % 256) (b : Int) = (((x % 256) ^^^ b : Nat) : Int) := by
        rw [show (x : Int) % 256 = ((x % 256 : Nat) : Int) by omega]
        exact sum_step hx hb
      have hy := xor_byte (x := x) hb
      generalize (x % 256) ^^^ b = y at *
      have hyi : (y : Int) < 256 := by omega
      have cT := (cell_at X2.out y).trans (tabA_at 256 hy)
      rw [if_pos hy] at cT
      have fT := free_at X2.out y
      have zT := szs (block_lt X2.out)
      have hz := tab_lt hy
      have A2 : bits .xor .u32 ((x : Int) / 256) (tab y : Int) = ((x / 256 ^^^ tab y : Nat) : Int) := by
        rw [show (x : Int) / 256 = ((x / 256 : Nat) : Int) by omega, u32_xor_nat (x / 256) (tab y) (by omega) hz]
      generalize tab y = z at *
      go_wp2_with fail
      go_roundw
      case rel => exact ⟨i + 1, by go_num, by omega, by rw [HN.out, ← A2], trivial⟩
      case measure => simp [intOf]; omega
    · obtain rfl : i = n := by omega
      have hx : crcS 4294967295 (ents B i) < 4294967296 := crcS_lt _ (by decide) (fun c hc => by
        obtain ⟨q, hq, rfl⟩ := mem_ents.1 hc
        exact HB.out q (by omega))
      have HX : sumB (ents B i) = 4294967295 - crcS 4294967295 (ents B i) := rfl
      generalize crcS 4294967295 (ents B i) = x at *
      have A3 : bits .xor .u32 IntKind.u32.max (x : Int) = ((4294967295 - x : Nat) : Int) := by
        rw [show IntKind.u32.max = ((4294967295 : Nat) : Int) from rfl, u32_xor_nat 4294967295 x (by decide) hx, Nat.xor_comm, not32 hx]
      go_wp2_with fail
      go_returns
      refine ⟨?_, BL.out⟩
      show Ending.returned (Value.int .i64 (wrap64 ((4294967295 - x : Nat) : Int))) = _
      congr 2
      simp only [wrap64, IntKind.wrap_i64]
      omega
end Go.Proofs.Ytlnfhlmgnppcbaa

/- The tail's four bytes. -/
namespace Go.Proofs.Ytlnfhlmgnppcbaa
open Go.RowKit Go.ChangeShapes Go.WideShapes Go.Deep
set_option linter.unusedVariables false
set_option linter.unusedSimpArgs false
def tailF (n : Nat) : Nat → Nat := fun i => if i = 0 then n % 256 else if i = 1 then n / 256 % 256 else if i = 2 then n / 65536 % 256 else n / 16777216 % 256
theorem tail_ents (n : Nat) : ents (tailF n) 4 = tailB n := by simp [ents, tailF, tailB, List.range_succ]
/-- The block of the four bytes. -/
theorem tail_row {w0 w1 : World} (hb : Below w0.heap.size w0 w1) {s : Nat} (hs : s < 4294967296) {c0 c1 c2 c3 : Int} (e0 : c0 = ((s % 256 : Nat) : Int)) (e1 : c1 = ((s / 256 % 256 : Nat) : Int)) (e2 : c2 = ((s / 65536 % 256 : Nat) : Int)) (e3 : c3 = ((s / 16777216 % 256 : Nat) : Int)) :
    Bytes w0 (tailB s) (.returned (.slice (some ⟨w1.heap.size, 0, none⟩) 4 4)) (w1.alloc (.cells #[.int .u8 c0, .int .u8 c1, .int .u8 c2, .int .u8 c3] 5)) := by
  subst e0 e1 e2 e3
  exact ⟨_, 4, tailF s, rfl, tail_ents s, Row.of_block (heap_alloc_new _ _) hb.size (bf_len _) (by simp [flat, bf, tailF, List.range_succ]) (by decide), hb.alloc hb.size _⟩
set_option maxRecDepth 4000 in
set_option maxHeartbeats 4000000 in
theorem tail44 (ao : Option Addr) (n c : Nat) (B : Nat → Nat) (w : World) (h : BSl w ao n c B) (hB : ∀ i, i < n → B i < 256) : Calls Try.prog 44 #[.slice ao n c] w (Bytes w (tailB (sumB (ents B n)))) := by
  obtain ⟨i0, hi0, hz0, hz1, hz2⟩ := info_parts info_u8
  have CS := Lib.hid (sum60 ao n c B w h hB)
  have hs := sumB_lt (ents B n)
  generalize sumB (ents B n) = s at *
  clear h hB
  go_enter Try.func44, Try.ntmps44
  go_wp2_with fail
  refine CS.out.mono ?_
  rintro e w1 ⟨rfl, b1⟩
  have B1 := Lib.hid b1
  clear CS b1
  go_wp2_with fail
  go_returns
  exact tail_row B1.out hs (by omega) (by omega) (by omega) (by omega)
set_option maxRecDepth 4000 in
set_option maxHeartbeats 4000000 in
theorem tail53 (s : Nat) (hs : s < 4294967296) (w : World) : Calls Try.prog 53 #[.int .i64 s] w (Bytes w (tailB s)) := by
  obtain ⟨i0, hi0, hz0, hz1, hz2⟩ := info_parts info_u8
  go_enter Try.func53, Try.ntmps53
  go_wp2_with fail
  go_returns
  exact tail_row (Below.refl _ _) hs (by omega) (by omega) (by omega) (by omega)
set_option maxRecDepth 4000 in
set_option maxHeartbeats 4000000 in
theorem sum54 (ao : Option Addr) (n c : Nat) (B : Nat → Nat) (w : World) (h : BSl w ao n c B) (hB : ∀ i, i < n → B i < 256) : Calls Try.prog 54 #[.slice ao n c] w fun e w' => e = .returned (.int .i64 (sumB (ents B n))) ∧ w' = w := by
  have hmc := h.hm
  have hcc := h.hc
  have HS := Lib.hid h
  have HB := Lib.hid hB
  clear h hB
  go_enter Try.func54, Try.ntmps54
  go_wp2_with fail
  go_loopw [3, 4] (fun s3 s4 wr => ∃ i : Nat, s4 = .int .i64 i ∧ i ≤ n ∧ s3 = .int .u64 ((crcS 4294967295 (ents B i) : Nat) : Int) ∧ wr = w) (fun _ s4 _ => n - (intOf s4).toNat)
  case atStart => exact ⟨0, rfl, by omega, rfl, rfl⟩
  case round =>
    obtain ⟨i, rfl, hi, rfl, rfl⟩ := hrel
    have hx : crcS 4294967295 (ents B i) < 4294967296 := crcS_lt _ (by decide) (fun c hc => by
      obtain ⟨q, hq, rfl⟩ := mem_ents.1 hc
      exact HB.out q (by omega))
    by_cases hlt : i < n
    · have ti : (i : Int) < n := by omega
      have hb : B i < 256 := HB.out i hlt
      have HN : Hid (crcS 4294967295 (ents B (i + 1)) = _) := Lib.hid (by rw [ents_succ, crcS_snoc])
      obtain ⟨g, o, rfl, hg, cB⟩ := BSl.byte HS.out hlt
      have zB := szs hg
      generalize crcS 4294967295 (ents B i) = x at *
      generalize B i = b at *
      have A1 : bits .xor .u64 (x : Int) (b : Int) = ((x ^^^ b : Nat) : Int) := u64_xor_nat x b (by omega) (by omega)
      have hy : x ^^^ b < 4294967296 := Nat.xor_lt_two_pow (n := 32) hx (by omega)
      generalize x ^^^ b = y at *
      go_wp2_with fail
      go_loopw [3, 5] (fun s3 s5 wi => ∃ j : Nat, s5 = .int .i64 j ∧ j ≤ 8 ∧ s3 = .int .u64 ((cN j y : Nat) : Int) ∧ wi = wr) (fun _ s5 _ => 8 - (intOf s5).toNat)
      case atStart => exact ⟨0, rfl, by omega, rfl, rfl⟩
      case round =>
        obtain ⟨j, rfl, hj, rfl, rfl⟩ := hrel
        by_cases hlj : j < 8
        · have tj : (j : Int) < 8 := by omega
          have hx := cN_lt j (x := y) (by omega)
          have HL := Lib.hid (cN_last j y)
          obtain ⟨x, hxx⟩ : ∃ x, x = cN j y := ⟨_, rfl⟩
          rw [← hxx] at hx HL ⊢
          clear hxx
          have A2 : bits .xor .u64 ((x : Int) / 2) 3988292384 = ((x / 2 ^^^ 3988292384 : Nat) : Int) := by
            rw [show (x : Int) / 2 = ((x / 2 : Nat) : Int) by omega, show (3988292384 : Int) = ((3988292384 : Nat) : Int) from rfl, u64_xor_nat (x / 2) 3988292384 (by omega) (by decide)]
          by_cases hodd : x % 2 = 1
          · have e1 : cstep x = x / 2 ^^^ 3988292384 := by unfold cstep; rw [if_pos hodd]
            have E1 := Lib.hid e1
            have t1 : ((x : Int) % 2) = 1 := by omega
            clear e1 hodd
            go_wp2_with fail
            go_roundw
            case rel => exact ⟨j + 1, by go_num, by omega, by rw [HL.out, E1.out, ← A2], trivial⟩
            case measure => simp [intOf]; omega
          · have e1 : cstep x = x / 2 := by unfold cstep; rw [if_neg hodd]
            have E1 := Lib.hid e1
            have t1 : ((x : Int) % 2) = 0 := by omega
            clear e1 hodd A2
            go_wp2_with fail
            go_roundw
            case rel => exact ⟨j + 1, by go_num, by omega, by rw [HL.out, E1.out]; try rfl, trivial⟩
            case measure => simp [intOf]; omega
        · obtain rfl : j = 8 := by omega
          have hz := cN_lt 8 (x := y) (by omega)
          go_wp2_with fail
          go_roundw
          case rel => exact ⟨i + 1, by go_num, by omega, by rw [HN.out], trivial⟩
          case measure => simp [intOf]; omega
    · obtain rfl : i = n := by omega
      have HX : sumB (ents B i) = 4294967295 - crcS 4294967295 (ents B i) := rfl
      generalize crcS 4294967295 (ents B i) = x at *
      go_wp2_with fail
      go_returns
      refine ⟨?_, rfl⟩
      show Ending.returned (Value.int .i64 (4294967295 - (x : Int))) = _
      first | (congr 2; omega) | (rw [HX]; congr 2; omega)
end Go.Proofs.Ytlnfhlmgnppcbaa

/- Appending bytes; a content sealed, the program's and the reference's. -/
namespace Go.Proofs.Ytlnfhlmgnppcbaa
open Go.RowKit Go.ChangeShapes Go.WideShapes Go.Deep
set_option linter.unusedVariables false
set_option linter.unusedSimpArgs false
theorem BRow.below {w w' : World} {base : Nat} {v : Value} {n : Nat} {F : Nat → Nat} (h : BRow w base v n F) (hb : Below w.heap.size w w') : BRow w' base v n F := Row.off (X := fun _ => False) h (Off.of_below hb) (fun _ _ h => h)
theorem BRow.none (w : World) (base : Nat) : BRow w base (.slice none 0 0) 0 (fun _ => 0) := ⟨rfl, .inl ⟨rfl, rfl⟩⟩
theorem BSl.none (w : World) : BSl w none 0 0 (fun _ => 0) := by
  obtain ⟨ao, c, e, h⟩ := BRow.toSl (BRow.none w 0)
  cases e
  exact h
theorem wpList_append_B {ops : Array Oper} {rest : List Oper} {o : Oper} {a : Act} {Q : Exit → Act → World → Prop} (w : World) (hgd : o.guard = none) (x1 x2 : Operand) (ho : o.op = .call { callee := .builtin .append, args := #[x1, x2], argTypes := #[22, 22] })
    (base : Nat) (v : Value) (n : Nat) (A : Nat → Nat) (hs : a.eval x1 = v) (h1 : BRow w base v n A) (ao : Option Addr) (m c : Nat) (B : Nat → Nat) (hx : a.eval x2 = .slice ao m c) (h2 : BSl w ao m c B) (hn : n + m ≤ 100000000) (hb : base ≤ w.heap.size)
    (h : ∀ v' w' R, BRow w' base v' (n + m) R → ents R (n + m) = ents A n ++ ents B m → Below base w w' → wpList Try.prog ops Q rest (a.put o.dst v') w') : wpList Try.prog ops Q (o :: rest) a w := by
  obtain ⟨i0, hi0, hz0, hz1, hz2⟩ := info_parts info_u8
  refine wpList_append_sl w hgd x1 x2 22 ho base 5 i0 _ 1 1 Try.underlying22 hi0 hz0 hz1 hz2 rfl (by decide) v n (bf A) hs h1 (bf_len A) ao m c (bf B) hx (bf_len B) h2.hno h2.sl (fun i => bf_one B i) (by omega) (by unfold maxLen; omega) hb ?_
  intro v' w' r g f
  rw [cat_bf] at r
  exact h v' w' _ r (ents_cat A n m B) ((Off.of_grown g).toBelow hb (fun q hq hh => Row.apart' h1 hq hh))
/-- The call hands back these bytes, and this number. -/
def BytesE (w : World) (l : List Nat) (x : Int) (e : Ending) (w' : World) : Prop := ∃ (v : Value) (k : Nat) (R : Nat → Nat), e = .returned (.tuple #[v, .int .i64 x]) ∧ ents R k = l ∧ BRow w' w.heap.size v k R ∧ Below w.heap.size w w'
set_option maxRecDepth 4000 in
set_option maxHeartbeats 4000000 in
theorem seal22 (ao : Option Addr) (n c : Nat) (B : Nat → Nat) (w : World) (h : BSl w ao n c B) (hB : ∀ i, i < n → B i < 256) (hn : n ≤ 65536) : Calls Try.prog 22 #[.slice ao n c] w (BytesE w (sealB (ents B n)) 0) := by
  have HS := Lib.hid h
  have HB := Lib.hid hB
  have CP := Lib.hid (putInt43 none 0 0 (fun _ => 0) (n : Int) w (BSl.none w) (by omega) ⟨by omega, by omega⟩)
  have HL := Lib.hid (codeN_len (n := (n : Int)) (by omega) (by omega))
  have hni : (n : Int) ≤ 65536 := by omega
  clear h hB
  go_enter Try.func22, Try.ntmps22
  go_wp2_with fail
  refine CP.out.mono ?_
  rintro e w1 ⟨v1, k1, R1, rfl, l1, r1, b1⟩
  have hk1 : k1 ≤ 10 := by
    have := congrArg List.length l1
    have := HL.out
    simp [ents_len] at *
    omega
  have L1 := Lib.hid l1
  have RR1 := Lib.hid r1
  have B1 := Lib.hid b1
  clear CP l1 r1 b1
  go_wp2_with (at_builtin; refine wpList_append_B w1 rfl _ _ rfl w.heap.size _ k1 R1 rfl RR1.out ao n c B rfl (HS.out.below B1.out) (by omega) B1.out.size ?_)
  intro v2 w2 R2 r2 l2 b2
  have L2 := Lib.hid l2
  have RR2 := Lib.hid r2
  have B2 := Lib.hid (B1.out.trans b2)
  clear l2 r2 b2
  have CT := Lib.hid (tail44 ao n c B w2 (HS.out.below B2.out) HB.out)
  go_wp2_with fail
  refine CT.out.mono ?_
  rintro e w3 ⟨v3, k3, R3, rfl, l3, r3, b3⟩
  have hk3 : k3 ≤ 4 := by
    have := congrArg List.length l3
    simp [ents_len, tailB_len] at this
    omega
  obtain ⟨a3, c3, rfl, s3⟩ := BRow.toSl r3
  have L3 := Lib.hid l3
  have S3 := Lib.hid s3
  have RR3 := Lib.hid (RR2.out.below b3)
  have B3 := Lib.hid (B2.out.trans (b3.mono B2.out.size))
  clear CT l3 r3 b3 s3
  go_wp2_with (at_builtin; refine wpList_append_B w3 rfl _ _ rfl w.heap.size _ (k1 + n) R2 rfl RR3.out a3 k3 c3 R3 rfl S3.out (by omega) B3.out.size ?_)
  intro v4 w4 R4 r4 l4 b4
  have L4 := Lib.hid l4
  have RR4 := Lib.hid r4
  have B4 := Lib.hid (B3.out.trans b4)
  clear l4 r4 b4
  go_wp2_with fail
  go_returns
  refine ⟨_, _, R4, rfl, ?_, RR4.out, B4.out⟩
  rw [L4.out, L2.out, L1.out, L3.out]
  unfold sealB
  simp [ents_len, ents]
end Go.Proofs.Ytlnfhlmgnppcbaa

/- The reference's seal; the test of an event's numbers, both sides. -/
namespace Go.Proofs.Ytlnfhlmgnppcbaa
open Go.RowKit Go.ChangeShapes Go.WideShapes Go.Deep
set_option linter.unusedVariables false
set_option linter.unusedSimpArgs false
set_option maxRecDepth 4000 in
set_option maxHeartbeats 4000000 in
theorem seal35 (ao : Option Addr) (n c : Nat) (B : Nat → Nat) (w : World) (h : BSl w ao n c B) (hB : ∀ i, i < n → B i < 256) (hn : n ≤ 65536) : Calls Try.prog 35 #[.slice ao n c] w (BytesE w (sealB (ents B n)) 0) := by
  have HS := Lib.hid h
  have HB := Lib.hid hB
  have CP := Lib.hid (putInt52 none 0 0 (fun _ => 0) (n : Int) w (BSl.none w) (by omega) ⟨by omega, by omega⟩)
  have HL := Lib.hid (codeN_len (n := (n : Int)) (by omega) (by omega))
  have hni : (n : Int) ≤ 65536 := by omega
  clear h hB
  go_enter Try.func35, Try.ntmps35
  go_wp2_with fail
  refine CP.out.mono ?_
  rintro e w1 ⟨v1, k1, R1, rfl, l1, r1, b1⟩
  have hk1 : k1 ≤ 10 := by
    have := congrArg List.length l1
    have := HL.out
    simp [ents_len] at *
    omega
  have L1 := Lib.hid l1
  have RR1 := Lib.hid r1
  have B1 := Lib.hid b1
  clear CP l1 r1 b1
  go_wp2_with (at_builtin; refine wpList_append_B w1 rfl _ _ rfl w.heap.size _ k1 R1 rfl RR1.out ao n c B rfl (HS.out.below B1.out) (by omega) B1.out.size ?_)
  intro v2 w2 R2 r2 l2 b2
  have L2 := Lib.hid l2
  have RR2 := Lib.hid r2
  have B2 := Lib.hid (B1.out.trans b2)
  clear l2 r2 b2
  have CS := Lib.hid (sum54 ao n c B w2 (HS.out.below B2.out) HB.out)
  have hs := sumB_lt (ents B n)
  obtain ⟨s, hs'⟩ : ∃ s, s = sumB (ents B n) := ⟨_, rfl⟩
  rw [← hs'] at hs CS
  have SS := Lib.hid hs'
  clear hs'
  have CT := Lib.hid (tail53 s hs w2)
  go_wp2_with fail
  refine CS.out.mono ?_
  rintro e w2' ⟨rfl, rfl⟩
  clear CS
  go_wp2_with fail
  refine CT.out.mono ?_
  rintro e w3 ⟨v3, k3, R3, rfl, l3, r3, b3⟩
  have hk3 : k3 ≤ 4 := by
    have := congrArg List.length l3
    simp [ents_len, tailB_len] at this
    omega
  obtain ⟨a3, c3, rfl, s3⟩ := BRow.toSl r3
  have L3 := Lib.hid l3
  have S3 := Lib.hid s3
  have RR3 := Lib.hid (RR2.out.below b3)
  have B3 := Lib.hid (B2.out.trans (b3.mono B2.out.size))
  clear CT l3 r3 b3 s3
  go_wp2_with (at_builtin; refine wpList_append_B w3 rfl _ _ rfl w.heap.size _ (k1 + n) R2 rfl RR3.out a3 k3 c3 R3 rfl S3.out (by omega) B3.out.size ?_)
  intro v4 w4 R4 r4 l4 b4
  have L4 := Lib.hid l4
  have RR4 := Lib.hid r4
  have B4 := Lib.hid (B3.out.trans b4)
  clear l4 r4 b4
  go_wp2_with fail
  go_returns
  refine ⟨_, _, R4, rfl, ?_, RR4.out, B4.out⟩
  rw [L4.out, L2.out, L1.out, L3.out, SS.out]
  unfold sealB
  simp [ents_len, ents]
end Go.Proofs.Ytlnfhlmgnppcbaa

/- The test of an event's numbers, both sides. -/
namespace Go.Proofs.Ytlnfhlmgnppcbaa
open Go.RowKit Go.ChangeShapes Go.WideShapes Go.Deep
set_option linter.unusedVariables false
set_option linter.unusedSimpArgs false
theorem eC_get (v : Ev) {j : Nat} (hj : j < 9) : (eC v)[j]? = some (.int .i64 ((nums v).getD j 0)) := by
  rcases (by omega : j = 0 ∨ j = 1 ∨ j = 2 ∨ j = 3 ∨ j = 4 ∨ j = 5 ∨ j = 6 ∨ j = 7 ∨ j = 8) with rfl | rfl | rfl | rfl | rfl | rfl | rfl | rfl | rfl <;> rfl
theorem framed_no {v : Ev} {j : Nat} (hj : j < 9) (h : okN ((nums v).getD j 0) = false) : framedB v = false := by
  cases e : framedB v with
  | false => rfl
  | true =>
    have hl : j < (nums v).length := hj
    have hm : (nums v).getD j 0 ∈ nums v := by rw [List.getD, List.getElem?_eq_getElem hl]; exact List.getElem_mem _
    rw [List.all_eq_true.1 e _ hm] at h
    cases h
theorem framed_yes {v : Ev} (h : ((nums v).take 9).all okN = true) : framedB v = true := h
theorem framed_more {v : Ev} {j : Nat} (hj : j < 9) (h1 : ((nums v).take j).all okN = true) (h2 : okN ((nums v).getD j 0) = true) : ((nums v).take (j + 1)).all okN = true := by
  rw [take_succ_get (l := nums v) hj, List.all_append, h1, List.all_cons, h2]
  rfl
set_option maxRecDepth 4000 in
set_option maxHeartbeats 4000000 in
theorem framed33 (v : Ev) (w : World) : Calls Try.prog 33 #[.agg (eC v)] w fun e w' => e = .returned (.bool (framedB v)) ∧ Below w.heap.size w w' := by
  have HG := Lib.hid (fun (j : Nat) (hj : j < 9) => eC_get v hj)
  have HN := Lib.hid (fun (j : Nat) (hj : j < 9) => framed_no (v := v) hj)
  have HY := Lib.hid (fun h => framed_yes (v := v) h)
  have HM := Lib.hid (fun (j : Nat) (hj : j < 9) => framed_more (v := v) hj)
  have BW : Hid (Below w.heap.size w ((w.alloc (.cells (eC v) 24)).alloc (.cells (eC v) 3))) := Lib.hid (by (repeat' (first | (with_reducible exact Below.refl _ _) | (with_reducible assumption) | (with_reducible refine Below.drew ?_) | (with_reducible refine below_drewN ?_ _) | (with_reducible refine Below.alloc ?_ ?_ _) | (with_reducible refine Below.setCell ?_ ?_ _) | go_size)))
  have HC : Hid (((w.alloc (.cells (eC v) 24)).alloc (.cells (eC v) 3)).heap[w.heap.size + 1]? = some (.cells (eC v) 3 (0, 0))) := Lib.hid (by
    have h := heap_alloc_new (w.alloc (.cells (eC v) 24)) (.cells (eC v) 3)
    rwa [show (w.alloc (.cells (eC v) 24)).heap.size = w.heap.size + 1 by simp] at h)
  obtain ⟨N, hN⟩ : ∃ N, N = nums v := ⟨_, rfl⟩
  obtain ⟨r, hr⟩ : ∃ r, r = framedB v := ⟨_, rfl⟩
  rw [← hN] at HG HN HY HM
  rw [← hr] at HN HY ⊢
  clear hN hr
  obtain ⟨v1, v2, v3, v4, v5, v6, v7, v8, v9⟩ := v
  unfold eC at *
  dsimp only at HG BW HC ⊢
  go_enter Try.func33, Try.ntmps33
  go_wp2_with fail
  generalize (World.alloc (World.alloc w _) _) = W at *
  generalize #[Value.int .i64 v1, .int .i64 v2, .int .i64 v3, .int .i64 v4, .int .i64 v5, .int .i64 v6, .int .i64 v7, .int .i64 v8, .int .i64 v9] = A at *
  go_loopw [25] (fun s25 wr => ∃ j : Nat, s25 = .int .i64 j ∧ j ≤ 9 ∧ wr = W ∧ Hid ((N.take j).all okN = true)) (fun s25 _ => 9 - (intOf s25).toNat)
  case atStart => exact ⟨0, rfl, by omega, rfl, Lib.hid rfl⟩
  case round =>
    obtain ⟨j, rfl, hj, rfl, hrel⟩ := hrel
    have HREL := hrel
    clear hrel
    by_cases hlt : j < 9
    · have tj : (j : Int) < 9 := by omega
      have cA := (cell_at HC.out j).trans (HG.out j hlt)
      have fA := free_at HC.out j
      have zA := szs (block_lt HC.out)
      have HN' := Lib.hid (HN.out j hlt)
      have HM' := Lib.hid (HM.out j hlt HREL.out)
      generalize N.getD j 0 = x at *
      by_cases x1 : x < -1125899906842624
      · have y := HN'.out (by simp [okN]; omega)
        go_wp2_with fail
        go_returns
        exact ⟨by simp [y], BW.out⟩
      · by_cases x2 : 1125899906842624 < x
        · have y := HN'.out (by simp [okN]; omega)
          have x1' : -1125899906842624 ≤ x := by omega
          go_wp2_with fail
          go_returns
          exact ⟨by simp [y], BW.out⟩
        · have HR := Lib.hid (HM'.out (by simp [okN]; omega))
          have x1' : -1125899906842624 ≤ x := by omega
          have x2' : x ≤ 1125899906842624 := by omega
          go_wp2_with fail
          go_roundw
          case rel => exact ⟨j + 1, by go_num, by omega, trivial, HR⟩
          case measure => simp [intOf]; omega
    · obtain rfl : j = 9 := by omega
      have y := HY.out HREL.out
      go_wp2_with fail
      go_returns
      exact ⟨by simp [y], BW.out⟩
set_option maxRecDepth 4000 in
set_option maxHeartbeats 4000000 in
theorem framed34 (v : Ev) (w : World) : Calls Try.prog 34 #[.agg (eC v)] w fun e w' => e = .returned (.bool (framedB v)) ∧ Below w.heap.size w w' := by
  have HG := Lib.hid (fun (j : Nat) (hj : j < 9) => eC_get v hj)
  have HN := Lib.hid (fun (j : Nat) (hj : j < 9) => framed_no (v := v) hj)
  have HY := Lib.hid (fun h => framed_yes (v := v) h)
  have HM := Lib.hid (fun (j : Nat) (hj : j < 9) => framed_more (v := v) hj)
  have BW : Hid (Below w.heap.size w ((w.alloc (.cells (eC v) 24)).alloc (.cells (eC v) 3))) := Lib.hid (by (repeat' (first | (with_reducible exact Below.refl _ _) | (with_reducible assumption) | (with_reducible refine Below.drew ?_) | (with_reducible refine below_drewN ?_ _) | (with_reducible refine Below.alloc ?_ ?_ _) | (with_reducible refine Below.setCell ?_ ?_ _) | go_size)))
  have HC : Hid (((w.alloc (.cells (eC v) 24)).alloc (.cells (eC v) 3)).heap[w.heap.size + 1]? = some (.cells (eC v) 3 (0, 0))) := Lib.hid (by
    have h := heap_alloc_new (w.alloc (.cells (eC v) 24)) (.cells (eC v) 3)
    rwa [show (w.alloc (.cells (eC v) 24)).heap.size = w.heap.size + 1 by simp] at h)
  obtain ⟨N, hN⟩ : ∃ N, N = nums v := ⟨_, rfl⟩
  obtain ⟨r, hr⟩ : ∃ r, r = framedB v := ⟨_, rfl⟩
  rw [← hN] at HG HN HY HM
  rw [← hr] at HN HY ⊢
  clear hN hr
  obtain ⟨v1, v2, v3, v4, v5, v6, v7, v8, v9⟩ := v
  unfold eC at *
  dsimp only at HG BW HC ⊢
  go_enter Try.func34, Try.ntmps34
  go_wp2_with fail
  generalize (World.alloc (World.alloc w _) _) = W at *
  generalize #[Value.int .i64 v1, .int .i64 v2, .int .i64 v3, .int .i64 v4, .int .i64 v5, .int .i64 v6, .int .i64 v7, .int .i64 v8, .int .i64 v9] = A at *
  go_loopw [4] (fun s4 wr => ∃ j : Nat, s4 = .int .i64 j ∧ j ≤ 9 ∧ wr = W ∧ Hid ((N.take j).all okN = true)) (fun s4 _ => 9 - (intOf s4).toNat)
  case atStart => exact ⟨0, rfl, by omega, rfl, Lib.hid rfl⟩
  case round =>
    obtain ⟨j, rfl, hj, rfl, hrel⟩ := hrel
    have HREL := hrel
    clear hrel
    by_cases hlt : j < 9
    · have tj : (j : Int) < 9 := by omega
      have cA := (cell_at HC.out j).trans (HG.out j hlt)
      have fA := free_at HC.out j
      have zA := szs (block_lt HC.out)
      have HN' := Lib.hid (HN.out j hlt)
      have HM' := Lib.hid (HM.out j hlt HREL.out)
      generalize N.getD j 0 = x at *
      by_cases x1 : x < -1125899906842624
      · have y := HN'.out (by simp [okN]; omega)
        go_wp2_with fail
        go_returns
        exact ⟨by simp [y], BW.out⟩
      · by_cases x2 : 1125899906842624 < x
        · have y := HN'.out (by simp [okN]; omega)
          have x1' : -1125899906842624 ≤ x := by omega
          go_wp2_with fail
          go_returns
          exact ⟨by simp [y], BW.out⟩
        · have HR := Lib.hid (HM'.out (by simp [okN]; omega))
          have x1' : -1125899906842624 ≤ x := by omega
          have x2' : x ≤ 1125899906842624 := by omega
          go_wp2_with fail
          go_roundw
          case rel => exact ⟨j + 1, by go_num, by omega, trivial, HR⟩
          case measure => simp [intOf]; omega
    · obtain rfl : j = 9 := by omega
      have y := HY.out HREL.out
      go_wp2_with fail
      go_returns
      exact ⟨by simp [y], BW.out⟩
end Go.Proofs.Ytlnfhlmgnppcbaa

/- A journal's Append, both sides. -/
namespace Go.Proofs.Ytlnfhlmgnppcbaa
open Go.RowKit Go.ChangeShapes Go.WideShapes Go.Deep
set_option linter.unusedVariables false
set_option linter.unusedSimpArgs false
theorem flat_cells {w : World} {ao : Option Addr} {n c : Nat} {B : Nat → Nat} (h : BSl w ao n c B) {g o : Nat} (e : ao = some ⟨g, o, none⟩) {j : Nat} {u : Value} (hu : (flat (bf B) n)[j]? = some u) : w.cell? ((⟨g, o, none⟩ : Addr).add j) = some u := by
  obtain ⟨k1, k2, k3⟩ := flat_at (bf_len B) hu
  obtain ⟨g', o', e', hc⟩ := h.cell k1
  rw [e] at e'
  cases e'
  have := hc _ k2
  rw [k3] at this
  rw [add_flat, show o + j = o + j / 1 * 1 + j % 1 by omega]
  exact this
/-- 'append' to bytes without room: new bytes. -/
theorem wpList_append_G {ops : Array Oper} {rest : List Oper} {o : Oper} {a : Act} {Q : Exit → Act → World → Prop} (w : World) (hgd : o.guard = none) (x1 x2 : Operand) (ho : o.op = .call { callee := .builtin .append, args := #[x1, x2], argTypes := #[22, 22] })
    (ao1 : Option Addr) (n : Nat) (A : Nat → Nat) (hs : a.eval x1 = .slice ao1 n n) (h1 : BSl w ao1 n n A) (ao : Option Addr) (m c : Nat) (B : Nat → Nat) (hx : a.eval x2 = .slice ao m c) (h2 : BSl w ao m c B) (hn : n + m ≤ 100000000) (hm : 0 < m)
    (h : ∀ v' w' R, BRow w' w.heap.size v' (n + m) R → ents R (n + m) = ents A n ++ ents B m → Below w.heap.size w w' → wpList Try.prog ops Q rest (a.put o.dst v') w') : wpList Try.prog ops Q (o :: rest) a w := by
  obtain ⟨i0, hi0, hz0, hz1, hz2⟩ := info_parts info_u8
  obtain ⟨g, o2, e, _⟩ := h2.cell hm
  subst e
  have q1 : ∀ u ∈ flat (bf B) m, u.oneCell' = true := fun u hu => by
    obtain ⟨j, hj⟩ := List.getElem?_of_mem hu
    exact bf_one B _ u (List.mem_of_getElem? (flat_at (bf_len B) hj).2.2)
  refine wpList_append_grows w hgd x1 x2 22 ho 5 i0 _ 1 1 Try.underlying22 hi0 hz0 hz1 hz2 rfl (by decide) ao1 n n (flat (bf A) n) hs h1.hno (flat_len (bf_len A) n) (fun b hb j u hu => by
      by_cases h0 : n = 0
      · subst h0; simp [flat] at hu
      obtain ⟨g', o', e', _⟩ := h1.cell (i := 0) (by omega)
      rw [hb] at e'
      cases e'
      exact flat_cells h1 hb hu) ⟨g, o2, none⟩ m c (flat (bf B) m) hx (flat_len (bf_len B) m) (fun j u hu => flat_cells h2 rfl hu) q1 (by omega) (by unfold maxLen; omega) (by omega) ?_
  intro v' w' k1 k2
  have r : Row w' w.heap.size 5 1 v' (n + m) (cat (bf A) n (bf B)) := by unfold Row; rw [flat_cat]; exact k1
  rw [cat_bf] at r
  exact h v' w' _ r (ents_cat A n m B) ((Off.of_grown k2).toBelow (Nat.le_refl _) (fun q hq hh => by simp at hh))
/-- What Append hands back. -/
def appendE (L : List Nat) (v : Ev) : List Nat × Int := if framedB v = true then (L ++ frameB v, 0) else ([], 1)
theorem framed_encode {v : Ev} (hf : framedB v = true) : (encE v).length ≤ 90 := encE_len (framed_in hf)
theorem BytesE.congr {w w' : World} {l l' : List Nat} {x x' : Int} {e : Ending} (h : BytesE w l x e w') (h1 : l = l') (h2 : x = x') : BytesE w l' x' e w' := by subst h1 h2; exact h
theorem append_no {L : List Nat} {v : Ev} (h : framedB v = false) : appendE L v = ([], 1) := by unfold appendE; rw [h]; rfl
theorem append_yes {L : List Nat} {v : Ev} (h : framedB v = true) : appendE L v = (L ++ sealB (encE v), 0) := by unfold appendE; rw [h]; rfl
theorem ents_byte {R : Nat → Nat} {k : Nat} {l : List Nat} (h : ents R k = l) (hl : ∀ x ∈ l, x < 256) : ∀ i, i < k → R i < 256 := fun i hi => hl _ (by rw [← h]; exact mem_ents.2 ⟨i, hi, rfl⟩)
theorem encE_byte (v : Ev) : ∀ x ∈ encE v, x < 256 := encL_byte _
set_option maxRecDepth 4000 in
set_option maxHeartbeats 4000000 in
theorem append14 (ao : Option Addr) (n c : Nat) (B : Nat → Nat) (v : Ev) (w : World) (h : BSl w ao n c B) (hn : n ≤ 10000000) : Calls Try.prog 14 #[.slice ao n c, .agg (eC v)] w (BytesE w (appendE (ents B n) v).1 (appendE (ents B n) v).2) := by
  have HS := Lib.hid h
  have BW : Hid (Below w.heap.size w (w.alloc (.cells (eC v) 24))) := Lib.hid (by (repeat' (first | (with_reducible exact Below.refl _ _) | (with_reducible assumption) | (with_reducible refine Below.drew ?_) | (with_reducible refine below_drewN ?_ _) | (with_reducible refine Below.alloc ?_ ?_ _) | (with_reducible refine Below.setCell ?_ ?_ _) | go_size)))
  have CF := Lib.hid (framed34 v (w.alloc (.cells (eC v) 24)))
  have CE := Lib.hid (fun (wa : World) (hv : inN v) => encode36 v wa hv)
  have HFE := Lib.hid (fun (hf : framedB v = true) => And.intro (framed_in hf) (framed_encode hf))
  have HB := Lib.hid (encE_byte v)
  have NO := Lib.hid (fun (hf : framedB v = false) => append_no (L := ents B n) hf)
  have YES := Lib.hid (fun (hf : framedB v = true) => append_yes (L := ents B n) hf)
  clear h
  obtain ⟨f, hf⟩ : ∃ f, f = framedB v := ⟨_, rfl⟩
  obtain ⟨X, hX⟩ : ∃ X, X = appendE (ents B n) v := ⟨_, rfl⟩
  obtain ⟨E, hE⟩ : ∃ E, E = encE v := ⟨_, rfl⟩
  obtain ⟨I, hI⟩ : ∃ I, I = inN v := ⟨_, rfl⟩
  rw [← hf] at CF HFE NO YES
  rw [← hX] at NO YES ⊢
  rw [← hE] at CE HFE HB YES
  rw [← hI] at CE HFE
  clear hf hX hE hI
  obtain ⟨v1, v2, v3, v4, v5, v6, v7, v8, v9⟩ := v
  unfold eC at *
  dsimp only at BW CF CE ⊢
  go_enter Try.func14, Try.ntmps14
  go_wp2_with fail
  refine CF.out.mono ?_
  rintro e w1 ⟨rfl, b1⟩
  have B1 := Lib.hid (BW.out.trans (b1.mono BW.out.size))
  cases f with
  | false =>
    have hx := NO.out rfl
    go_wp2_with fail
    go_returns
    rw [hx]
    exact ⟨_, 0, fun _ => 0, rfl, rfl, BRow.none _ _, B1.out⟩
  | true =>
    have HX := Lib.hid (YES.out rfl)
    clear YES NO
    have hc1 := (b1.block _ (block_lt (heap_alloc_new _ _))).trans (heap_alloc_new w (.cells #[.int .i64 v1, .int .i64 v2, .int .i64 v3, .int .i64 v4, .int .i64 v5, .int .i64 v6, .int .i64 v7, .int .i64 v8, .int .i64 v9] 24))
    have k0 := cell_at hc1 0
    have k1 := cell_at hc1 1
    have k2 := cell_at hc1 2
    have k3 := cell_at hc1 3
    have k4 := cell_at hc1 4
    have k5 := cell_at hc1 5
    have k6 := cell_at hc1 6
    have k7 := cell_at hc1 7
    have k8 := cell_at hc1 8
    have z1 := szs (block_lt hc1)
    obtain ⟨hin, hel⟩ := HFE.out rfl
    have CC := Lib.hid (CE.out w1 hin)
    clear CF b1 hin
    go_wp2_with fail
    refine CC.out.mono ?_
    rintro e w2 ⟨u2, k2, R2, rfl, l2, r2, b2⟩
    obtain ⟨a2, c2, rfl, s2⟩ := BRow.toSl r2
    have hk2 : k2 ≤ 90 := by
      have h := congrArg List.length l2
      rw [ents_len] at h
      omega
    have CS := Lib.hid (seal35 a2 k2 c2 R2 w2 s2 (ents_byte l2 HB.out) (by omega))
    rw [l2] at CS
    have B2 := Lib.hid (B1.out.trans (b2.mono B1.out.size))
    clear CC CE l2 r2 b2 s2 k0 k1 k3 k4 k5 k6 k7 k8
    go_wp2_with fail
    refine CS.out.mono ?_
    rintro e w3 ⟨u3, k3, R3, rfl, l3, r3, b3⟩
    obtain ⟨a3, c3, rfl, s3⟩ := BRow.toSl r3
    have hk3 : k3 ≤ 104 := by
      have h := congrArg List.length l3
      have h2 := codeN_len (n := (E.length : Int)) (by omega) (by omega)
      rw [ents_len, sealB_len] at h
      omega
    have B3 := Lib.hid (B2.out.trans (b3.mono B2.out.size))
    have S3 := Lib.hid s3
    have L3 := Lib.hid l3
    have B4 : Hid (Below w.heap.size w (w3.alloc (.cells #[] 5))) := Lib.hid (B3.out.alloc B3.out.size _)
    have R4 : Hid (BRow (w3.alloc (.cells #[] 5)) w3.heap.size (.slice (some ⟨w3.heap.size, 0, none⟩) 0 0) 0 (fun _ => 0)) := Lib.hid (Row.of_block (heap_alloc_new _ _) (Nat.le_refl _) (bf_len _) rfl (by decide))
    have B34 : Hid (Below w3.heap.size w3 (w3.alloc (.cells #[] 5))) := Lib.hid (by (repeat' (first | (with_reducible exact Below.refl _ _) | (with_reducible assumption) | (with_reducible refine Below.drew ?_) | (with_reducible refine below_drewN ?_ _) | (with_reducible refine Below.alloc ?_ ?_ _) | (with_reducible refine Below.setCell ?_ ?_ _) | go_size)))
    have le34 : w3.heap.size ≤ (w3.alloc (.cells #[] 5)).heap.size := B34.out.size
    clear CS l3 r3 b3 s3
    go_wp2_with (at_builtin; first | (refine wpList_append_B _ rfl (.tmp 17) (.tmp 18) rfl w3.heap.size _ 0 (fun _ => 0) rfl R4.out ao n c B rfl (HS.out.below B4.out) (by omega) le34 ?_))
    intro v5 w5 R5 r5 l5 b5
    have B35 := Lib.hid (B34.out.trans b5)
    have R5r := Lib.hid r5
    have L5 := Lib.hid l5
    clear r5 l5 b5
    go_wp2_with (at_builtin; first | (refine wpList_append_B w5 rfl (.tmp 19) (.tmp 20) rfl w3.heap.size v5 n R5 rfl R5r.out a3 k3 c3 R3 rfl (S3.out.below B35.out) (by omega) B35.out.size ?_))
    intro v6 w6 R6 r6 l6 b6
    have B6 := Lib.hid (B3.out.trans ((B35.out.trans b6).mono B3.out.size))
    have R6r := Lib.hid (Row.base_mono r6 B3.out.size)
    have L6 := Lib.hid l6
    clear r6 l6 b6
    go_wp2_with fail
    go_returns
    rw [HX.out]
    refine ⟨_, _, R6, rfl, ?_, R6r.out, B6.out⟩
    rw [L6.out, L5.out, L3.out]
    rfl
end Go.Proofs.Ytlnfhlmgnppcbaa

/- The program's Append. -/
namespace Go.Proofs.Ytlnfhlmgnppcbaa
open Go.RowKit Go.ChangeShapes Go.WideShapes Go.Deep
set_option linter.unusedVariables false
set_option linter.unusedSimpArgs false
theorem BSl.clip {w : World} {ao : Option Addr} {n c : Nat} {B : Nat → Nat} (h : BSl w ao n c B) (hc : n ≤ 9223372036854775807) (h0 : ao = Option.none → n = 0) : BSl w ao n n B := ⟨Nat.le_refl _, hc, fun e => ⟨h0 e, h0 e⟩, h.len, h.sl⟩
set_option maxRecDepth 4000 in
set_option maxHeartbeats 4000000 in
theorem append13 (ao : Option Addr) (n c : Nat) (B : Nat → Nat) (v : Ev) (w : World) (h : BSl w ao n c B) (hn : n ≤ 10000000) : Calls Try.prog 13 #[.slice ao n c, .agg (eC v)] w (BytesE w (appendE (ents B n) v).1 (appendE (ents B n) v).2) := by
  have HS := Lib.hid h
  have BW : Hid (Below w.heap.size w (w.alloc (.cells (eC v) 24))) := Lib.hid (by (repeat' (first | (with_reducible exact Below.refl _ _) | (with_reducible assumption) | (with_reducible refine Below.drew ?_) | (with_reducible refine below_drewN ?_ _) | (with_reducible refine Below.alloc ?_ ?_ _) | (with_reducible refine Below.setCell ?_ ?_ _) | go_size)))
  have CF := Lib.hid (framed33 v (w.alloc (.cells (eC v) 24)))
  have CE := Lib.hid (fun (wa : World) (hv : inN v) => encode23 v wa hv)
  have HFE := Lib.hid (fun (hf : framedB v = true) => And.intro (framed_in hf) (framed_encode hf))
  have HB := Lib.hid (encE_byte v)
  have NO := Lib.hid (fun (hf : framedB v = false) => append_no (L := ents B n) hf)
  have YES := Lib.hid (fun (hf : framedB v = true) => append_yes (L := ents B n) hf)
  clear h
  obtain ⟨f, hf⟩ : ∃ f, f = framedB v := ⟨_, rfl⟩
  obtain ⟨X, hX⟩ : ∃ X, X = appendE (ents B n) v := ⟨_, rfl⟩
  obtain ⟨E, hE⟩ : ∃ E, E = encE v := ⟨_, rfl⟩
  obtain ⟨I, hI⟩ : ∃ I, I = inN v := ⟨_, rfl⟩
  rw [← hf] at CF HFE NO YES
  rw [← hX] at NO YES ⊢
  rw [← hE] at CE HFE HB YES
  rw [← hI] at CE HFE
  clear hf hX hE hI
  obtain ⟨v1, v2, v3, v4, v5, v6, v7, v8, v9⟩ := v
  unfold eC at *
  dsimp only at BW CF CE ⊢
  go_enter Try.func13, Try.ntmps13
  go_wp2_with fail
  refine CF.out.mono ?_
  rintro e w1 ⟨rfl, b1⟩
  have B1 := Lib.hid (BW.out.trans (b1.mono BW.out.size))
  cases f with
  | false =>
    have hx := NO.out rfl
    go_wp2_with fail
    go_returns
    rw [hx]
    exact ⟨_, 0, fun _ => 0, rfl, rfl, BRow.none _ _, B1.out⟩
  | true =>
    have HX := Lib.hid (YES.out rfl)
    clear YES NO
    have hc1 := (b1.block _ (block_lt (heap_alloc_new _ _))).trans (heap_alloc_new w (.cells #[.int .i64 v1, .int .i64 v2, .int .i64 v3, .int .i64 v4, .int .i64 v5, .int .i64 v6, .int .i64 v7, .int .i64 v8, .int .i64 v9] 24))
    have k0 := cell_at hc1 0
    have k1 := cell_at hc1 1
    have k2 := cell_at hc1 2
    have k3 := cell_at hc1 3
    have k4 := cell_at hc1 4
    have k5 := cell_at hc1 5
    have k6 := cell_at hc1 6
    have k7 := cell_at hc1 7
    have k8 := cell_at hc1 8
    have z1 := szs (block_lt hc1)
    obtain ⟨hin, hel⟩ := HFE.out rfl
    have CC := Lib.hid (CE.out w1 hin)
    clear CF b1 hin
    go_wp2_with fail
    refine CC.out.mono ?_
    rintro e w2 ⟨u2, k2, R2, rfl, l2, r2, b2⟩
    obtain ⟨a2, c2, rfl, s2⟩ := BRow.toSl r2
    have hk2 : k2 ≤ 90 := by
      have h := congrArg List.length l2
      rw [ents_len] at h
      omega
    have CS := Lib.hid (seal22 a2 k2 c2 R2 w2 s2 (ents_byte l2 HB.out) (by omega))
    rw [l2] at CS
    have B2 := Lib.hid (B1.out.trans (b2.mono B1.out.size))
    clear CC CE l2 r2 b2 s2 k0 k1 k3 k4 k5 k6 k7 k8
    go_wp2_with fail
    refine CS.out.mono ?_
    rintro e w3 ⟨u3, k3, R3, rfl, l3, r3, b3⟩
    obtain ⟨a3, c3, rfl, s3⟩ := BRow.toSl r3
    have hk3 : k3 ≤ 104 := by
      have h := congrArg List.length l3
      have h2 := codeN_len (n := (E.length : Int)) (by omega) (by omega)
      rw [ents_len, sealB_len] at h
      omega
    have hk30 : 0 < k3 := by
      have h := congrArg List.length l3
      rw [ents_len, sealB_len] at h
      omega
    have B3 := Lib.hid (B2.out.trans (b3.mono B2.out.size))
    have S3 := Lib.hid s3
    have L3 := Lib.hid l3
    clear CS l3 r3 b3 s3
    have hk0 : 0 < k3 := hk30
    have hnc := HS.out.hm
    have hcc := HS.out.hc
    have HK := Lib.hid (BSl.clip HS.out (by omega) (fun e => (HS.out.hno e).1))
    have REST : ∀ (v' : Value) (w' : World) (R : Nat → Nat), BRow w' w3.heap.size v' (n + k3) R → ents R (n + k3) = ents B n ++ ents R3 k3 → Below w3.heap.size w3 w' → BytesE w X.1 X.2 (.returned (.tuple #[v', .int .i64 0])) w' := fun v' w' R r l b => by
      rw [HX.out]
      refine ⟨v', n + k3, R, rfl, ?_, Row.base_mono r B3.out.size, B3.out.trans (b.mono B3.out.size)⟩
      rw [l, L3.out]
    have RS := Lib.hid REST
    clear REST HX
    cases ao with
    | none =>
      obtain ⟨rfl, rfl⟩ := HS.out.hno rfl
      go_wp2_with (at_builtin; go_loud (refine wpList_append_G w3 rfl (.tmp 25) (.tmp 26) rfl none 0 B rfl (HK.out.below B3.out) a3 k3 c3 R3 rfl S3.out (by omega) hk0 ?_))
      intro v6 w6 R6 r6 l6 b6
      have Z := Lib.hid (RS.out v6 w6 R6 (by simpa using r6) (by simpa using l6) b6)
      clear r6 l6 b6 RS
      go_wp2_with fail
      go_returns
      exact Z.out
    | some ad =>
      go_wp2_with (at_builtin; go_loud (refine wpList_append_G w3 rfl (.tmp 25) (.tmp 26) rfl (some ad) n B rfl (HK.out.below B3.out) a3 k3 c3 R3 rfl S3.out (by omega) hk0 ?_))
      intro v6 w6 R6 r6 l6 b6
      have Z := Lib.hid (RS.out v6 w6 R6 r6 l6 b6)
      clear r6 l6 b6 RS
      go_wp2_with fail
      go_returns
      exact Z.out
end Go.Proofs.Ytlnfhlmgnppcbaa
