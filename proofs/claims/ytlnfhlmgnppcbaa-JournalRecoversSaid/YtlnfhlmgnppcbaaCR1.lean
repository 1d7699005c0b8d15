/- The table of checksums, and the sum of bytes by it. -/
import Derived.Test.YtlnfhlmgnppcbaaProg
import Derived.Test.YtlnfhlmgnppcbaaBS
import Derived.Test.YtlnfhlmgnppcbaaAR
import Derived.Test.YtlnfhlmgnppcbaaBC
import Derived.Test.YtlnfhlmgnppcbaaWI3
import Derived.Test.YtlnfhlmgnppcbaaSB
import Derived.Deep.WholeRow
namespace Go.Proofs.Ytlnfhlmgnppcbaa
open Go.RowKit Go.ChangeShapes Go.WideShapes Go.Deep
set_option linter.unusedVariables false
set_option linter.unusedSimpArgs false
/-- The table's cells when the first k stand. -/
def tabA (k : Nat) : Array Value := ((List.range 256).map fun i => Value.int .u32 ((if i < k then tab i else 0 : Nat) : Int)).toArray
theorem tabA_size (k : Nat) : (tabA k).size = 256 := by simp [tabA]
theorem tabA_at (k : Nat) {i : Nat} (hi : i < 256) : (tabA k)[i]? = some (.int .u32 ((if i < k then tab i else 0 : Nat) : Int)) := by simp [tabA, hi]
theorem tabA_one (k : Nat) : (tabA k).all (·.oneCell') = true := Array.all_eq_true_iff_forall_mem.2 (fun v hv => by
  simp only [tabA, List.mem_toArray, List.mem_map] at hv
  obtain ⟨i, _, rfl⟩ := hv
  rfl)
theorem tabA_set {k : Nat} (hk : k < 256) : (tabA k).setIfInBounds k (.int .u32 (tab k : Int)) = tabA (k + 1) := by
  apply Array.ext_getElem?
  intro i
  by_cases e : k = i
  · subst e
    rw [Array.getElem?_setIfInBounds_self_of_lt (by rw [tabA_size]; exact hk), tabA_at _ hk, if_pos (by omega)]
  · rw [Array.getElem?_setIfInBounds_ne e]
    by_cases hi : i < 256
    · rw [tabA_at _ hi, tabA_at _ hi]
      by_cases h : i < k
      · rw [if_pos h, if_pos (by omega)]
      · rw [if_neg h, if_neg (by omega)]
    · rw [Array.getElem?_eq_none (by rw [tabA_size]; omega), Array.getElem?_eq_none (by rw [tabA_size]; omega)]
theorem info_tab : (Try.prog.info? 132).map (fun i => (i.zero, i.size)) = some (some (.agg (tabA 0)), 256) := by kernel_rfl
theorem and1_u32 {x : Nat} (h : x < 4294967296) : bits .and .u32 (x : Int) 1 = ((x % 2 : Nat) : Int) := by
  rw [show (1 : Int) = ((1 : Nat) : Int) from rfl, u32_and_nat x 1 h (by decide), nat_mask1]
/-- The two blocks of the table. -/
structure TabM (W0 wr : World) (k : Nat) : Prop where
  res : wr.heap[W0.heap.size]? = some (.cells (tabA 0) 132 (0, 0))
  tb : wr.heap[W0.heap.size + 1]? = some (.cells (tabA k) 132 (0, 0))
  bel : Below W0.heap.size W0 wr
theorem TabM.start (w : World) : TabM w ((w.alloc (.cells (tabA 0) 132)).alloc (.cells (tabA 0) 132)) 0 := by
  have h0 := heap_alloc_new w (.cells (tabA 0) 132)
  have hb : Below (w.alloc (.cells (tabA 0) 132)).heap.size (w.alloc (.cells (tabA 0) 132)) ((w.alloc (.cells (tabA 0) 132)).alloc (.cells (tabA 0) 132)) := (Below.refl _ _).alloc (Nat.le_refl _) _
  refine ⟨(hb.block _ (block_lt h0)).trans h0, ?_, by (repeat' (first | (with_reducible exact Below.refl _ _) | (with_reducible assumption) | (with_reducible refine Below.drew ?_) | (with_reducible refine below_drewN ?_ _) | (with_reducible refine Below.alloc ?_ ?_ _) | (with_reducible refine Below.setCell ?_ ?_ _) | go_size))⟩
  have h1 := heap_alloc_new (w.alloc (.cells (tabA 0) 132)) (.cells (tabA 0) 132)
  rwa [show (w.alloc (.cells (tabA 0) 132)).heap.size = w.heap.size + 1 by simp] at h1
theorem TabM.set {W0 wr : World} {k : Nat} (h : TabM W0 wr k) (hk : k < 256) : TabM W0 (wr.setCell ⟨W0.heap.size + 1, k, none⟩ (.int .u32 (tab k : Int))) (k + 1) := by
  refine ⟨?_, ?_, h.bel.setCell (Nat.le_succ _) _⟩
  · rw [setCell_at h.tb, setAt_ne (by omega)]; exact h.res
  · rw [setCell_at h.tb, setAt_same (block_lt h.tb), tabA_set hk]
set_option maxRecDepth 4000 in
set_option maxHeartbeats 4000000 in
theorem table76 (w : World) : Calls Try.prog 76 #[] w fun e w' => e = .returned (.agg (tabA 256)) ∧ Below w.heap.size w w' := by
  obtain ⟨hz, hsz⟩ := zero_of_info info_tab
  have M0 := Lib.hid (TabM.start w)

  go_enter Try.func76, Try.ntmps76
  go_wp2_with fail
  go_loopw [5] (fun s5 wr => ∃ k : Nat, s5 = .int .i64 k ∧ k ≤ 256 ∧ Hid (TabM w wr k)) (fun s5 _ => 256 - (intOf s5).toNat)
  case atStart => exact ⟨0, rfl, by omega, M0⟩
  case round =>
    obtain ⟨k, rfl, hk, hrel⟩ := hrel
    have HM := hrel
    clear hrel M0
    by_cases hlt : k < 256
    · have tk : (k : Int) < 256 := by omega
      have wk : IntKind.u32.wrap (k : Int) = (k : Int) := by rw [IntKind.wrap_u32]; omega
      go_wp2_with fail
      go_loopw [3, 10] (fun s3 s10 wi => ∃ j : Nat, s10 = .int .i64 j ∧ j ≤ 8 ∧ s3 = .int .u32 ((cN j k : Nat) : Int) ∧ Hid (TabM w wi k)) (fun _ s10 _ => 8 - (intOf s10).toNat)
      case atStart => exact ⟨0, rfl, by omega, rfl, HM⟩
      case round =>
        clear HM
        obtain ⟨j, rfl, hj, rfl, hrel⟩ := hrel
        have HM := hrel
        clear hrel
        by_cases hlj : j < 8
        · have tj : (j : Int) < 8 := by omega
          have hx := cN_lt j (x := k) (by omega)
          have hl := cN_last j k
          have HL := Lib.hid hl
          obtain ⟨x, hxx⟩ : ∃ x, x = cN j k := ⟨_, rfl⟩
          rw [← hxx] at hx HL ⊢
          clear hl hxx
          have A1 := and1_u32 hx
          have A2 : bits .xor .u32 ((x : Int) / 2) 3988292384 = ((x / 2 ^^^ 3988292384 : Nat) : Int) := by
            rw [show (x : Int) / 2 = ((x / 2 : Nat) : Int) by omega, show (3988292384 : Int) = ((3988292384 : Nat) : Int) from rfl, u32_xor_nat (x / 2) 3988292384 (by omega) (by decide)]
          by_cases hodd : x % 2 = 1
          · have e1 : cstep x = x / 2 ^^^ 3988292384 := by unfold cstep; rw [if_pos hodd]
            have E1 := Lib.hid e1
            have t1 : (((x % 2 : Nat) : Int) == 1) = true := by simp; omega
            clear e1 hodd
            replace A2 := Lib.hid A2
            go_wp2_with fail
            go_roundw
            case rel => exact ⟨j + 1, by go_num, by omega, by rw [HL.out, E1.out, ← A2.out]; try rfl, HM⟩
            case measure => simp [intOf]; omega
          · have e1 : cstep x = x / 2 := by unfold cstep; rw [if_neg hodd]
            have E1 := Lib.hid e1
            have t1 : (((x % 2 : Nat) : Int) == 1) = false := by simp; omega
            clear e1 hodd A2
            go_wp2_with fail
            go_roundw
            case rel => exact ⟨j + 1, by go_num, by omega, by rw [HL.out, E1.out]; try rfl, HM⟩
            case measure => simp [intOf]; omega
        · obtain rfl : j = 8 := by omega
          have hx := cN_lt 8 (x := k) (by omega)
          have MS := Lib.hid (HM.out.set hlt)
          unfold tab at MS
          have cA := (cell_at HM.out.tb k).trans (tabA_at k hlt)
          have fA := free_at HM.out.tb k
          have zA := szs (block_lt HM.out.tb)
          generalize cN 8 k = y at *
          clear HM
          go_wp2_with fail
          go_roundw
          case rel => exact ⟨k + 1, by go_num, by omega, MS⟩
          case measure => simp [intOf]; omega
    · obtain rfl : k = 256 := by omega
      have t0' := (tabA_size 256)
      go_wp2_with (first | (refine wpList_load_row rfl 132 (.tmp 1) rfl (w.heap.size + 1) rfl (tabA 256) 256 131 (0, 0) 132 HM.out.tb Try.underlying132 (by rw [tabA_size]; exact hsz) ?_) | (refine wpList_store_row rfl 132 (.tmp 0) (.tmp 25) rfl w.heap.size (tabA 0) (tabA 256) rfl rfl HM.out.res (by rw [tabA_size]; exact hsz) (by rw [tabA_size, tabA_size]) (tabA_one _) ?_))
      have x2 := setAt_same (o := .cells (tabA 256) 132 (0, 0)) (block_lt HM.out.res)
      have hld := run_loadVar_row (P := Try.prog) _ w.heap.size 132 132 (tabA 256) (0, 0) _ x2 Try.underlying132 rfl (by rw [tabA_size]; exact hsz)
      refine bodyPost_ret (v := .agg (tabA 256)) ?_ rfl ⟨rfl, below_setAt (Nat.le_refl _) HM.out.bel⟩
      simp [results, Try.results76, asAddr, Act.put, Result.andThen, Sem.run_bind, hld]
/-- One byte of the sum. -/
theorem sum_step {x c : Nat} (hx : x < 4294967296) (hc : c < 256) : bits .xor .u8 (((x % 256 : Nat) : Int)) (c : Int) = (((x % 256) ^^^ c : Nat) : Int) := by
  rw [u8_xor_nat (x % 256) c (by omega) hc]
theorem xor_byte {x c : Nat} (hc : c < 256) : (x % 256) ^^^ c < 256 := Nat.xor_lt_two_pow (n := 8) (by omega) hc
theorem tab_lt {i : Nat} (h : i < 256) : tab i < 4294967296 := cN_lt 8 (by omega)
set_option maxRecDepth 4000 in
set_option maxHeartbeats 4000000 in
theorem sum60 (ao : Option Addr) (n c : Nat) (B : Nat → Nat) (w : World) (h : BSl w ao n c B) (hB : ∀ i, i < n → B i < 256) : Calls Try.prog 60 #[.slice ao n c] w fun e w' => e = .returned (.int .i64 (sumB (ents B n))) ∧ Below w.heap.size w w' := by
  obtain ⟨hz, hsz⟩ := zero_of_info info_tab
  have hmc := h.hm
  have hcc := h.hc
  have HS := Lib.hid h
  have HB := Lib.hid hB
  have CT := Lib.hid (table76 w)
  clear h hB
  go_enter Try.func60, Try.ntmps60
  go_wp2_with fail
  refine CT.out.mono ?_
  rintro e w1 ⟨rfl, b1⟩
  have B1 := Lib.hid b1
  clear CT b1
  have h0 := heap_alloc_new w1 (.cells (tabA 0) 132)
  go_wp2_with (first | (refine wpList_store_row rfl 132 (.tmp 3) (.tmp 7) rfl w1.heap.size (tabA 0) (tabA 256) rfl rfl h0 (by rw [tabA_size]; exact hsz) (by rw [tabA_size, tabA_size]) (tabA_one _) ?_))
  have x2 := setAt_same (o := .cells (tabA 256) 132 (0, 0)) (block_lt h0)
  have bel2 : Below w.heap.size w (setAt (w1.alloc (.cells (tabA 0) 132)) w1.heap.size (.cells (tabA 256) 132)) := below_setAt B1.out.size (B1.out.alloc B1.out.size _)
  have X2 := Lib.hid x2
  have BL := Lib.hid bel2
  clear h0 x2 bel2
  generalize setAt (w1.alloc (.cells (tabA 0) 132)) w1.heap.size (.cells (tabA 256) 132) = w2 at *
  generalize w1.heap.size = tb at *
  replace HS := Lib.hid (HS.out.below BL.out)
  go_wp2_with fail
  go_loopw [4, 10] (fun s4 s10 wr => ∃ i : Nat, s10 = .int .i64 i ∧ i ≤ n ∧ s4 = .int .u32 ((crcS 4294967295 (ents B i) : Nat) : Int) ∧ wr = w2) (fun _ s10 _ => n - (intOf s10).toNat)
  case atStart => exact ⟨0, rfl, by omega, rfl, rfl⟩
  case round =>
    obtain ⟨i, rfl, hi, rfl, rfl⟩ := hrel
    by_cases hlt : i < n
    · have ti : (i : Int) < n := by omega
      have hb : B i < 256 := HB.out i hlt
      have hx : crcS 4294967295 (ents B i) < 4294967296 := crcS_lt _ (by decide) (fun c hc => by
        obtain ⟨q, hq, rfl⟩ := mem_ents.1 hc
        exact HB.out q (by omega))
      have HN : Hid (crcS 4294967295 (ents B (i + 1)) = _) := Lib.hid (by rw [ents_succ, crcS_snoc, crc_step])
      obtain ⟨g, o, rfl, hg, cB⟩ := BSl.byte HS.out hlt
      have zB := szs hg
      generalize crcS 4294967295 (ents B i) = x at *
      generalize B i = b at *
      have A1 : bits .xor .u8 ((x : Int) % 256) (b : Int) = (((x % 256) ^^^ b : Nat) : Int) := by
        rw [show (x : Int) % 256 = ((x % 256 : Nat) : Int) by omega]
        exact sum_step hx hb
      have hy := xor_byte (x := x) hb
      generalize (x % 256) ^^^ b = y at *
      have hyi : (y : Int) < 256 := by omega
      have cT := (cell_at X2.out y).trans (tabA_at 256 hy)
      rw [if_pos hy] at cT
      have fT := free_at X2.out y
      have zT := szs (block_lt X2.out)
      have hz := tab_lt hy
      have A2 : bits .xor .u32 ((x : Int) / 256) (tab y : Int) = ((x / 256 ^^^ tab y : Nat) : Int) := by
        rw [show (x : Int) / 256 = ((x / 256 : Nat) : Int) by omega, u32_xor_nat (x / 256) (tab y) (by omega) hz]
      generalize tab y = z at *
      go_wp2_with fail
      go_roundw
      case rel => exact ⟨i + 1, by go_num, by omega, by rw [HN.out, ← A2], trivial⟩
      case measure => simp [intOf]; omega
    · obtain rfl : i = n := by omega
      have hx : crcS 4294967295 (ents B i) < 4294967296 := crcS_lt _ (by decide) (fun c hc => by
        obtain ⟨q, hq, rfl⟩ := mem_ents.1 hc
        exact HB.out q (by omega))
      have HX : sumB (ents B i) = 4294967295 - crcS 4294967295 (ents B i) := rfl
      generalize crcS 4294967295 (ents B i) = x at *
      have A3 : bits .xor .u32 IntKind.u32.max (x : Int) = ((4294967295 - x : Nat) : Int) := by
        rw [show IntKind.u32.max = ((4294967295 : Nat) : Int) from rfl, u32_xor_nat 4294967295 x (by decide) hx, Nat.xor_comm, not32 hx]
      go_wp2_with fail
      go_returns
      refine ⟨?_, BL.out⟩
      show Ending.returned (Value.int .i64 (wrap64 ((4294967295 - x : Nat) : Int))) = _
      congr 2
      simp only [wrap64, IntKind.wrap_i64]
      omega
end Go.Proofs.Ytlnfhlmgnppcbaa
