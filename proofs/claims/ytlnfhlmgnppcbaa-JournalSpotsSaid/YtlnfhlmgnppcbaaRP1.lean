/- Repair, both sides. -/
import Derived.Test.YtlnfhlmgnppcbaaRD1
import Derived.Test.YtlnfhlmgnppcbaaRD2
namespace Go.Proofs.Ytlnfhlmgnppcbaa
open Go.RowKit Go.ChangeShapes Go.WideShapes Go.Deep
set_option linter.unusedVariables false
set_option linter.unusedSimpArgs false
/-- What Repair hands back. -/
def repairE (L : List Nat) : List Nat × Int := (L.take (readE L).2.toNat, (L.length : Int) - (readE L).2)
theorem BSl.cut {w : World} {ao : Option Addr} {n c : Nat} {B : Nat → Nat} (h : BSl w ao n c B) {q : Nat} (hq : q ≤ n) : BSl w ao q c B := ⟨by have := h.hm; omega, h.hc, fun e => ⟨by have := (h.hno e).1; omega, (h.hno e).2⟩, h.len, fun i hi => h.sl i (by omega)⟩
theorem ents_cut {B : Nat → Nat} {n q : Nat} (h : q ≤ n) : (ents B n).take q = ents B q := by
  apply List.ext_getElem?
  intro i
  rw [List.getElem?_take]
  by_cases hi : i < q
  · rw [if_pos hi, ents_get (by omega), ents_get hi]
  · rw [if_neg hi, List.getElem?_eq_none (by rw [ents_len]; omega)]
set_option maxRecDepth 4000 in
set_option maxHeartbeats 4000000 in
theorem clone42 (ao : Option Addr) (n c : Nat) (B : Nat → Nat) (w : World) (h : BSl w ao n c B) (hn : n ≤ 10000000) : Calls Try.prog 42 #[.slice ao n c] w (Bytes w (ents B n)) := by
  have HS := Lib.hid h
  clear h
  cases ao with
  | none =>
    obtain ⟨rfl, rfl⟩ := HS.out.hno rfl
    have hne : Sem.run Try.prog (binOp BinOp.eql 22 (Value.slice none 0 0) (Value.slice none 0 0)) w = .ok (.bool true) w := by kernel_rfl
    go_enter Try.func42, Try.ntmps42
    go_wp2_with fail
    go_returns
    exact ⟨_, 0, B, rfl, rfl, BRow.none _ _, Below.refl _ _⟩
  | some ad =>
    have R4 : Hid (BRow (w.alloc (.cells #[] 5)) w.heap.size (.slice (some ⟨w.heap.size, 0, none⟩) 0 0) 0 (fun _ => 0)) := Lib.hid (Row.of_block (heap_alloc_new _ _) (Nat.le_refl _) (bf_len _) rfl (by decide))
    have B34 : Hid (Below w.heap.size w (w.alloc (.cells #[] 5))) := Lib.hid (by (repeat' (first | (with_reducible exact Below.refl _ _) | (with_reducible assumption) | (with_reducible refine Below.drew ?_) | (with_reducible refine below_drewN ?_ _) | (with_reducible refine Below.alloc ?_ ?_ _) | (with_reducible refine Below.setCell ?_ ?_ _) | go_size)))
    have le34 : w.heap.size ≤ (w.alloc (.cells #[] 5)).heap.size := B34.out.size
    have hne : Sem.run Try.prog (binOp BinOp.eql 22 (Value.slice (some ad) n c) (Value.slice none 0 0)) w = .ok (.bool false) w := by kernel_rfl
    go_enter Try.func42, Try.ntmps42
    go_wp2_with (at_builtin; first | (refine wpList_append_B _ rfl (.tmp 5) (.tmp 6) rfl w.heap.size _ 0 (fun _ => 0) rfl R4.out (some ad) n c B rfl (HS.out.below B34.out) (by omega) le34 ?_))
    intro v5 w5 R5 r5 l5 b5
    have L5 := Lib.hid l5
    have R5r := Lib.hid r5
    have B5 := Lib.hid (B34.out.trans b5)
    clear r5 l5 b5
    go_wp2_with fail
    go_returns
    exact ⟨_, _, R5, rfl, by rw [L5.out]; rfl, R5r.out, B5.out⟩
set_option maxRecDepth 4000 in
set_option maxHeartbeats 4000000 in
theorem repair19 (ao : Option Addr) (n c : Nat) (B : Nat → Nat) (w : World) (h : BSl w ao n c B) (hB : ∀ i, i < n → B i < 256) (hn : n ≤ 1000000) : Calls Try.prog 19 #[.slice ao n c] w (BytesE w (repairE (ents B n)).1 (repairE (ents B n)).2) := by
  have HS := Lib.hid h
  have hmc := h.hm
  have hcc := h.hc
  have R1 := Lib.hid (read17 ao n c B w h hB hn)
  have HF := readE_form (byte_ents hB)
  have HL : Hid ((repairE (ents B n)) = ((ents B n).take (readE (ents B n)).2.toNat, ((ents B n).length : Int) - (readE (ents B n)).2)) := Lib.hid rfl
  generalize repairE (ents B n) = Y at *
  generalize readE (ents B n) = X at *
  obtain ⟨l, x⟩ := X
  dsimp only at HF HL R1
  obtain ⟨q, rfl, hq, _⟩ := HF
  rw [ents_len] at hq
  rw [ents_len, Int.toNat_natCast, ents_cut hq] at HL
  clear h hB
  have e0 : q - 0 = q := by omega
  have tq : (q : Int) ≤ (c : Int) := by omega
  have tq2 : (q : Int) ≤ (n : Int) := by omega
  have SQ := Lib.hid (HS.out.cut hq)
  cases ao with
  | none =>
    obtain ⟨rfl, rfl⟩ := HS.out.hno rfl
    obtain rfl : q = 0 := by omega
    go_enter Try.func19, Try.ntmps19
    go_wp2_with fail
    refine R1.out.mono ?_
    rintro e w1 ⟨v1, k1, E1, rfl, l1, r1, b1⟩
    have B1 := Lib.hid b1
    have C1 := Lib.hid (clone42 none 0 0 B w1 (SQ.out.below b1) (by omega))
    clear R1 l1 r1 b1
    go_wp2_with fail
    refine C1.out.mono ?_
    rintro e w2 ⟨v2, k2, E2, rfl, l2, r2, b2⟩
    have L2 := Lib.hid l2
    have R2 := Lib.hid (Row.base_mono r2 B1.out.size)
    have B2 := Lib.hid (B1.out.trans (b2.mono B1.out.size))
    clear C1 l2 r2 b2
    go_wp2_with fail
    go_returns
    rw [HL.out]
    exact ⟨v2, k2, E2, rfl, L2.out, R2.out, B2.out⟩
  | some ad =>
    go_enter Try.func19, Try.ntmps19
    go_wp2_with fail
    refine R1.out.mono ?_
    rintro e w1 ⟨v1, k1, E1, rfl, l1, r1, b1⟩
    have B1 := Lib.hid b1
    have C1 := Lib.hid (clone42 (some ad) q c B w1 (SQ.out.below b1) (by omega))
    clear R1 l1 r1 b1
    go_wp2_with fail
    refine C1.out.mono ?_
    rintro e w2 ⟨v2, k2, E2, rfl, l2, r2, b2⟩
    have L2 := Lib.hid l2
    have R2 := Lib.hid (Row.base_mono r2 B1.out.size)
    have B2 := Lib.hid (B1.out.trans (b2.mono B1.out.size))
    clear C1 l2 r2 b2
    go_wp2_with fail
    go_returns
    rw [HL.out]
    exact ⟨v2, k2, E2, rfl, L2.out, R2.out, B2.out⟩
set_option maxRecDepth 4000 in
set_option maxHeartbeats 4000000 in
theorem repair20 (ao : Option Addr) (n c : Nat) (B : Nat → Nat) (w : World) (h : BSl w ao n c B) (hB : ∀ i, i < n → B i < 256) (hn : n ≤ 1000000) : Calls Try.prog 20 #[.slice ao n c] w (BytesE w (repairE (ents B n)).1 (repairE (ents B n)).2) := by
  have HS := Lib.hid h
  have hmc := h.hm
  have hcc := h.hc
  have R1 := Lib.hid (read18 ao n c B w h hB hn)
  have HF := readE_form (byte_ents hB)
  have HL : Hid ((repairE (ents B n)) = ((ents B n).take (readE (ents B n)).2.toNat, ((ents B n).length : Int) - (readE (ents B n)).2)) := Lib.hid rfl
  generalize repairE (ents B n) = Y at *
  generalize readE (ents B n) = X at *
  obtain ⟨l, x⟩ := X
  dsimp only at HF HL R1
  obtain ⟨q, rfl, hq, _⟩ := HF
  rw [ents_len] at hq
  rw [ents_len, Int.toNat_natCast, ents_cut hq] at HL
  clear h hB
  have e0 : q - 0 = q := by omega
  have tq : (q : Int) ≤ (c : Int) := by omega
  have tq2 : (q : Int) ≤ (n : Int) := by omega
  have SQ := Lib.hid (HS.out.cut hq)
  cases ao with
  | none =>
    obtain ⟨rfl, rfl⟩ := HS.out.hno rfl
    obtain rfl : q = 0 := by omega
    go_enter Try.func20, Try.ntmps20
    go_wp2_with fail
    refine R1.out.mono ?_
    rintro e w1 ⟨v1, k1, E1, rfl, l1, r1, b1⟩
    have B1 := Lib.hid b1
    have R4 : Hid (BRow (w1.alloc (.cells #[] 5)) w1.heap.size (.slice (some ⟨w1.heap.size, 0, none⟩) 0 0) 0 (fun _ => 0)) := Lib.hid (Row.of_block (heap_alloc_new _ _) (Nat.le_refl _) (bf_len _) rfl (by decide))
    have B34 : Hid (Below w1.heap.size w1 (w1.alloc (.cells #[] 5))) := Lib.hid (by (repeat' (first | (with_reducible exact Below.refl _ _) | (with_reducible assumption) | (with_reducible refine Below.drew ?_) | (with_reducible refine below_drewN ?_ _) | (with_reducible refine Below.alloc ?_ ?_ _) | (with_reducible refine Below.setCell ?_ ?_ _) | go_size)))
    have le34 : w1.heap.size ≤ (w1.alloc (.cells #[] 5)).heap.size := B34.out.size
    have S1 := Lib.hid ((SQ.out.below b1).below B34.out)
    clear R1 l1 r1 b1
    go_wp2_with (at_builtin; first | (refine wpList_append_B _ rfl (.tmp 11) (.tmp 14) rfl w1.heap.size _ 0 (fun _ => 0) rfl R4.out (none) 0 0 B rfl S1.out (by omega) le34 ?_))
    intro v2 w2 E2 r2 l2 b2
    have L2 : Hid (ents E2 (0 + 0) = ents B 0) := Lib.hid (by rw [l2]; rfl)
    have R2 := Lib.hid (Row.base_mono r2 B1.out.size)
    have B2 := Lib.hid (B1.out.trans ((B34.out.trans b2).mono B1.out.size))
    clear l2 r2 b2 R4 S1 B34 le34
    go_wp2_with fail
    go_returns
    rw [HL.out]
    exact ⟨v2, _, E2, rfl, L2.out, R2.out, B2.out⟩
  | some ad =>
    go_enter Try.func20, Try.ntmps20
    go_wp2_with fail
    refine R1.out.mono ?_
    rintro e w1 ⟨v1, k1, E1, rfl, l1, r1, b1⟩
    have B1 := Lib.hid b1
    have R4 : Hid (BRow (w1.alloc (.cells #[] 5)) w1.heap.size (.slice (some ⟨w1.heap.size, 0, none⟩) 0 0) 0 (fun _ => 0)) := Lib.hid (Row.of_block (heap_alloc_new _ _) (Nat.le_refl _) (bf_len _) rfl (by decide))
    have B34 : Hid (Below w1.heap.size w1 (w1.alloc (.cells #[] 5))) := Lib.hid (by (repeat' (first | (with_reducible exact Below.refl _ _) | (with_reducible assumption) | (with_reducible refine Below.drew ?_) | (with_reducible refine below_drewN ?_ _) | (with_reducible refine Below.alloc ?_ ?_ _) | (with_reducible refine Below.setCell ?_ ?_ _) | go_size)))
    have le34 : w1.heap.size ≤ (w1.alloc (.cells #[] 5)).heap.size := B34.out.size
    have S1 := Lib.hid ((SQ.out.below b1).below B34.out)
    clear R1 l1 r1 b1
    go_wp2_with (at_builtin; first | (refine wpList_append_B _ rfl (.tmp 11) (.tmp 14) rfl w1.heap.size _ 0 (fun _ => 0) rfl R4.out (some ad) q c B rfl S1.out (by omega) le34 ?_))
    intro v2 w2 E2 r2 l2 b2
    have L2 : Hid (ents E2 q = ents B q) := Lib.hid (by rw [l2]; rfl)
    have R2 := Lib.hid (Row.base_mono r2 B1.out.size)
    have B2 := Lib.hid (B1.out.trans ((B34.out.trans b2).mono B1.out.size))
    clear l2 r2 b2 R4 S1 B34 le34
    go_wp2_with fail
    go_returns
    rw [HL.out]
    exact ⟨v2, _, E2, rfl, L2.out, R2.out, B2.out⟩
end Go.Proofs.Ytlnfhlmgnppcbaa
