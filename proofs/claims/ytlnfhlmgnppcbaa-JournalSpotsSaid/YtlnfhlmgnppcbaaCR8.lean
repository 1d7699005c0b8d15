/- Bytes compared and cloned; the chapter's event. -/
import Derived.Test.YtlnfhlmgnppcbaaCRA
namespace Go.Proofs.Ytlnfhlmgnppcbaa
open Go.RowKit Go.ChangeShapes Go.WideShapes Go.Deep
set_option linter.unusedVariables false
set_option linter.unusedSimpArgs false
theorem equal56 (a1 : Option Addr) (n c1 : Nat) (A : Nat → Nat) (a2 : Option Addr) (m c2 : Nat) (B : Nat → Nat) (w : World) (h1 : BSl w a1 n c1 A) (h2 : BSl w a2 m c2 B) (hA : ∀ i, i < n → A i < 256) (hB : ∀ i, i < m → B i < 256) : Calls Try.prog 56 #[.slice a1 n c1, .slice a2 m c2] w fun e w' => e = .returned (.bool (decide (ents A n = ents B m))) ∧ w = w' := by
  have k1 := convB h1
  have k2 := convB h2
  have EQ := strB_beq (byte_ents hA) (byte_ents hB)
  obtain ⟨r, hr⟩ : ∃ r, r = decide (ents A n = ents B m) := ⟨_, rfl⟩
  rw [← hr] at EQ ⊢
  clear h1 h2 hA hB hr
  generalize strB (ents A n) = s1 at *
  generalize strB (ents B m) = s2 at *
  go_enter Try.func56, Try.ntmps56
  go_wp2_with fail
  go_returns
  exact ⟨rfl, rfl⟩
set_option maxRecDepth 4000 in
set_option maxHeartbeats 4000000 in
theorem clone57 (g o n c : Nat) (B : Nat → Nat) (w : World) (h : BSl w (some ⟨g, o, none⟩) n c B) (hn : n ≤ 10000000) : Calls Try.prog 57 #[.slice (some ⟨g, o, none⟩) n c] w (Bytes w (ents B n)) := by
  have HS := Lib.hid h
  clear h
  have R4 : Hid (BRow (w.alloc (.cells #[] 5)) w.heap.size (.slice (some ⟨w.heap.size, 0, none⟩) 0 0) 0 (fun _ => 0)) := Lib.hid (Row.of_block (heap_alloc_new _ _) (Nat.le_refl _) (bf_len _) rfl (by decide))
  have B34 : Hid (Below w.heap.size w (w.alloc (.cells #[] 5))) := Lib.hid (by (repeat' (first | (with_reducible exact Below.refl _ _) | (with_reducible assumption) | (with_reducible refine Below.drew ?_) | (with_reducible refine below_drewN ?_ _) | (with_reducible refine Below.alloc ?_ ?_ _) | (with_reducible refine Below.setCell ?_ ?_ _) | go_size)))
  have le34 : w.heap.size ≤ (w.alloc (.cells #[] 5)).heap.size := B34.out.size
  have hne : Sem.run Try.prog (binOp BinOp.eql 22 (Value.slice (some { block := g, off := o }) n c) (Value.slice none 0 0)) w = .ok (.bool false) w := by kernel_rfl
  go_enter Try.func57, Try.ntmps57
  go_wp2_with (at_builtin; first | (refine wpList_append_B _ rfl (.tmp 5) (.tmp 6) rfl w.heap.size _ 0 (fun _ => 0) rfl R4.out (some ⟨g, o, none⟩) n c B rfl (HS.out.below B34.out) (by omega) le34 ?_))
  intro v5 w5 R5 r5 l5 b5
  have L5 := Lib.hid l5
  have R5r := Lib.hid r5
  have B5 := Lib.hid (B34.out.trans b5)
  clear r5 l5 b5
  go_wp2_with fail
  go_returns
  exact ⟨_, _, R5, rfl, by rw [L5.out]; rfl, R5r.out, B5.out⟩
theorem beat32 (w : World) : Calls Try.prog 32 #[] w fun e w' => e = .returned (.agg (eC ⟨1, 2, 100, 100, 10, 0, 0, 0, 0⟩)) ∧ Below w.heap.size w w' := by
  unfold eC
  go_enter Try.func32, Try.ntmps32
  go_wp2_with fail
  have hx := heap_alloc_new w (.cells #[.int .i64 1, .int .i64 2, .int .i64 100, .int .i64 100, .int .i64 10, .int .i64 0, .int .i64 0, .int .i64 0, .int .i64 0] 24)
  have BB : Below w.heap.size w (w.alloc (.cells #[.int .i64 1, .int .i64 2, .int .i64 100, .int .i64 100, .int .i64 10, .int .i64 0, .int .i64 0, .int .i64 0, .int .i64 0] 24)) := by (repeat' (first | (with_reducible exact Below.refl _ _) | (with_reducible assumption) | (with_reducible refine Below.drew ?_) | (with_reducible refine below_drewN ?_ _) | (with_reducible refine Below.alloc ?_ ?_ _) | (with_reducible refine Below.setCell ?_ ?_ _) | go_size))
  generalize w.alloc _ = w2 at *
  generalize w.heap.size = b at *
  have k0 := cell_at hx 0
  have k1 := cell_at hx 1
  have k2 := cell_at hx 2
  have k3 := cell_at hx 3
  have k4 := cell_at hx 4
  have k5 := cell_at hx 5
  have k6 := cell_at hx 6
  have k7 := cell_at hx 7
  have k8 := cell_at hx 8
  exact bodyPost_ret (v := .agg #[.int .i64 1, .int .i64 2, .int .i64 100, .int .i64 100, .int .i64 10, .int .i64 0, .int .i64 0, .int .i64 0, .int .i64 0]) (by simp [results, Try.results32, go_sem, k0, k1, k2, k3, k4, k5, k6, k7, k8]) rfl ⟨rfl, BB⟩
end Go.Proofs.Ytlnfhlmgnppcbaa
