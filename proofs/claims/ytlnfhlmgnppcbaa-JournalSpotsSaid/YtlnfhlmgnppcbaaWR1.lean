/- Write: what its deferred function does. -/
import Derived.Test.YtlnfhlmgnppcbaaCRA
import Derived.Defers
namespace Go.Proofs.Ytlnfhlmgnppcbaa
open Go.RowKit Go.ChangeShapes Go.WideShapes Go.Deep
set_option linter.unusedVariables false
set_option linter.unusedSimpArgs false
/-- The three variables that Write shares with its deferred function: the list (block q0), the bytes (q1), the error (q2). -/
structure WrM (w0 : World) (ao : Option Addr) (n c q1 q2 : Nat) (wr : World) (v : Value) (x : Int) : Prop where
  h1 : q1 = w0.heap.size + 1
  h2 : q2 = w0.heap.size + 2
  m0 : wr.heap[w0.heap.size]? = some (.cells #[.slice ao n c] 30 (0, 0))
  m1 : wr.heap[q1]? = some (.cells #[v] 22 (0, 0))
  m2 : wr.heap[q2]? = some (.cells #[.int .i64 x] 26 (0, 0))
  hb : Below w0.heap.size w0 wr
section
variable {w0 : World} {ao : Option Addr} {n c q1 q2 : Nat} {wr w' : World} {v : Value} {x : Int}
theorem WrM.below (h : WrM w0 ao n c q1 q2 wr v x) (hb : Below (w0.heap.size + 3) wr w') : WrM w0 ao n c q1 q2 w' v x := by
  have h1 := h.h1
  have h2 := h.h2
  exact ⟨h1, h2, (hb.block _ (by omega)).trans h.m0, (hb.block _ (by omega)).trans h.m1, (hb.block _ (by omega)).trans h.m2, h.hb.trans (hb.mono (by omega))⟩
theorem WrM.size (h : WrM w0 ao n c q1 q2 wr v x) : w0.heap.size + 3 ≤ wr.heap.size := by
  have := block_lt h.m2
  have := h.h2
  omega
theorem WrM.grown (h : WrM w0 ao n c q1 q2 wr v x) (hb : Below wr.heap.size wr w') : WrM w0 ao n c q1 q2 w' v x :=
  h.below (hb.mono h.size)
theorem WrM.put1 (h : WrM w0 ao n c q1 q2 wr v x) (v' : Value) : WrM w0 ao n c q1 q2 (wr.setCell ⟨q1, 0, none⟩ v') v' x := by
  have h1 := h.h1
  have h2 := h.h2
  rw [setCell_at h.m1]
  refine ⟨h1, h2, ?_, ?_, ?_, below_setAt (by omega) h.hb⟩
  · rw [setAt_ne (by omega)]; exact h.m0
  · rw [setAt_same (block_lt h.m1)]; rfl
  · rw [setAt_ne (by omega)]; exact h.m2
theorem WrM.put2 (h : WrM w0 ao n c q1 q2 wr v x) (x' : Int) : WrM w0 ao n c q1 q2 (wr.setCell ⟨q2, 0, none⟩ (.int .i64 x')) v x' := by
  have h1 := h.h1
  have h2 := h.h2
  rw [setCell_at h.m2]
  refine ⟨h1, h2, ?_, ?_, ?_, below_setAt (by omega) h.hb⟩
  · rw [setAt_ne (by omega)]; exact h.m0
  · rw [setAt_ne (by omega)]; exact h.m1
  · rw [setAt_same (block_lt h.m2)]; rfl
/-- A block other than the second keeps what it has. -/
theorem off_put1 (h : WrM w0 ao n c q1 q2 wr v x) (v' : Value) : Off (fun i => i = q1) wr (wr.setCell ⟨q1, 0, none⟩ v') := by
  exact (Off.refl (fun i => i = q1) wr).setCell (p := ⟨q1, 0, none⟩) (fun _ => rfl) v'
theorem off_put2 (h : WrM w0 ao n c q1 q2 wr v x) (x' : Int) : Off (fun i => i = q2) wr (wr.setCell ⟨q2, 0, none⟩ (.int .i64 x')) := by
  exact (Off.refl (fun i => i = q2) wr).setCell (p := ⟨q2, 0, none⟩) (fun _ => rfl) _
theorem WrM.row {k : Nat} {R : Nat → Nat} {u : Value} (h : WrM w0 ao n c q1 q2 wr v x) (r : BRow wr (w0.heap.size + 3) u k R) (v' : Value) (x' : Int) : BRow ((wr.setCell ⟨q1, 0, none⟩ v').setCell ⟨q2, 0, none⟩ (.int .i64 x')) (w0.heap.size + 3) u k R := by
  have h1 := h.h1
  have h2 := h.h2
  refine Row.off (X := fun i => i = q1 ∨ i = q2) r (((off_put1 h v').mono (fun i _ hi => .inl hi)).trans (off_put2 (h.put1 v') x') (fun i _ hi => .inr hi)) (fun g hg hx => ?_)
  exact Row.apart' r (q := g) (by omega) (hg ▸ rfl)
theorem WrM.row1 {k : Nat} {R : Nat → Nat} {u : Value} (h : WrM w0 ao n c q1 q2 wr v x) (r : BRow wr (w0.heap.size + 3) u k R) (v' : Value) : BRow (wr.setCell ⟨q1, 0, none⟩ v') (w0.heap.size + 3) u k R := by
  have h1 := h.h1
  refine Row.off (X := fun i => i = q1) r (off_put1 h v') (fun g hg hx => ?_)
  exact Row.apart' r (q := g) (by omega) (hg ▸ rfl)
end
/-- The error in the end. -/
def endX (n : Nat) (x : Int) : Int := if x = 0 ∧ 512 < n then 8 else x
theorem write37 (w0 : World) (ao : Option Addr) (n c q1 q2 : Nat) (wr : World) (v : Value) (x : Int) (u : FrameMode) (h : WrM w0 ao n c q1 q2 wr v x) (hn : n ≤ 1000000) :
    CallsD Try.prog 37 #[.pointer (some ⟨q2, 0, none⟩), .pointer (some ⟨w0.heap.size, 0, none⟩), .pointer (some ⟨q1, 0, none⟩)] u wr fun e u' w' =>
      u' = u ∧ e = .returned (.tuple #[]) ∧ ∃ v', WrM w0 ao n c q1 q2 w' v' (endX n x) ∧ (endX n x = 0 → v' = v ∧ w' = wr) ∧ (endX n x ≠ 0 → v' = .slice none 0 0) := by
  have c0 := cell_at h.m0 0
  have c1 := cell_at h.m1 0
  have c2 := cell_at h.m2 0
  have f1 := free_at h.m1 0
  have f2 := free_at h.m2 0
  have z := szs (block_lt h.m2)
  have z1 := szs (block_lt h.m1)
  have n12 : q1 ≠ q2 := by have := h.h1; have := h.h2; omega
  have n21 : q2 ≠ q1 := fun e => n12 e.symm
  have n01 : w0.heap.size ≠ q1 := by have := h.h1; omega
  have n02 : w0.heap.size ≠ q2 := by have := h.h2; omega
  have H := Lib.hid h
  have HE : Hid (endX n x = if x = 0 ∧ 512 < n then 8 else x) := Lib.hid rfl
  have H1 := Lib.hid (fun (wr : World) (v v' : Value) (x : Int) (h : WrM w0 ao n c q1 q2 wr v x) => h.put1 v')
  clear h
  generalize endX n x = y at *
  go_enter_d Try.func37, Try.ntmps37
  by_cases hx : x = 0
  · subst hx
    by_cases hn5 : 512 < n
    · have tn : (512 : Int) < (n : Int) := by omega
      obtain rfl : y = 8 := by rw [HE.out, if_pos ⟨rfl, hn5⟩]
      have H2 := Lib.hid (H.out.put2 8)
      have H3 := Lib.hid (H2.out.put1 (.slice none 0 0))
      clear HE H1 H hn5
      go_wp2_with fail
      go_end0
      exact ⟨rfl, _, H3.out, fun h => absurd h (by decide), fun _ => rfl⟩
    · have tn : (n : Int) ≤ 512 := by omega
      obtain rfl : y = 0 := by rw [HE.out, if_neg (by omega)]
      go_wp2_with fail
      go_end0
      exact ⟨rfl, v, H.out, by simp, by simp⟩
  · obtain rfl : y = x := by rw [HE.out, if_neg (by omega)]
    go_wp2_with fail
    go_end0
    exact ⟨rfl, _, H1.out wr v _ _ H.out, fun h => absurd h hx, fun _ => rfl⟩
end Go.Proofs.Ytlnfhlmgnppcbaa
