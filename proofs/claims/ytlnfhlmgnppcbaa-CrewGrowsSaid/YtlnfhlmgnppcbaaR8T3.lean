/- Times of the program. -/
import Derived.Test.YtlnfhlmgnppcbaaR8T2
namespace Go.Proofs.Ytlnfhlmgnppcbaa
open Go.RowKit
set_option linter.unusedVariables false
set_option linter.unusedSimpArgs false
set_option maxRecDepth 8000
open Rd
/-- What Times returns. -/
def Tm (N : Int) (m : Nat) (E : Nat → Ed) (src : Int) (w : World) (e : Ending) (w' : World) : Prop :=
  Below w.heap.size w w' ∧
    ((roadE N m E ≠ 0 ∧ e = .returned (.tuple #[.slice none 0 0, .int .i64 (roadE N m E)])) ∨
     (roadE N m E = 0 ∧ nodeB N src = false ∧ e = .returned (.tuple #[.slice none 0 0, .int .i64 7])) ∨
     (∃ n s b : Nat, roadE N m E = 0 ∧ N = n ∧ src = s ∧ s < n ∧ Right n m E ∧ e = .returned (.tuple #[.slice (some ⟨b, 0, none⟩) n n, .int .i64 0]) ∧ Nums w' w.heap.size b n (sec (gr Ed.frm Ed.til n m E) src)))
set_option maxHeartbeats 2000000 in
theorem times103 (N : Int) (ao : Option Addr) (m c : Nat) (E : Nat → Ed) (src : Int) (w : World) (hw : Net w ao m c E) :
    Calls Try.prog 103 #[.agg #[.int .i64 N, .slice ao m c], .int .i64 src] w fun e w' => Tm N m E src w e w' := by
  obtain ⟨w0, hw0⟩ : ∃ w0, w0 = w.alloc (.cells #[.int .i64 N, .slice ao m c] 77) := ⟨_, rfl⟩
  have b0 : Below w.heap.size w w0 := by rw [hw0]; exact (Below.refl _ _).alloc (Nat.le_refl _) _
  have x0 : w0.heap[w.heap.size]? = some (.cells #[.int .i64 N, .slice ao m c] 77) := by rw [hw0]; exact heap_alloc_new w _
  have r0 : w0.cell? ⟨w.heap.size, 0, none⟩ = some (.int .i64 N) := cell_at x0 0
  have r1 : w0.cell? ⟨w.heap.size, 1, none⟩ = some (.slice ao m c) := cell_at x0 1
  have B0 := Lib.hid b0
  have HW := Lib.hid hw0
  have zb : w.heap.size < w0.heap.size := block_lt x0
  have n0 := Lib.hid (hw.below b0)
  have CK := check121 N ao m c E w0 n0.out
  obtain ⟨x, hx⟩ : ∃ x, x = roadE N m E := ⟨_, rfl⟩
  rw [← hx] at CK
  have HCK := Lib.hid CK
  have HX := Lib.hid hx
  clear hw b0 x0 hw0 CK hx
  by_cases h0 : x = 0
  · subst h0
    have ND := fun w1 => node122 N src (.slice ao m c) w1 rfl
    obtain ⟨q, hq⟩ : ∃ q, q = nodeB N src := ⟨_, rfl⟩
    rw [← hq] at ND
    have HND := Lib.hid ND
    have HQ := Lib.hid hq
    clear ND hq
    go_enter Try.func103, Try.ntmps103
    go_wp2_with fail
    rw [← HW.out]
    clear HW
    refine HCK.out.mono ?_
    rintro e w1 ⟨rfl, b1⟩
    have d0 := cell_kept b1 r0
    have d1 := cell_kept b1 r1
    have zd := szs (cell_lt d0)
    dsimp only at zd
    have B1 := Lib.hid b1
    have n1 := Lib.hid (n0.out.below b1)
    clear b1
    go_wp2_with fail
    refine (HND.out _).mono ?_
    rintro e w2 ⟨rfl, b2⟩
    have e0 := cell_kept b2 d0
    have e1 := cell_kept b2 d1
    have ze := szs (cell_lt e0)
    dsimp only at ze
    have B2 := Lib.hid ((B0.out.trans (B1.out.mono B0.out.size)).trans (b2.mono (by have := B0.out.size; have := B1.out.size; omega)))
    have n2 := Lib.hid (n1.out.below b2)
    clear b2
    cases q
    · go_wp2_with fail
      go_returns
      exact ⟨B2.out, .inr (.inl ⟨HX.out.symm, HQ.out.symm, rfl⟩)⟩
    · obtain ⟨n, hn, hr⟩ := right_of HX.out.symm
      have hq : 0 ≤ src ∧ src < N := by have := HQ.out; simp [nodeB] at this; exact this
      obtain ⟨s, hs⟩ : ∃ s : Nat, src = (s : Int) := ⟨src.toNat, by omega⟩
      subst hn hs
      have hsn : s < n := by omega
      have TM := Lib.hid (times123 n m c ao E s w2 n2.out hr hsn)
      have HR := Lib.hid hr
      clear hr
      go_wp2_with fail
      refine TM.out.mono ?_
      rintro e w3 ⟨b, rfl, hN, b3⟩
      have HN := Lib.hid (hN.base_mono (base := w.heap.size) B2.out.size)
      have B3 := Lib.hid (B2.out.trans (b3.mono B2.out.size))
      clear hN b3
      go_wp2_with fail
      go_returns
      exact ⟨B3.out, .inr (.inr ⟨n, s, b, HX.out.symm, rfl, rfl, hsn, HR.out, rfl, HN.out⟩)⟩
  · have h0' : (x != 0) = true := by simp [h0]
    have H0 := Lib.hid h0
    clear h0
    go_enter Try.func103, Try.ntmps103
    go_wp2_with fail
    rw [← HW.out]
    clear HW
    refine HCK.out.mono ?_
    rintro e w1 ⟨rfl, b1⟩
    have B1 := Lib.hid b1
    clear b1
    go_wp2_with fail
    go_returns
    exact ⟨B0.out.trans (B1.out.mono B0.out.size), .inl ⟨by rw [← HX.out]; exact H0.out, by rw [← HX.out]; rfl⟩⟩
end Go.Proofs.Ytlnfhlmgnppcbaa
