/- A slice of operations (a byte and a key) opened; a bool opened. -/
import Derived.Test.YtknmmgijhlpedaaT2
namespace Go.Proofs.Ytknmmgijhlpedaa
open Go.RowKit Go.ChangeShapes Go.WideShapes Go.Deep
set_option linter.unusedVariables false
set_option linter.unusedSimpArgs false
open QI
def of (K : Nat → Int × Int) : Nat → List Value := fun i => [.int .u8 (K i).1, .int .i64 (K i).2]
theorem of_len (K : Nat → Int × Int) (i : Nat) : (of K i).length = 2 := rfl
theorem open_ops {H : Type} {enc : TypeId × Value → H} {W : World} {base : Nat} {v : Value} {d : DataW H} {p : List MemPlace} (hv : Value.okWide Try.prog W .any base 35 v) (h : DataW.Trod enc Try.prog W 0 (fun _ => true) true 35 v d p) :
    ∃ (a : Option Addr) (n c : Nat) (K : Nat → Int × Int), v = .slice a n c ∧ n ≤ c ∧ c ≤ 9223372036854775807 ∧ SlE W 2 a n (of K) := by
  obtain ⟨a0, len, cap, rfl⟩ := okWide_slice Try.underlying35 hv
  obtain ⟨fuel, hf⟩ := h
  rcases open_slice_fields Try.underlying35 Try.underlying37 (by kernel_rfl) (by kernel_rfl) hf with ⟨hcs, hx⟩ | ⟨a, len', cap', m, D, Pl, hcs, hb, hl, hm, hmm, hx, hi⟩
  · simp [Value.cells] at hcs
    obtain ⟨rfl, rfl, rfl⟩ := hcs
    exact ⟨none, 0, 0, fun _ => (0, 0), rfl, by omega, by omega, fun i hi => absurd hi (by omega)⟩
  · simp [Value.cells] at hcs
    obtain ⟨rfl, rfl, rfl⟩ := hcs
    have hml : len ≤ m := by rw [hmm]; split <;> omega
    have key : ∀ i, ∃ y : Int × Int, i < len → (W.cell? (a.add (i * 2)) = some (.int .u8 y.1) ∧ W.cell? (a.add (i * 2 + 1)) = some (.int .i64 y.2)) := by
      intro i
      by_cases hil : i < len
      · obtain ⟨ys, n, _, _, hlen, hf'⟩ := hi i (by omega)
        obtain ⟨v0, y0, hc0, _, ht0⟩ := hf' 0 _ rfl
        obtain ⟨v1, y1, hc1, _, ht1⟩ := hf' 1 _ rfl
        obtain ⟨n0, e0, _, w0⟩ := DataW.trod_int Try.underlying5 ht0
        obtain ⟨n1, e1, _, w1⟩ := DataW.trod_int Try.underlying3 ht1
        simp at e0 e1
        subst e0 e1
        exact ⟨(n0, n1), fun _ => ⟨hc0, hc1⟩⟩
      · exact ⟨(0, 0), fun h => absurd h hil⟩
    obtain ⟨L, hL⟩ := Classical.axiomOfChoice key
    refine ⟨some a, len, cap, L, rfl, hl, by unfold maxLen at hm; omega, fun i hil => ?_⟩
    obtain ⟨h0, h1⟩ := hL i hil
    have ha : a = ⟨a.block, a.off, none⟩ := by
      have h00 := (hL 0 (by omega)).1
      simp [Addr.add] at h00
      exact addr_of_cell h00
    rw [ha] at h0 h1 ⊢
    rw [add_flat] at h0 h1
    refine ⟨a.block, a.off, rfl, fun j hj => ?_⟩
    rcases (by omega : j = 0 ∨ j = 1) with rfl | rfl
    · exact h0
    · rw [Nat.add_assoc]; exact h1
end Go.Proofs.Ytknmmgijhlpedaa
