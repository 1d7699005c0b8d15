/- The arguments of the laws of layer drift opened; the first two laws walked. -/
import Derived.Test.YtbgnmhphbjkfcaaF
import Derived.Test.YtbgnmhphbjkfcaaG
import Derived.Test.YtbgnmhphbjkfcaaO
namespace Go.Proofs.Ytbgnmhphbjkfcaa
open Go.RowKit Go.ChangeShapes Go.WideShapes Go.Deep
set_option linter.unusedVariables false
set_option linter.unusedSimpArgs false

def inI64 (n : Int) : Prop := -9223372036854775808 ≤ n ∧ n ≤ 9223372036854775807
theorem wf_in {n : Int} (h : (Lit.int .i64 n).wf = true) : inI64 n := bounds_i64 h
theorem open_sync {H : Type} {enc : TypeId × Value → H} {W : World} {base : Nat} {v : Value} {d : DataW H} {p : List MemPlace} (hv : Value.okWide Try.prog W .any base 29 v) (h : DataW.Trod enc Try.prog W 0 (fun _ => true) true 29 v d p) :
    ∃ (a : Option Addr) (len cap : Nat) (L : Nat → Sy), v = .slice a len cap ∧ len ≤ cap ∧ cap ≤ 9223372036854775807 ∧ Sl W a len L ∧ ∀ i, i < len → inI64 (L i).loc ∧ inI64 (L i).frm ∧ inI64 (L i).til := by
  obtain ⟨a0, len, cap, rfl⟩ := okWide_slice Try.underlying29 hv
  obtain ⟨fuel, hf⟩ := h
  rcases open_slice_fields Try.underlying29 Try.underlying43 (by kernel_rfl) (by kernel_rfl) hf with ⟨hcs, hx⟩ | ⟨a, len', cap', m, D, Pl, hcs, hb, hl, hm, hmm, hx, hi⟩
  · simp [Value.cells] at hcs
    obtain ⟨rfl, rfl, rfl⟩ := hcs
    exact ⟨none, 0, 0, fun _ => ⟨0, 0, 0⟩, rfl, by omega, by omega, fun i hi => absurd hi (by omega), fun i hi => absurd hi (by omega)⟩
  · simp [Value.cells] at hcs
    obtain ⟨rfl, rfl, rfl⟩ := hcs
    have hml : len ≤ m := by rw [hmm]; split <;> omega
    have key : ∀ i, ∃ y : Sy, i < len → (W.cell? (a.add (i * 3)) = some (.int .i64 y.loc) ∧ W.cell? (a.add (i * 3 + 1)) = some (.int .i64 y.frm) ∧ W.cell? (a.add (i * 3 + 2)) = some (.int .i64 y.til)) ∧ inI64 y.loc ∧ inI64 y.frm ∧ inI64 y.til := by
      intro i
      by_cases hil : i < len
      · obtain ⟨ys, n, _, _, hlen, hf'⟩ := hi i (by omega)
        obtain ⟨v0, y0, hc0, _, ht0⟩ := hf' 0 _ rfl
        obtain ⟨v1, y1, hc1, _, ht1⟩ := hf' 1 _ rfl
        obtain ⟨v2, y2, hc2, _, ht2⟩ := hf' 2 _ rfl
        obtain ⟨n0, e0, _, w0⟩ := DataW.trod_int Try.underlying3 ht0
        obtain ⟨n1, e1, _, w1⟩ := DataW.trod_int Try.underlying3 ht1
        obtain ⟨n2, e2, _, w2⟩ := DataW.trod_int Try.underlying3 ht2
        simp at e0 e1 e2
        subst e0 e1 e2
        exact ⟨⟨n0, n1, n2⟩, fun _ => ⟨⟨hc0, hc1, hc2⟩, wf_in w0, wf_in w1, wf_in w2⟩⟩
      · exact ⟨⟨0, 0, 0⟩, fun h => absurd h hil⟩
    obtain ⟨L, hL⟩ := Classical.axiomOfChoice key
    refine ⟨some a, len, cap, L, rfl, hl, by unfold maxLen at hm; omega, fun i hil => ?_, fun i hil => (hL i hil).2⟩
    obtain ⟨⟨h0, h1, h2⟩, _⟩ := hL i hil
    have ha : a = ⟨a.block, a.off, none⟩ := by
      have h00 := (hL 0 (by omega)).1.1
      simp [Addr.add] at h00
      exact addr_of_cell h00
    rw [ha] at h0 h1 h2 ⊢
    rw [add_flat] at h0 h1 h2
    exact ⟨a.block, a.off, rfl, h0, by rw [Nat.add_assoc]; exact h1, by rw [Nat.add_assoc]; exact h2⟩

set_option maxHeartbeats 1000000 in
theorem run_driftElapsed {H : Type} {enc : TypeId × Value → H} (W : World) (base : Nat) (v0 : Value) (d0 : DataW H) (p0 : List MemPlace) (hv0 : Value.okWide Try.prog W .any base 3 v0) (h0 : DataW.Trod enc Try.prog W 0 (fun _ => true) true 3 v0 d0 p0)
    (v1 : Value) (d1 : DataW H) (p1 : List MemPlace) (hv1 : Value.okWide Try.prog W .any base 3 v1) (h1 : DataW.Trod enc Try.prog W 0 (fun _ => true) true 3 v1 d1 p1) :
    Calls Try.prog 3 #[v0, v1] W fun e w' => e = .returned (.bool true) ∧ Below W.heap.size W w' := by
  obtain ⟨s, rfl, rfl, rfl, _⟩ := open_int Try.underlying3 hv0 h0
  obtain ⟨p, rfl, rfl, rfl, _⟩ := open_int Try.underlying3 hv1 h1
  clear hv0 hv1 h0 h1
  obtain ⟨x, y, z, E⟩ : ∃ x y z : Int, elapsedV s p = .tuple #[.agg #[.int .i64 x, .int .i64 y], .int .i64 z] := by
    unfold elapsedV; split
    · exact ⟨_, _, _, rfl⟩
    · exact ⟨_, _, _, rfl⟩
  have C := fun w => elapsed10 s p w
  have D := fun w => elapsed11 s p w
  rw [E] at C D
  clear E
  go_enter Try.func3, Try.ntmps3
  go_wp2_with fail
  refine (C _).mono ?_
  rintro e w1 ⟨rfl, hb1⟩
  go_wp2_with fail
  refine (D _).mono ?_
  rintro e w2 ⟨rfl, hb2⟩
  have x0 : w2.cell? ⟨w1.heap.size, 0, none⟩ = some (.int .i64 x) := cell_kept hb2 (by simp [go_sem])
  have x1 : w2.cell? ⟨w1.heap.size, 1, none⟩ = some (.int .i64 y) := cell_kept hb2 (by simp [go_sem])
  have HB : Below W.heap.size W w2 := (hb1.alloc hb1.size _).trans (hb2.mono (by have := hb1.size; go_size))
  have zx := szs (cell_lt x0)
  dsimp only at zx
  clear hb1 hb2 C D
  go_wp2_with (go_at_call 12; refine (awake12 _).mono ?_; rintro e w3 ⟨rfl, hb3⟩)
  go_returns
  exact ⟨rfl, (HB.alloc HB.size _).trans (hb3.mono (by have := HB.size; go_size))⟩
end Go.Proofs.Ytbgnmhphbjkfcaa
