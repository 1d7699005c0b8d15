/- Two lists that a law builds side by side. -/
import Derived.Test.YtanpefjbmpohdaaL1
namespace Go.Proofs.Ytanpefjbmpohdaa
open Go.RowKit Go.ChangeShapes Go.WideShapes Go.Deep
set_option linter.unusedVariables false
set_option linter.unusedSimpArgs false
/-- Two rows that the call owns, apart. -/
def TwoR (W0 wr : World) (va : Value) (na : Nat) (fa : Nat → List Value) (vb : Value) (nb : Nat) (fb : Nat → List Value) : Prop :=
  Row wr W0.heap.size 43 4 va na fa ∧ Row wr W0.heap.size 43 4 vb nb fb ∧ Below W0.heap.size W0 wr ∧ ∀ b, va.ownBlock = some b → vb.ownBlock ≠ some b
section
variable {W0 wr : World} {va vb : Value} {na nb : Nat} {fa fb : Nat → List Value}
theorem TwoR.swap (h : TwoR W0 wr va na fa vb nb fb) : TwoR W0 wr vb nb fb va na fa := ⟨h.2.1, h.1, h.2.2.1, fun b h1 h2 => h.2.2.2 b h2 h1⟩
theorem TwoR.below {w' : World} (h : TwoR W0 wr va na fa vb nb fb) (hb : Below wr.heap.size wr w') : TwoR W0 w' va na fa vb nb fb :=
  ⟨Row.off (X := fun _ => False) h.1 (Off.of_below hb) (fun _ _ h => h), Row.off (X := fun _ => False) h.2.1 (Off.of_below hb) (fun _ _ h => h), h.2.2.1.trans (hb.mono h.2.2.1.size), h.2.2.2⟩
theorem TwoR.lt (h : TwoR W0 wr va na fa vb nb fb) : ∀ b, va.ownBlock = some b → W0.heap.size ≤ b ∧ b < wr.heap.size := fun b hb => World.ownsRow.lt h.1 b hb
theorem TwoR.add {wA : World} {g' cap : Nat} {cs : List Value} (h : TwoR W0 wr va na fa vb nb fb) (hrA : Row wA W0.heap.size 43 4 (.slice (some ⟨g', 0, none⟩) (na + 1) cap) (na + 1) (upd fa na cs)) (hgr : wr.grownBy wA va.ownBlock) (hown : va.ownBlock = some g' ∨ wr.heap.size ≤ g') (hcs : fa na = cs) :
    TwoR W0 wA (.slice (some ⟨g', 0, none⟩) (na + 1) cap) (na + 1) fa vb nb fb := by
  have OA := Off.of_grown hgr
  refine ⟨Row.congr hrA (fun i _ => ?_), Row.off h.2.1 OA (fun g hg hf => h.2.2.2 g hf.symm hg), h.2.2.1.trans (OA.toBelow h.2.2.1.size (fun b hb hf => ?_)), fun b hb => ?_⟩
  · by_cases e : i = na
    · subst e; rw [upd_same, hcs]
    · rw [upd_ne e]
  · have := (h.lt b hf.symm).1; omega
  · simp [Value.ownBlock] at hb
    subst hb
    intro hf
    rcases hown with h1 | h1
    · exact h.2.2.2 g' h1 hf
    · have := (h.swap.lt g' hf).2; omega
/-- A block of another's: it stays. -/
theorem TwoR.other {wA : World} {b : Nat} {o : Obj} (hx : wr.heap[b]? = some o) (hb : va.ownBlock ≠ some b) (hgr : wr.grownBy wA va.ownBlock) : wA.heap[b]? = some o := ((Off.of_grown hgr).block b (block_lt hx) (fun h => hb h.symm)).trans hx
/-- A store elsewhere. -/
theorem TwoR.store {b i : Nat} {x : Value} (h : TwoR W0 wr va na fa vb nb fb) (ha : va.ownBlock ≠ some b) (hb : vb.ownBlock ≠ some b) (hlo : W0.heap.size ≤ b) : TwoR W0 (wr.setCell ⟨b, i, none⟩ x) va na fa vb nb fb := by
  have o1 : Off (fun k => k = b) wr (wr.setCell ⟨b, i, none⟩ x) := (Off.refl (fun k => k = b) _).setCell (fun _ => rfl) _
  exact ⟨Row.off h.1 o1 (fun g hg e => ha (by rw [hg, e])), Row.off h.2.1 o1 (fun g hg e => hb (by rw [hg, e])), h.2.2.1.setCell hlo _, h.2.2.2⟩
end
theorem TwoR.start (W0 : World) (fa fb : Nat → List Value) : TwoR W0 W0 (.slice none 0 0) 0 fa (.slice none 0 0) 0 fb :=
  ⟨⟨rfl, .inl ⟨rfl, rfl⟩⟩, ⟨rfl, .inl ⟨rfl, rfl⟩⟩, Below.refl _ _, fun b h => by simp [Value.ownBlock] at h⟩
/-- An empty slice that is not nil. -/
theorem Row.empty {w : World} {base b : Nat} (h : w.heap[b]? = some (.cells #[] 43 (0, 0))) (hb : base ≤ b) (f : Nat → List Value) : Row w base 43 4 (.slice (some ⟨b, 0, none⟩) 0 0) 0 f :=
  ⟨rfl, .inr ⟨b, 0, #[], rfl, hb, h, Nat.le_refl _, by unfold maxLen; omega, rfl, rfl⟩⟩
end Go.Proofs.Ytanpefjbmpohdaa
