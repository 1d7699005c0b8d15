/- A drawn region with one store into a block laid before it: the store is the one main step, what reads floats about it. Plain theorems over any program. -/
import Derived.Test.YtlnfhlmgnppcbaaGreatCTA
namespace Go.Proofs.YtlnfhlmgnppcbaaGreat
set_option linter.unusedVariables false
open Go.RowKit
section
variable {P : Program} {ops : Array Oper}
/-- The world before the store, and behind it. -/
def cWorld (w0 : World) (c : Nat) (o : Obj) (s : Bool) : World := match s with | true => setAt w0 c o | false => w0
def cPlan (w0 : World) (c : Nat) (o : Obj) (i : Nat) : PlanO Bool :=
  { K := fun s w => Below w0.heap.size (cWorld w0 c o s) w, D := fun _ w => ∃ s, Below w0.heap.size (cWorld w0 c o s) w, mstep := fun _ s s' => s = false ∧ s' = true, mval := fun _ _ => undef, mains := [i], al := [], st := [], B0 := w0.heap.size,
    own := fun _ _ => False, uses := fun _ => [] }
variable {w0 : World} {c : Nat} {o' : Obj} {k : Nat}
theorem cWorld_size (s : Bool) : (cWorld w0 c o' s).heap.size = w0.heap.size := by cases s <;> simp [cWorld, setAt]
theorem cPlan_ok : (cPlan w0 c o' k).Ok :=
  ⟨fun s _ h => ⟨s, h⟩, fun s w _ _ o hm h => (nomatch hm), fun _ _ _ _ _ h => h, fun s w h => by have := Below.size h; rw [cWorld_size] at this; exact this, (by simp [cPlan]), (by simp [cPlan]), .inl rfl, fun _ _ _ _ h => h.elim⟩
theorem cPlan_start : (cPlan w0 c o' k).K false w0.drew := (Below.refl _ _).drew
theorem below_at {w : World} (hc : c < w0.heap.size) (h : Below w0.heap.size w0 w) : Below w0.heap.size (setAt w0 c o') (setAt w c o') :=
  ⟨h.os, h.tape, h.output, by simp [setAt]; exact h.size, fun k hk => by
    show (w.heap.setIfInBounds c o')[k]? = (w0.heap.setIfInBounds c o')[k]?
    by_cases hkc : c = k
    · subst hkc
      rw [Array.getElem?_setIfInBounds_self_of_lt hc, Array.getElem?_setIfInBounds_self_of_lt (Nat.lt_of_lt_of_le hc h.size)]
    · rw [Array.getElem?_setIfInBounds_ne hkc, Array.getElem?_setIfInBounds_ne hkc]
      exact h.block k hk⟩
/-- What stands elsewhere is read as it was, before the store and behind it. -/
theorem cell_kept_but {w : World} (h : ∃ s, Below w0.heap.size (cWorld w0 c o' s) w) {a : Addr} {v : Value} (hne : c ≠ a.block) (hv : w0.cell? a = some v) : w.cell? a = some v := by
  obtain ⟨s, h⟩ := h
  have h1 := h.block a.block (cell_lt hv)
  have h2 : (cWorld w0 c o' s).heap[a.block]? = w0.heap[a.block]? := by
    cases s
    · rfl
    · show (w0.heap.setIfInBounds c o')[a.block]? = _
      rw [Array.getElem?_setIfInBounds_ne hne]
  rw [World.cell?_of_block (w := w0) (h1.trans h2)]; exact hv
theorem cfamily (w0 : World) (c : Nat) (o' : Obj) : ∃ (ι : Type) (_ : Nonempty ι) (F : ι → World), (∀ i, ∃ s, Below w0.heap.size (cWorld w0 c o' s) (F i)) ∧ ∀ w, (∃ s, Below w0.heap.size (cWorld w0 c o' s) w) → ∃ i, w = F i :=
  ⟨{ w : World // ∃ s, Below w0.heap.size (cWorld w0 c o' s) w }, ⟨⟨w0, false, Below.refl _ _⟩⟩, Subtype.val, fun i => i.2, fun w h => ⟨⟨w, h⟩, rfl⟩⟩
variable {a : Act} {o : Oper} {r : List (Nat × Oper)} {Bs : List (Nat × Nat × Obj)} {Fin : Act → Bool → List (Nat × Nat × Obj) → Prop}
theorem wpChainO_cstore (obj : Obj) (hb : w0.heap[c]? = some obj) (hk : (cPlan w0 c o' k).kind k = 2) (hw : Region.wanted o (yielded ops a.tmps) = true)
    (hs : ∀ w : World, w.heap[c]? = some obj → storeUpon w c o' ((execOp a.eval o).run P w))
    (h : wpChainO P ops (cPlan w0 c o' k) Fin r (a.put o.dst undef) true Bs) : wpChainO P ops (cPlan w0 c o' k) Fin ((k, o) :: r) a false Bs := by
  have hc := block_lt hb
  refine wpChainO_main hk hw (fun w hkw hU => ?_) (fun s' hs' => ?_)
  · have hkw' : Below w0.heap.size w0 w := hkw
    have h3 := hs w ((hkw'.block c hc).trans hb)
    have hK : (cPlan w0 c o' k).K true (setAt w c o') := below_at hc hkw'
    have hKept : KeptO (cPlan w0 c o' k) false true w (setAt w c o') := ⟨by simp [setAt], fun _ hb => hb.elim, fun b hb0 hlt _ => by
      show (w.heap.setIfInBounds c o')[b]? = _
      have : w0.heap.size ≤ b := hb0
      rw [Array.getElem?_setIfInBounds_ne (by omega)]⟩
    generalize (execOp a.eval o).run P w = q at *
    cases q with
    | ok n w' =>
      cases n <;> simp only [storeUpon] at h3 <;> simp only [stepUponO]
      case value u => obtain ⟨rfl, rfl⟩ := h3; exact ⟨true, ⟨rfl, rfl⟩, .inr rfl, hK, hKept⟩
      case skip => subst h3; exact ⟨true, ⟨rfl, rfl⟩, .inr rfl, hK, hKept⟩
    | halt x w' => simp only [storeUpon] at h3
  · obtain ⟨_, rfl⟩ := hs'
    exact h
end
end Go.Proofs.YtlnfhlmgnppcbaaGreat
