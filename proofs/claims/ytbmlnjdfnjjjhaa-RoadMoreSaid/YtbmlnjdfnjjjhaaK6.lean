/- A drawn region that makes one row and appends to it, in place or not, beside blocks that it lays. Plain theorems over any program. -/
import Derived.Test.YtbmlnjdfnjjjhaaK5
import Derived.Test.YtbmlnjdfnjjjhaaH6
namespace Go.Proofs.Ytbmlnjdfnjjjhaa
open Go.RowKit
section
variable {P : Program} {ops : Array Oper}
theorem off_setAt {w : World} {b : Nat} {o : Obj} : Off (fun k => k = b) w (setAt w b o) :=
  ⟨rfl, rfl, rfl, by simp [setAt], fun k _ hk => by show (w.heap.setIfInBounds b o)[k]? = _; rw [Array.getElem?_setIfInBounds_ne (Ne.symm hk)]⟩
/-- The row's stages: how many entries, and which. -/
def rowPlan (w0 : World) (e : TypeId) (sz : Nat) (cn : Nat → Nat) (fn : Nat → Nat → List Value) (mains : List Nat) (al : List (Nat × (Nat → Value) × Obj)) (st : List (Nat × Nat)) (uses : Nat → List Nat) : PlanO (Nat × Value) :=
  { K := fun s w => Below w0.heap.size w0 w ∧ (∀ b, s.2.ownBlock = some b → w0.heap.size ≤ b ∧ b < w.heap.size) ∧ (s.1 ≠ 0 → Row w w0.heap.size e sz s.2 (cn s.1) (fn s.1)),
    D := fun _ w => Below w0.heap.size w0 w, mstep := fun _ s s' => s'.1 = s.1 + 1 ∧ ∃ ao c, s'.2 = .slice ao (cn s'.1) c, mval := fun _ s => s.2, mains := mains, al := al, st := st, B0 := w0.heap.size,
    own := fun s b => s.2.ownBlock = some b, uses := uses }
variable {w0 : World} {e : TypeId} {sz : Nat} {cn : Nat → Nat} {fn : Nat → Nat → List Value} {mains : List Nat} {al : List (Nat × (Nat → Value) × Obj)} {st : List (Nat × Nat)} {uses : Nat → List Nat}
theorem rowPlan_mval (i : Nat) (s : Nat × Value) : (rowPlan w0 e sz cn fn mains al st uses).mval i s = s.2 := rfl
theorem rowPlan_ok (h1 : (al.map (·.1)).Nodup) (h2 : (st.map (·.1)).Nodup) : (rowPlan w0 e sz cn fn mains al st uses).Ok :=
  ⟨fun _ _ h => h.1, fun s w _ _ o _ h => ⟨Below.alloc h.1 h.1.size o, fun b hb => ⟨(h.2.1 b hb).1, by have := (h.2.1 b hb).2; have := ((Below.refl w.heap.size w).alloc (Nat.le_refl _) o).size; omega⟩,
    fun h0 => (h.2.2 h0).off ((Off.refl (fun _ => False) w).alloc o) (fun _ _ h => h)⟩, fun _ _ _ _ _ h => h, fun _ _ h => h.1.size, h1, h2,
    .inr fun s w b o hb ho h => ⟨below_setAt hb h.1, fun b' hb' => ⟨(h.2.1 b' hb').1, by rw [setAt_size]; exact (h.2.1 b' hb').2⟩, fun h0 => (h.2.2 h0).off off_setAt (fun g hg hgb => ho (by subst hgb; exact hg))⟩,
    fun _ _ b h ho => (h.2.1 b ho).2⟩
theorem rowPlan_start : (rowPlan w0 e sz cn fn mains al st uses).K (0, undef) w0.drew := ⟨(Below.refl _ _).drew, fun b hb => by simp [Value.ownBlock, undef] at hb, fun h => absurd rfl h⟩
theorem rowPlan_make {i : Nat} {o : Oper} {a : Act} {Us : List (Nat × Nat × Obj)} (h0 : cn 1 = 0) (hrun : ∀ w : World, (execOp a.eval o).run P w = .ok (.value (.slice (some ⟨w.heap.size, 0, none⟩) 0 0)) (w.alloc (.cells #[] e))) :
    StepO P (rowPlan w0 e sz cn fn mains al st uses) i o a (0, undef) Us := fun w hk _ => by
  rw [hrun]
  have hs : w.heap.size < (w.alloc (.cells #[] e)).heap.size := block_lt (heap_alloc_new w _)
  have hb := (Below.refl w.heap.size w).alloc (Nat.le_refl _) (.cells #[] e)
  refine ⟨(1, .slice (some ⟨w.heap.size, 0, none⟩) 0 0), ⟨rfl, _, 0, by rw [h0]⟩, .inr rfl, ⟨hk.1.trans (hb.mono hk.1.size), fun b hb => ?_, fun _ => ?_⟩, hb.size, fun b hb => ?_, fun b _ hlt _ => hb.block b hlt⟩
  · simp [Value.ownBlock] at hb; subst hb; exact ⟨hk.1.size, hs⟩
  · show Row _ _ _ _ _ (cn 1) (fn 1)
    rw [h0]
    exact ⟨by simp [flat], .inr ⟨w.heap.size, 0, #[], rfl, hk.1.size, heap_alloc_new w _, Nat.le_refl _, Nat.zero_le _, by simp, by simp [flat]⟩⟩
  · have hb : (Value.slice (some ⟨w.heap.size, 0, none⟩) 0 0).ownBlock = some b := hb
    simp [Value.ownBlock] at hb; subst hb; exact .inr (Nat.le_refl _)
theorem rowPlan_append {i : Nat} {o : Oper} {a : Act} {Us : List (Nat × Nat × Obj)} {k : Nat} {v : Value} {x1 x2 : Operand} {ty : TypeId} {t : Tmp} (ho : o.op = .call { callee := .builtin .append, args := #[x1, x2], argTypes := #[ty, ty] })
    (hgd : o.guard = none) (hd : o.dst = some t) (htt : t < a.tmps.size) (hw : Region.wanted o (yielded ops a.tmps) = true)
    (ti : TypeInfo) (z : Value) (bytes : Nat) (ht : P.underlying ty = some (.slice e)) (hi : P.info? e = some ti) (hz : ti.zero = some z)
    (hsize : ti.size = sz) (hby : ti.bytes = bytes) (hzs : z.cells.size = sz) (hsz : 0 < sz) (hs : a.eval x1 = v) (hf : ∀ j, (fn (k + 1) j).length = sz)
    (ao : Option Addr) (m c : Nat) (f2 : Nat → List Value) (hx : a.eval x2 = .slice ao m c) (hf2 : ∀ i, (f2 i).length = sz) (hnone : ao = none → m = 0 ∧ c = 0) (h1 : ∀ i, ∀ u ∈ f2 i, u.oneCell' = true)
    (hsl : ∀ w, Below w0.heap.size w0 w → (∀ x ∈ Us, w.heap[x.2.1]? = some x.2.2) → SlE w sz ao m f2)
    (hcn : cn (k + 2) = cn (k + 1) + m) (hfn : ∀ j, j < cn (k + 1) + m → cat (fn (k + 1)) (cn (k + 1)) f2 j = fn (k + 2) j)
    (hbytes : (cn (k + 1) + m) * bytes ≤ 140737488355328) (h63 : cn (k + 1) + m ≤ maxLen) :
    StepO P (rowPlan w0 e sz cn fn mains al st uses) i o a (k + 1, v) Us := fun w hk hU => by
  refine stepO_append ho hd htt hw ?_
  have hrow := hk.2.2 (Nat.succ_ne_zero k)
  refine wpList_append_sl w hgd x1 x2 ty ho w0.heap.size e ti z sz bytes ht hi hz hsize hby hzs hsz v _ _ hs hrow hf ao m c f2 hx hf2 hnone (hsl w hk.1 (fun x hx => (hU x hx).1)) h1 hbytes h63 hk.1.size ?_
  intro v' w' hr hg how
  have hB : Below w0.heap.size w w' := (Off.of_grown hg).toBelow hk.1.size (fun b hb he => by have := (hk.2.1 b he.symm).1; omega)
  refine ⟨rfl, v', by simp [Act.put, hd, htt], (k + 2, v'), ⟨rfl, ?_⟩, .inr rfl, ⟨hk.1.trans hB, fun b hb => ?_, fun _ => ?_⟩, hg.size, fun b hb => how b hb, fun b _ hlt hno => hg.block b hlt (fun e => hno e.symm)⟩
  · rcases hr.shape with ⟨rfl, h0⟩ | ⟨g, cap, rfl, _⟩
    · exact ⟨none, 0, by show _ = Value.slice none (cn (k + 2)) 0; rw [hcn, h0]⟩
    · exact ⟨_, cap, by show _ = Value.slice _ (cn (k + 2)) cap; rw [hcn]⟩
  · exact World.ownsRow.lt hr b hb
  · show Row w' w0.heap.size e sz v' (cn (k + 2)) (fn (k + 2))
    rw [hcn]
    exact hr.congr hfn
end
end Go.Proofs.Ytbmlnjdfnjjjhaa
