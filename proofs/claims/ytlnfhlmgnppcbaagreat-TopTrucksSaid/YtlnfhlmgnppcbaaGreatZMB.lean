/- A map from ints to bools that a call makes and fills: which keys read true. Plain theorems over any program. -/
import Derived.Test.YtlnfhlmgnppcbaaGreatZBB
import Derived.Maps.OwnOps
import Derived.Maps.OwnSet
import Derived.Maps.Views
namespace Go.Proofs.YtlnfhlmgnppcbaaGreat
open Go.RowKit Go.Maps
set_option linter.unusedVariables false
def IntSet (P : Program) (k e : TypeId) (w : World) (b n : Nat) (S : Int → Bool) : Prop :=
  ∃ D : DataW Unit, w.ownsMap P k (plainElem P e) b n D ∧ IsMap D ∧ ∀ x, D.atKey (.int .i64 x) (.lit (.bool false)) = .lit (.bool (S x))
theorem plain_bool_inv {P : Program} {e : TypeId} (he : P.underlying e = some .bool) {v : Value} {z : DataW Unit × List MemPlace} (h : plainElem P e v = some z) : ∃ x, v = .bool x ∧ z = (.lit (.bool x), []) := by
  unfold plainElem at h
  rw [he] at h
  cases v <;> simp at h
  exact ⟨_, rfl, h.symm⟩
section
variable {P : Program} {k e : TypeId} {w : World} {b n : Nat} {S : Int → Bool}
theorem IntSet.off {X : Nat → Prop} {w' : World} (h : IntSet P k e w b n S) (ho : Off X w w') (hX : ¬ X b) : IntSet P k e w' b n S := by
  obtain ⟨D, ⟨es, clock, hb, r⟩, h2⟩ := h
  exact ⟨D, ⟨es, clock, (ho.block b (Array.getElem?_eq_some_iff.1 hb).1 hX).trans hb, r⟩, h2⟩
theorem IntSet.below {w' : World} (h : IntSet P k e w b n S) (hb : Below w.heap.size w w') : IntSet P k e w' b n S := h.off (X := fun _ => False) (Off.of_below hb) (fun h => h)
theorem IntSet.lt (h : IntSet P k e w b n S) : b < w.heap.size := by obtain ⟨D, h1, _⟩ := h; exact h1.lt
end
section
variable {P : Program} {k e t : TypeId} {w : World} {b n : Nat} {S : Int → Bool}
theorem IntSet.look (h : IntSet P k e w b n S) (hk : P.underlying k = some (.int .i64)) (ht : P.underlying t = some (.map k e)) (he : P.underlying e = some .bool) (hz : (zeroValue e).run P w = .ok (.bool false) w) (key : Int) (hw : (Lit.int .i64 key).wf = true) :
    (Instr.lookup t (.map (some b)) (.int .i64 key) false).run P w = .ok (.bool (S key)) w := by
  obtain ⟨D, h1, _, h3⟩ := h
  obtain ⟨v, ps, hrun, hv⟩ := h1.lookup (int_keyed hk) ht hz (plainElem_bool he false) (keyOf_int_mk hk hw)
  rw [h3] at hv
  obtain ⟨y', rfl, hy'⟩ := plain_bool_inv he hv
  simp at hy'
  rw [hrun, hy'.1]
theorem IntSet.put (h : IntSet P k e w b n S) (hk : P.underlying k = some (.int .i64)) (ht : P.underlying t = some (.map k e)) (he : P.underlying e = some .bool) (hn : n < maxLen) (key : Int) (y : Bool) (hw : (Lit.int .i64 key).wf = true) :
    ∃ w', (Instr.mapUpdate t (.map (some b)) (.int .i64 key) (.bool y)).run P w = .ok () w' ∧ IntSet P k e w' b (n + 1) (fun z => if z = key then y else S z) ∧ Off (fun i => i = b) w w' := by
  obtain ⟨D, h1, h2, h3⟩ := h
  obtain ⟨w', hrun, g1, g2⟩ := h1.update (int_keyed hk) ht hn (keyOf_int_mk hk hw) (plainElem_bool he y)
  refine ⟨w', hrun, ⟨_, g1, h2.put _ _, fun z => ?_⟩, (Off.of_grown g2).mono (fun i _ hi => by cases hi; rfl)⟩
  show _ = DataW.lit (Lit.bool (if z = key then y else S z))
  by_cases hz : z = key
  · subst hz
    rw [if_pos rfl, atKey_put_same h2 (by simp [WideAt.IsKeyLit])]
  · rw [if_neg hz, atKey_put_other (fun h => hz (by cases h; rfl)), h3]
end
end Go.Proofs.YtlnfhlmgnppcbaaGreat
