/- One more event in the reference's set. -/
import Derived.Test.YtlnfhlmgnppcbaaE4
import Derived.Test.YtlnfhlmgnppcbaaD2
namespace Go.Proofs.Ytlnfhlmgnppcbaa
open Go.RowKit Go.ChangeShapes Go.WideShapes Go.Deep
set_option linter.unusedVariables false
set_option linter.unusedSimpArgs false
def Made (w : World) (l : List Ev) (e : Ending) (w' : World) : Prop := ∃ (v : Value) (m : Nat) (R : Nat → Ev), e = .returned v ∧ ents R m = l ∧ EvRow w' w.heap.size v m R ∧ Below w.heap.size w w'
/-- A block that holds one event. -/
def Box (w : World) (b : Nat) (v : Ev) : Prop := EvRow w 0 (.slice (some ⟨b, 0, none⟩) 1 1) 1 (fun _ => v)
theorem Box.new (w : World) (v : Ev) : Box (w.alloc (.cells (eC v) 24)) w.heap.size v :=
  ⟨rfl, .inr ⟨_, 1, eC v, rfl, Nat.zero_le _, heap_alloc_new w _, Nat.le_refl _, by decide, rfl, rfl⟩⟩
theorem Box.at {w : World} {b : Nat} {v : Ev} (h : Box w b v) : EvAt w b 0 v := by
  have := EvRow.at h (i := 0) (by decide)
  rwa [Nat.zero_mul] at this
theorem Box.put {w : World} {b : Nat} {v : Ev} (h : Box w b v) (x : Ev) : Box (putCells w b 0 (evs x)) b x := by
  have := EvRow.put h (i := 0) (by decide) x
  rw [Nat.zero_mul] at this
  exact Row.congr this fun i hi => by
    obtain rfl : i = 0 := by omega
    rw [upd_same]
theorem Box.lt {w : World} {b : Nat} {v : Ev} (h : Box w b v) : b < w.heap.size := by
  rcases Row.shape h with ⟨h, _⟩ | ⟨g, c, he, _, hl, _⟩
  · cases h
  · cases he; exact hl
theorem Box.off {X : Nat → Prop} {w w' : World} {b : Nat} {v : Ev} (h : Box w b v) (ho : Off X w w') (hX : ¬ X b) : Box w' b v := Row.off h ho (fun g hg => by cases hg; exact hX)
theorem Box.below {w w' : World} {b : Nat} {v : Ev} (h : Box w b v) (hb : Below w.heap.size w w') : Box w' b v := h.off (X := fun _ => False) (Off.of_below hb) (fun h => h)
theorem EvRow.below {w w' : World} {base : Nat} {v : Value} {n : Nat} {F : Nat → Ev} (h : EvRow w base v n F) (hb : Below w.heap.size w w') : EvRow w' base v n F := Row.off (X := fun _ => False) h (Off.of_below hb) (fun _ _ h => h)
theorem evs_at {w : World} {ao : Option Addr} {m c : Nat} {F : Nat → Ev} (h : Sl w 9 ao m c (fun i => evs (F i))) {i : Nat} (hi : i < m) : ∃ g o, ao = some ⟨g, o, none⟩ ∧ g < w.heap.size ∧ EvAt w g (o + i * 9) (F i) := by
  obtain ⟨g, o, e, hc⟩ := h.cell hi
  have hA := EvAt.of (v := F i) hc
  exact ⟨g, o, e, cell_lt hA.c0, hA⟩
theorem EvAt.below {w w' : World} {b o : Nat} {v : Ev} (h : EvAt w b o v) (hb : Below w.heap.size w w') : EvAt w' b o v := ⟨cell_kept hb h.c0, cell_kept hb h.c1, cell_kept hb h.c2, cell_kept hb h.c3, cell_kept hb h.c4, cell_kept hb h.c5, cell_kept hb h.c6, cell_kept hb h.c7, cell_kept hb h.c8⟩
theorem Box.free {w : World} {b : Nat} {v : Ev} (h : Box w b v) (j : Nat) : w.frozen? ⟨b, j, none⟩ = false := Row.free h j
theorem Box.put_off {X : Nat → Prop} {w0 w : World} {b : Nat} (x : Ev) (ho : Off X w0 w) (hX : X b) : Off X w0 (putCells w b 0 (evs x)) := off_putCells hX (evs x) 0 w ho
theorem EvRow.after {w : World} {base b n : Nat} {v : Value} {F : Nat → Ev} (h : EvRow w base v n F) (hb : b < base) (x : Ev) : EvRow (putCells w b 0 (evs x)) base v n F :=
  Row.off h (off_putCells (X := fun k => k = b) rfl (evs x) 0 w (Off.refl _ _)) (fun g hg hx => by
    rcases Row.shape h with ⟨rfl, _⟩ | ⟨g', c, rfl, h1, _⟩
    · simp [Value.ownBlock] at hg
    · simp [Value.ownBlock] at hg; omega)
theorem EvRow.apart {w : World} {base b n : Nat} {v : Value} {F : Nat → Ev} (h : EvRow w base v n F) (hb : b < base) : ¬ some b = v.ownBlock := fun hg => by
  rcases Row.shape h with ⟨rfl, _⟩ | ⟨g', c, rfl, h1, _⟩
  · simp [Value.ownBlock] at hg
  · simp [Value.ownBlock] at hg; omega
theorem below_put {w w' : World} {b : Nat} (h : Below w.heap.size w w') (hb : w.heap.size ≤ b) (cs : List Value) : Below w.heap.size w (putCells w' b 0 cs) :=
  (off_putCells (X := fun k => k = b) rfl cs 0 w' (Off.of_below h)).toBelow (Nat.le_refl _) (fun k hk h => by omega)
theorem Row.apart {w : World} {base e s n : Nat} {v : Value} {f : Nat → List Value} (h : Row w base e s v n f) {q : Nat} (hq : q < base) : ¬ some q = v.ownBlock := fun hg => by
  rcases Row.shape h with ⟨rfl, _⟩ | ⟨g', c, rfl, h1, _⟩
  · simp [Value.ownBlock] at hg
  · simp [Value.ownBlock] at hg; omega
theorem SlE.drop {w : World} {s g o m : Nat} {f : Nat → List Value} (h : SlE w s (some ⟨g, o, none⟩) m f) (j : Nat) : SlE w s (some ⟨g, o + j * s, none⟩) (m - j) (fun i => f (j + i)) := fun i hi => by
  obtain ⟨g', o', e, hc⟩ := h (j + i) (by omega)
  cases e
  refine ⟨g, o + j * s, rfl, fun q hq => ?_⟩
  rw [Nat.add_assoc o, ← Nat.add_mul]; exact hc q hq
theorem ents_ins {α : Type} (O : Nat → α) (k j : Nat) (hj : j ≤ k) (x : α) : ents (fun i => if i < j then O i else if i = j then x else O (i - 1)) (k + 1) = (ents O k).take j ++ x :: (ents O k).drop j := by
  apply List.ext_getElem?
  intro q
  have hl : ((ents O k).take j).length = j := by simp [ents]; omega
  by_cases h1 : q < j
  · rw [ents_get (by omega), List.getElem?_append_left (by omega), List.getElem?_take, if_pos h1, ents_get (by omega)]
    simp [h1]
  · by_cases h2 : q = j
    · subst h2
      rw [ents_get (by omega), List.getElem?_append_right (by omega), hl]
      simp
    · obtain ⟨p, rfl⟩ : ∃ p, q = p + 1 := ⟨q - 1, by omega⟩
      rw [List.getElem?_append_right (by omega), hl, show p + 1 - j = (p - j) + 1 by omega, List.getElem?_cons_succ, List.getElem?_drop, show j + (p - j) = p by omega]
      by_cases h3 : p < k
      · rw [ents_get (by omega), ents_get h3]
        simp [h1, h2]
      · rw [List.getElem?_eq_none (by simp [ents]; omega), List.getElem?_eq_none (by simp [ents]; omega)]
theorem upd_len {f : Nat → List Value} {s n : Nat} {x : List Value} (h : ∀ i, (f i).length = s) (hx : x.length = s) (i : Nat) : (upd f n x i).length = s := by
  by_cases e : i = n
  · subst e; rw [upd_same]; exact hx
  · rw [upd_ne e]; exact h i
end Go.Proofs.Ytlnfhlmgnppcbaa
