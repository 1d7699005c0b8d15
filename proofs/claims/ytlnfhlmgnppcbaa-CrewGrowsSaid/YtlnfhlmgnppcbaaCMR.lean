/- Custody: all events are carried out in order; somebody notes what happens. -/
import Derived.Test.YtlnfhlmgnppcbaaCMB
import Derived.Test.YtlnfhlmgnppcbaaCUQ
namespace Go.Proofs.Ytlnfhlmgnppcbaa
open Go.RowKit Go.ChangeShapes Go.WideShapes Go.Deep Go.Maps
set_option linter.unusedVariables false
set_option linter.unusedSimpArgs false
/-- Somebody who looks on: the box O holds a value of their own; what it says of the events so far. -/
structure Look (f : Fl) (fn O : Nat) (v0 : Value) (t : TypeId) (J : Nat → Value → List Ev → World → Prop) : Prop where
  off : ∀ {X : Nat → Prop} {lo : Nat} {v : Value} {l : List Ev} {w w' : World}, J lo v l w → Off X w w' → ¬ X O → (∀ g, v.ownBlock = some g → ¬ X g) → J lo v l w'
  row : ∀ {lo : Nat} {v : Value} {l : List Ev} {w : World} {g : Nat}, J lo v l w → v.ownBlock = some g → lo ≤ g ∧ g < w.heap.size
  start : ∀ {lo : Nat} {w : World}, w.heap[O]? = some (.cells #[v0] t (0, 0)) → O < lo → J lo v0 [] w ∧ v0.ownBlock = none
  seen : ∀ {base lo : Nat} {L : Lay} {s : CSt} {v : Value} {l : List Ev} {w : World} (x : Ev) (err : Int), CM base lo f L s w → s = (if err = 0 then l ++ [x] else l).foldl applyK startS → J lo v l w → l.length ≤ 1000 → (err = 0 → checkE f x = 0) →
    Calls Try.prog fn #[.pointer (some ⟨L.sb, 0, none⟩), .agg (eC x), .int .i64 err, .pointer (some ⟨O, 0, none⟩)] w fun e w' => e = .returned (.tuple #[]) ∧ ∃ v', J lo v' (if err = 0 then l ++ [x] else l) w' ∧
      (∀ g, v'.ownBlock = some g → v.ownBlock = some g ∨ w.heap.size ≤ g) ∧ Off (fun q => q = O ∨ v.ownBlock = some q) w w'
/-- What a run gives whom it tells. -/
def RunJ (f : Fl) (l : List Ev) (w0 : World) (v0 : Value) (O : Nat) (t : TypeId) (J : Nat → Value → List Ev → World → Prop) (e : Ending) (w' : World) : Prop :=
  Below w0.heap.size w0 w' ∧ ((fleetE f ≠ 0 ∧ e = .returned (.tuple #[.pointer none, .int .i64 (fleetE f)]) ∧ w'.heap[O]? = some (.cells #[v0] t (0, 0))) ∨
    (fleetE f = 0 ∧ ∃ (sb lo : Nat) (v : Value), e = .returned (.tuple #[.pointer (some ⟨sb, 0, none⟩), .int .i64 0]) ∧ J lo v (runE f l).2 w'))
theorem runK_acc (f : Fl) (l : List Ev) (k : Nat) : (runK f l k).1 = (runK f l k).2.foldl applyK startS := (fold_path (l.take k) (startS, []) trivial rfl).2
theorem runK_len (f : Fl) (l : List Ev) (k : Nat) : (runK f l k).2.length ≤ k := by
  obtain ⟨m, h1, h2⟩ := fold_sub (f := f) (l.take k) (startS, [])
  unfold runK
  rw [h1, List.nil_append]
  exact Nat.le_trans h2.length_le (by rw [List.length_take]; omega)
theorem CM.own_ge {base lo : Nat} {f : Fl} {L : Lay} {s : CSt} {w : World} (h : CM base lo f L s w) {q : Nat} (hq : L.own s.k q) : base ≤ q := by
  obtain ⟨b1, b2, b3, b4⟩ := h.b0
  obtain ⟨l1, l2, l3, l4⟩ := h.l0
  rcases hq with e | e | e | ⟨i, hi, e⟩
  · omega
  · omega
  · omega
  · have := (h.pl i hi).1; omega
theorem CM.own_row {base lo : Nat} {f : Fl} {L : Lay} {s : CSt} {w : World} (h : CM base lo f L s w) {g : Nat} (hg : lo ≤ g) (hp : ∀ i, i < s.k → L.P i ≠ g) : ¬ L.own s.k g := by
  obtain ⟨l1, l2, l3, l4⟩ := h.l0
  rintro (e | e | e | ⟨i, hi, e⟩)
  · omega
  · omega
  · omega
  · exact hp i hi e.symm
theorem CM.seen {base lo O : Nat} {f : Fl} {L : Lay} {s : CSt} {v : Value} {w w' : World} (h : CM base lo f L s w) (hO : O < base) (hg : ∀ g, v.ownBlock = some g → lo ≤ g) (hp : ∀ g, v.ownBlock = some g → ∀ i, i < s.k → L.P i ≠ g)
    (ho : Off (fun q => q = O ∨ v.ownBlock = some q) w w') : CM base lo f L s w' := by
  obtain ⟨b1, b2, b3, b4⟩ := h.b0
  obtain ⟨l1, l2, l3, l4⟩ := h.l0
  refine h.off ho (fun hh => ?_) (fun q hq hh => ?_)
  · rcases hh with e | e
    · omega
    · have := hg _ e; omega
  · rcases hh with e | e
    · have := h.own_ge hq; omega
    · exact h.own_row (hg _ e) (hp _ e) hq
end Go.Proofs.Ytlnfhlmgnppcbaa
