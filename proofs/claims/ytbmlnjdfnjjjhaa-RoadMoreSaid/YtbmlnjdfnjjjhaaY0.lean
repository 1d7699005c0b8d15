/- The way that is chosen: at each node the first edge with which what is left is still best. -/
import Derived.Test.YtbmlnjdfnjjjhaaT0
namespace Go.Proofs.Ytbmlnjdfnjjjhaa
open Go.RowKit
set_option linter.unusedVariables false
set_option linter.unusedSimpArgs false
open Rd
/-- The first number with this property, n if there is none below n. -/
def first (p : Nat → Bool) : Nat → Nat
  | 0 => 0
  | n + 1 => if first p n < n then first p n else if p n = true then n else n + 1
theorem first_le (p : Nat → Bool) : ∀ n, first p n ≤ n
  | 0 => Nat.le_refl _
  | n + 1 => by have := first_le p n; unfold first; split; omega; split <;> omega
theorem first_none {p : Nat → Bool} : ∀ {n : Nat}, (∀ j, j < n → p j = false) → first p n = n
  | 0, _ => rfl
  | n + 1, h => by
    unfold first
    rw [first_none (fun j hj => h j (by omega)), if_neg (by omega), if_neg (by rw [h n (by omega)]; simp)]
theorem first_eq {p : Nat → Bool} {k : Nat} (h : ∀ j, j < k → p j = false) (hk : p k = true) : ∀ {n : Nat}, k < n → first p n = k
  | 0, h0 => by omega
  | n + 1, h0 => by
    unfold first
    by_cases e : k = n
    · subst e; rw [first_none h, if_neg (by omega), if_pos hk]
    · have := first_eq h hk (n := n) (by omega)
      rw [this, if_pos (by omega)]
theorem first_spec {p : Nat → Bool} {k n : Nat} (hk : k < n) (hp : p k = true) : first p n < n ∧ p (first p n) = true ∧ first p n ≤ k := by
  obtain ⟨m, hm, hl⟩ := exists_min (fun j => p j = true) k hp
  have h1 := hl k hp
  have e := first_eq (p := p) (k := m) (fun j hj => by
    cases hj2 : p j
    · rfl
    · have := hl j hj2; omega) hm (n := n) (by omega)
  rw [e]; exact ⟨by omega, hm, h1⟩
section
open Classical
/-- With this edge what is left from the node is still best. -/
noncomputable def fit (n m : Nat) (E : Nat → Ed) (to at_ : Int) (i : Nat) : Bool :=
  decide ((E i).frm = at_ ∧ Rd.Can (gr Ed.til Ed.frm n m E) to (E i).til ∧ sec (gr Ed.til Ed.frm n m E) to at_ = sec (gr Ed.til Ed.frm n m E) to (E i).til + (E i).sec ∧ edg (gr Ed.til Ed.frm n m E) to at_ = edg (gr Ed.til Ed.frm n m E) to (E i).til + 1)
theorem fit_iff {n m : Nat} {E : Nat → Ed} {to at_ : Int} {i : Nat} : fit n m E to at_ i = true ↔ ((E i).frm = at_ ∧ Rd.Can (gr Ed.til Ed.frm n m E) to (E i).til ∧ sec (gr Ed.til Ed.frm n m E) to at_ = sec (gr Ed.til Ed.frm n m E) to (E i).til + (E i).sec ∧ edg (gr Ed.til Ed.frm n m E) to at_ = edg (gr Ed.til Ed.frm n m E) to (E i).til + 1) := by
  unfold fit; exact decide_eq_true_iff
end
noncomputable def wayL (n m : Nat) (E : Nat → Ed) (to : Int) : Nat → Int → List Int
  | 0, _ => []
  | f + 1, at_ => (first (fit n m E to at_) m : Int) :: wayL n m E to f (E (first (fit n m E to at_) m)).til
theorem wayL_len (n m : Nat) (E : Nat → Ed) (to : Int) : ∀ (f : Nat) (at_ : Int), (wayL n m E to f at_).length = f
  | 0, _ => rfl
  | f + 1, at_ => by simp [wayL, wayL_len n m E to f]
theorem fit_some {n m : Nat} {E : Nat → Ed} {to at_ : Int} (ok : (gr Ed.til Ed.frm n m E).Ok) (hc : Rd.Can (gr Ed.til Ed.frm n m E) to at_) (hne : at_ ≠ to) : ∃ i, i < m ∧ fit n m E to at_ i = true := by
  rcases hc.best.before with ⟨h, _⟩ | ⟨i, hi, hb, h'⟩
  · exact absurd h hne
  · refine ⟨i, hi, ?_⟩
    have e := h'.sec
    have e1 : sec (gr Ed.til Ed.frm n m E) to (E i).til = _ := e.1
    have e2 : edg (gr Ed.til Ed.frm n m E) to (E i).til = _ := e.2
    have hs : (gr Ed.til Ed.frm n m E).c i = (E i).sec := rfl
    refine fit_iff.2 ⟨hb, ⟨_, _, h'⟩, ?_, ?_⟩
    · rw [e1, hs]; omega
    · rw [e2]; omega
theorem home_iff {n m : Nat} {E : Nat → Ed} {to at_ : Int} (ok : (gr Ed.til Ed.frm n m E).Ok) (hc : Rd.Can (gr Ed.til Ed.frm n m E) to at_) : edg (gr Ed.til Ed.frm n m E) to at_ = 0 ↔ at_ = to := by
  refine ⟨fun h => ?_, fun h => ?_⟩
  · rcases hc.best.before with ⟨h1, _⟩ | ⟨i, hi, hb, h'⟩
    · exact h1
    · have := h'.1.nonneg ok; omega
  · subst h; exact ((Best.home ok).sec).2
theorem can_edg {n m : Nat} {E : Nat → Ed} {to at_ : Int} (ok : (gr Ed.til Ed.frm n m E).Ok) (hc : Rd.Can (gr Ed.til Ed.frm n m E) to at_) : 0 ≤ edg (gr Ed.til Ed.frm n m E) to at_ ∧ 0 ≤ sec (gr Ed.til Ed.frm n m E) to at_ ∧ sec (gr Ed.til Ed.frm n m E) to at_ ≤ 1000 * edg (gr Ed.til Ed.frm n m E) to at_ := by
  have := hc.best.1.nonneg ok; omega
theorem can_few {n m : Nat} {E : Nat → Ed} {to at_ : Int} (ok : (gr Ed.til Ed.frm n m E).Ok) (ht : 0 ≤ to ∧ to < n) (hc : Rd.Can (gr Ed.til Ed.frm n m E) to at_) : edg (gr Ed.til Ed.frm n m E) to at_ < n := hc.best.few ok ht
theorem can_node {n m : Nat} {E : Nat → Ed} {to at_ : Int} (ok : (gr Ed.til Ed.frm n m E).Ok) (ht : 0 ≤ to ∧ to < n) (hc : Rd.Can (gr Ed.til Ed.frm n m E) to at_) : 0 ≤ at_ ∧ at_ < n := hc.best.1.node ok ht
/-- The slice owns these numbers. -/
def IsL (w : World) (base : Nat) (v : Value) (l : List Int) : Prop := Row w base 3 1 v l.length (fun i => [.int .i64 (l.getD i 0)])
theorem IsL.off {X : Nat → Prop} {w w' : World} {base : Nat} {v : Value} {l : List Int} (h : IsL w base v l) (ho : Off X w w') (hX : ∀ g, v.ownBlock = some g → ¬ X g) : IsL w' base v l := Row.off h ho hX
theorem IsL.below {w w' : World} {base : Nat} {v : Value} {l : List Int} (h : IsL w base v l) (hb : Below w.heap.size w w') : IsL w' base v l := Row.off (X := fun _ => False) h (Off.of_below hb) (fun _ _ h => h)
theorem IsL.nil (w : World) (base : Nat) : IsL w base (.slice none 0 0) [] := World.ownsRow_nil _ _ _ _
theorem IsL.own {w : World} {base : Nat} {v : Value} {l : List Int} (h : IsL w base v l) : ∀ g, v.ownBlock = some g → base ≤ g ∧ g < w.heap.size := World.ownsRow.lt h
theorem IsL.base_mono {w : World} {B base : Nat} {v : Value} {l : List Int} (h : IsL w B v l) (hb : base ≤ B) : IsL w base v l := Row.base_mono h hb
theorem IsL.of_push {w : World} {base : Nat} {v : Value} {l : List Int} {x : Int} (h : Row w base 3 1 v (l.length + 1) (upd (fun i => [.int .i64 (l.getD i 0)]) l.length [.int .i64 x])) : IsL w base v (l ++ [x]) := by
  unfold IsL
  rw [List.length_append]
  refine Row.congr h fun j hj => ?_
  by_cases e : j = l.length
  · subst e; rw [upd_same]; simp
  · have hj2 : j < l.length := by simp at hj; omega
    rw [upd_ne e]; simp [List.getD, List.getElem?_append, hj2]
theorem int_one (x : Int) : ∀ u ∈ [Value.int .i64 x], u.oneCell' = true := by
  intro u hu
  simp at hu
  subst hu; rfl
/-- What Way returns. -/
def Wy (N : Int) (m : Nat) (E : Nat → Ed) (frm to : Int) (w : World) (e : Ending) (w' : World) : Prop :=
  Below w.heap.size w w' ∧
    ((roadE N m E ≠ 0 ∧ e = .returned (.tuple #[.slice none 0 0, .int .i64 (roadE N m E)])) ∨
     (roadE N m E = 0 ∧ (nodeB N frm && nodeB N to) = false ∧ e = .returned (.tuple #[.slice none 0 0, .int .i64 7])) ∨
     (∃ n s t : Nat, roadE N m E = 0 ∧ N = n ∧ frm = s ∧ s < n ∧ to = t ∧ t < n ∧ Right n m E ∧
       ((¬ Rd.Can (gr Ed.til Ed.frm n m E) to frm ∧ e = .returned (.tuple #[.slice none 0 0, .int .i64 15])) ∨
        ∃ v, Rd.Can (gr Ed.til Ed.frm n m E) to frm ∧ e = .returned (.tuple #[v, .int .i64 0]) ∧ IsL w' w.heap.size v (wayL n m E to (edg (gr Ed.til Ed.frm n m E) to frm).toNat frm))))
end Go.Proofs.Ytbmlnjdfnjjjhaa
