/- Ways reversed, joined, and walked edge by edge. Plain. -/
import Derived.Test.YtbmlnjdfnjjjhaaY0
namespace Go.Proofs.Ytbmlnjdfnjjjhaa
set_option linter.unusedVariables false
set_option linter.unusedSimpArgs false
open Rd
theorem Rc.prepend {g : Gr} {i : Nat} (hi : i < g.m) {u v s k : Int} (h : Rc g u v s k) (hb : g.b i = u) : Rc g (g.a i) v (g.c i + s) (k + 1) := by
  induction h with
  | nil =>
    have := Rc.snoc (g := g) (src := g.a i) i .nil hi
    rw [hb] at this
    rwa [show (0 : Int) + g.c i = g.c i + 0 by omega] at this
  | @snoc s k j h hj ih =>
    have := Rc.snoc j ih hj
    rwa [show g.c i + s + g.c j = g.c i + (s + g.c j) by omega] at this
theorem Rc.join {g : Gr} {a b c s k s' k' : Int} (h : Rc g a b s k) (h' : Rc g b c s' k') : Rc g a c (s + s') (k + k') := by
  induction h' with
  | nil => rwa [show s + 0 = s by omega, show k + 0 = k by omega]
  | @snoc s2 k2 i h2 hi ih =>
    have := Rc.snoc i ih hi
    rwa [show s + s2 + g.c i = s + (s2 + g.c i) by omega, show k + k2 + 1 = k + (k2 + 1) by omega] at this
section
variable {n m : Nat} {E : Nat → Ed}
theorem rc_back {a v s k : Int} (h : Rc (gr Ed.frm Ed.til n m E) a v s k) : Rc (gr Ed.til Ed.frm n m E) v a s k := by
  induction h with
  | nil => exact .nil
  | @snoc s k i h hi ih =>
    have := Rc.prepend (g := gr Ed.til Ed.frm n m E) (i := i) hi ih rfl
    rwa [show (gr Ed.til Ed.frm n m E).c i + s = s + (gr Ed.frm Ed.til n m E).c i from Int.add_comm _ _] at this
theorem rc_forth {a v s k : Int} (h : Rc (gr Ed.til Ed.frm n m E) a v s k) : Rc (gr Ed.frm Ed.til n m E) v a s k := by
  induction h with
  | nil => exact .nil
  | @snoc s k i h hi ih =>
    have := Rc.prepend (g := gr Ed.frm Ed.til n m E) (i := i) hi ih rfl
    rwa [show (gr Ed.frm Ed.til n m E).c i + s = s + (gr Ed.til Ed.frm n m E).c i from Int.add_comm _ _] at this
theorem best_back {a v s k : Int} (h : Best (gr Ed.frm Ed.til n m E) a v s k) : Best (gr Ed.til Ed.frm n m E) v a s k := ⟨rc_back h.1, fun s' k' h' => h.2 _ _ (rc_forth h')⟩
theorem best_forth {a v s k : Int} (h : Best (gr Ed.til Ed.frm n m E) a v s k) : Best (gr Ed.frm Ed.til n m E) v a s k := ⟨rc_forth h.1, fun s' k' h' => h.2 _ _ (rc_back h')⟩
theorem can_back {a v : Int} : Rd.Can (gr Ed.frm Ed.til n m E) a v ↔ Rd.Can (gr Ed.til Ed.frm n m E) v a := ⟨fun ⟨s, k, h⟩ => ⟨s, k, best_back h⟩, fun ⟨s, k, h⟩ => ⟨s, k, best_forth h⟩⟩
theorem sec_back {a v : Int} : sec (gr Ed.frm Ed.til n m E) a v = sec (gr Ed.til Ed.frm n m E) v a := by
  by_cases h : Rd.Can (gr Ed.frm Ed.til n m E) a v
  · exact (best_back h.best).sec.1.symm
  · rw [(not_can h).1, (not_can (fun h2 => h (can_back.2 h2))).1]
end
/-- The walk along a list of edges: its time, and where it ends. -/
def wkL (m : Nat) (E : Nat → Ed) : Int → List Int → Option (Int × Int)
  | at_, [] => some (0, at_)
  | at_, x :: l => if 0 ≤ x ∧ x < m ∧ (E x.toNat).frm = at_ then (wkL m E (E x.toNat).til l).map (fun p => ((E x.toNat).sec + p.1, p.2)) else none
theorem wkL_rc {n m : Nat} {E : Nat → Ed} : ∀ {l : List Int} {u s t : Int}, wkL m E u l = some (s, t) → Rc (gr Ed.til Ed.frm n m E) t u s l.length
  | [], u, s, t, h => by simp [wkL] at h; obtain ⟨rfl, rfl⟩ := h; exact .nil
  | x :: l, u, s, t, h => by
    unfold wkL at h
    split at h
    · rename_i hx
      obtain ⟨hx0, hxm, hf⟩ := hx
      rw [Option.map_eq_some_iff] at h
      obtain ⟨⟨s', t'⟩, h1, h2⟩ := h
      simp at h2
      obtain ⟨rfl, rfl⟩ := h2
      have ih := wkL_rc (n := n) h1
      have := Rc.snoc (g := gr Ed.til Ed.frm n m E) x.toNat ih (show x.toNat < m by omega)
      have e : (gr Ed.til Ed.frm n m E).b x.toNat = u := hf
      rw [e] at this
      rwa [show s' + (gr Ed.til Ed.frm n m E).c x.toNat = (E x.toNat).sec + s' from Int.add_comm _ _, show (l.length : Int) + 1 = ((x :: l).length : Int) by simp] at this
    · cases h
section
variable {n m : Nat} {E : Nat → Ed} {t : Int}
theorem wayL_walk (ok : (gr Ed.til Ed.frm n m E).Ok) : ∀ (f : Nat) (a : Int), Rd.Can (gr Ed.til Ed.frm n m E) t a → edg (gr Ed.til Ed.frm n m E) t a = (f : Int) → wkL m E a (wayL n m E t f a) = some (sec (gr Ed.til Ed.frm n m E) t a, t)
  | 0, a, hc, he => by
    obtain rfl := (home_iff ok hc).1 (by omega)
    show some ((0 : Int), a) = _
    rw [(Best.home (g := gr Ed.til Ed.frm n m E) ok).sec.1]
  | f + 1, a, hc, he => by
    have hne : a ≠ t := fun e => by have := (home_iff ok hc).2 e; omega
    obtain ⟨i, hi, hf⟩ := fit_some ok hc hne
    obtain ⟨h1, h2, _⟩ := first_spec hi hf
    obtain ⟨g1, g2, g3, g4⟩ := fit_iff.1 h2
    have ih := wayL_walk ok f _ g2 (by omega)
    show wkL m E a ((first (fit n m E t a) m : Int) :: wayL n m E t f (E (first (fit n m E t a) m)).til) = _
    generalize first (fit n m E t a) m = x at *
    unfold wkL
    rw [if_pos ⟨by omega, by omega, by rw [Int.toNat_natCast]; exact g1⟩, Int.toNat_natCast, ih, g3]
    simp; omega
/-- Where another way that is as good parts from the chosen one, it takes a later edge. -/
theorem wayL_least (ok : (gr Ed.til Ed.frm n m E).Ok) : ∀ (f : Nat) (a : Int) (l : List Int), Rd.Can (gr Ed.til Ed.frm n m E) t a → edg (gr Ed.til Ed.frm n m E) t a = (f : Int) → l.length = f → wkL m E a l = some (sec (gr Ed.til Ed.frm n m E) t a, t) →
    ∀ i, i < f → (∀ j, j < i → (wayL n m E t f a).getD j 0 = l.getD j 0) → (wayL n m E t f a).getD i 0 ≤ l.getD i 0
  | 0, _, _, _, _, _, _, i, hi, _ => by omega
  | f + 1, a, [], _, _, hl, _, _, _, _ => by simp at hl
  | f + 1, a, x :: l, hc, he, hl, hw, i, hi, hj => by
    unfold wkL at hw
    split at hw
    · rename_i hx
      obtain ⟨hx0, hxm, hf⟩ := hx
      rw [Option.map_eq_some_iff] at hw
      obtain ⟨⟨s', t'⟩, h1, h2⟩ := hw
      simp at h2
      obtain ⟨h2, ht⟩ := h2
      have ht' : t = t' := ht.symm
      subst ht'
      have hr := wkL_rc (n := n) h1
      have hcx : Rd.Can (gr Ed.til Ed.frm n m E) t (E x.toNat).til := hr.best ok
      have hbx := hcx.best
      have hle := hbx.2 _ _ hr
      have hext := hc.best.2 _ _ (by
        have := Rc.snoc (g := gr Ed.til Ed.frm n m E) x.toNat hbx.1 (show x.toNat < m by omega)
        rwa [show (gr Ed.til Ed.frm n m E).b x.toNat = a from hf] at this)
      have ec : (gr Ed.til Ed.frm n m E).c x.toNat = (E x.toNat).sec := rfl
      have ell : (l.length : Int) = (f : Int) := by simp at hl; omega
      rw [ec] at hext
      unfold leL at hle hext
      have hsec : sec (gr Ed.til Ed.frm n m E) t a = sec (gr Ed.til Ed.frm n m E) t (E x.toNat).til + (E x.toNat).sec := by omega
      have hedg : edg (gr Ed.til Ed.frm n m E) t a = edg (gr Ed.til Ed.frm n m E) t (E x.toNat).til + 1 := by omega
      have hfit : fit n m E t a x.toNat = true := fit_iff.2 ⟨hf, hcx, hsec, hedg⟩
      obtain ⟨_, _, h3⟩ := first_spec (show x.toNat < m by omega) hfit
      cases i with
      | zero =>
        show ((first (fit n m E t a) m : Nat) : Int) ≤ x
        omega
      | succ i =>
        have h0 : ((first (fit n m E t a) m : Nat) : Int) = x := hj 0 (by omega)
        have e0 : first (fit n m E t a) m = x.toNat := by omega
        show (wayL n m E t f (E (first (fit n m E t a) m)).til).getD i 0 ≤ l.getD i 0
        rw [e0]
        refine wayL_least ok f _ l hcx (by omega) (by simp at hl; omega) (by rw [h1]; congr 2; omega) i (by omega) fun j hj' => ?_
        have := hj (j + 1) (by omega)
        rw [← e0]; exact this
    · cases hw
end
theorem Rc.more {n m : Nat} {A B : Ed → Int} {E E' : Nat → Ed} (h : ∀ i, i < m → E' i = E i) {a v s k : Int} (hr : Rc (gr A B n m E) a v s k) : Rc (gr A B n (m + 1) E') a v s k := by
  induction hr with
  | nil => exact .nil
  | @snoc s k i h' hi ih =>
    have hi' : i < m := hi
    have e1 : (gr A B n (m + 1) E').a i = (gr A B n m E).a i := by show A (E' i) = A (E i); rw [h i hi']
    have e2 : (gr A B n (m + 1) E').b i = (gr A B n m E).b i := by show B (E' i) = B (E i); rw [h i hi']
    have e3 : (gr A B n (m + 1) E').c i = (gr A B n m E).c i := by show (E' i).sec = (E i).sec; rw [h i hi']
    have := Rc.snoc (g := gr A B n (m + 1) E') i (by rw [e1]; exact ih) (show i < m + 1 by omega)
    rwa [e2, e3] at this
end Go.Proofs.Ytbmlnjdfnjjjhaa
