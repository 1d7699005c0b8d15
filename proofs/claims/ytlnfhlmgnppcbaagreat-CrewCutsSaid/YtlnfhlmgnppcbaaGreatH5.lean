/- The order in which the values of a queue leave, for any values; ranks. Plain lists, no program. -/
import Derived.Test.YtlnfhlmgnppcbaaGreatBB
namespace Go.Proofs.YtlnfhlmgnppcbaaGreat
namespace Lv
section
variable {T : Type} [Inhabited T]
def leaveN (lt : T → T → Bool) : Nat → List T → List T
  | 0, _ => []
  | _, [] => []
  | n + 1, x :: l => (x :: l).getD (minIx lt (x :: l)) default :: leaveN lt n ((x :: l).eraseIdx (minIx lt (x :: l)))
def leave (lt : T → T → Bool) (l : List T) : List T := leaveN lt l.length l
theorem leave_nil (lt : T → T → Bool) : leave lt [] = [] := rfl
theorem leave_cons {lt : T → T → Bool} {l : List T} (h : l ≠ []) : leave lt l = l.getD (minIx lt l) default :: leave lt (l.eraseIdx (minIx lt l)) := by
  have hlt := minIx_lt (lt := lt) h
  cases l with
  | nil => exact absurd rfl h
  | cons x l =>
    have he : ((x :: l).eraseIdx (minIx lt (x :: l))).length = l.length := by rw [List.length_eraseIdx_of_lt hlt]; rfl
    unfold leave
    rw [he]
    rfl
theorem leave_perm (lt : T → T → Bool) : ∀ (n : Nat) (l : List T), l.length = n → (leave lt l).Perm l
  | 0, l, h => by obtain rfl := List.length_eq_zero_iff.1 h; exact List.Perm.refl _
  | n + 1, l, h => by
    have hne : l ≠ [] := by intro e; subst e; simp at h
    have hlt := minIx_lt (lt := lt) hne
    rw [leave_cons hne]
    have ih := leave_perm lt n (l.eraseIdx (minIx lt l)) (by rw [List.length_eraseIdx_of_lt hlt, h]; rfl)
    have e : l = l.take (minIx lt l) ++ l[minIx lt l] :: l.drop (minIx lt l + 1) := by rw [List.getElem_cons_drop, List.take_append_drop]
    have e2 : l.eraseIdx (minIx lt l) = l.take (minIx lt l) ++ l.drop (minIx lt l + 1) := List.eraseIdx_eq_take_drop_succ ..
    have e3 : l.getD (minIx lt l) default = l[minIx lt l] := by simp [List.getD, hlt]
    have h1 : l.Perm (l[minIx lt l] :: l.eraseIdx (minIx lt l)) := by rw [e2]; exact (List.Perm.of_eq e).trans List.perm_middle
    rw [e3]
    exact (ih.cons _).trans h1.symm
theorem leave_len (lt : T → T → Bool) (l : List T) : (leave lt l).length = l.length := (leave_perm lt _ l rfl).length_eq
theorem leave_sorted {lt : T → T → Bool} (o : Ord lt) {r : T → T → Prop} : ∀ (n : Nat) (l : List T), l.length = n → l.Pairwise r → (leave lt l).Pairwise (fun a b => lt a b = true ∨ (lt a b = false ∧ lt b a = false ∧ r a b))
  | 0, l, h, _ => by obtain rfl := List.length_eq_zero_iff.1 h; exact List.Pairwise.nil
  | n + 1, l, h, hp => by
    have hne : l ≠ [] := by intro e; subst e; simp at h
    have hlt := minIx_lt (lt := lt) hne
    rw [leave_cons hne]
    have hl2 : (l.eraseIdx (minIx lt l)).length = n := by rw [List.length_eraseIdx_of_lt hlt, h]; rfl
    refine List.pairwise_cons.2 ⟨fun y hy => ?_, leave_sorted o n _ hl2 (hp.sublist (List.eraseIdx_sublist l _))⟩
    have hy2 := (leave_perm lt n _ hl2).mem_iff.1 hy
    rw [List.mem_eraseIdx_iff_getElem] at hy2
    obtain ⟨j, hj, hjne, rfl⟩ := hy2
    have e3 : l.getD (minIx lt l) default = l[minIx lt l] := by simp [List.getD, hlt]
    have e4 : l.getD j default = l[j] := by simp [List.getD, hj]
    have h1 := minTo_least o (fun i => l.getD i default) (l.length - 1) j (by omega)
    change lt (l.getD j default) (l.getD (minIx lt l) default) = false at h1
    rw [e4] at h1
    by_cases hji : j < minIx lt l
    · have h2 := minTo_first o (fun i => l.getD i default) (l.length - 1) j hji
      change lt (l.getD (minIx lt l) default) (l.getD j default) = true at h2
      rw [e4] at h2
      exact .inl h2
    · cases hb : lt (l.getD (minIx lt l) default) l[j]
      · refine .inr ⟨rfl, h1, ?_⟩
        have := List.pairwise_iff_getElem.1 hp (minIx lt l) j hlt hj (by omega)
        rw [e3]; exact this
      · exact .inl rfl
end
section
variable {A T : Type} [Inhabited A] [Inhabited T]
theorem minIx_map (lt : T → T → Bool) (f : A → T) (l : List A) : minIx lt (l.map f) = minIx (fun a b => lt (f a) (f b)) l := by
  unfold minIx
  rw [List.length_map]
  have g : ∀ j, j < l.length → (l.map f).getD j default = f (l.getD j default) := fun j hj => by simp [List.getD, hj]
  have key : ∀ k, k < l.length → minTo lt (fun i => (l.map f).getD i default) k = minTo (fun a b => lt (f a) (f b)) (fun i => l.getD i default) k := by
    intro k
    induction k with
    | zero => intro _; rfl
    | succ k ih =>
      intro hk
      unfold minTo
      have h1 := ih (by omega)
      have h2 := minTo_le (lt := fun a b => lt (f a) (f b)) (fun i => l.getD i default) k
      rw [h1, g (k + 1) hk, g _ (by omega)]
  by_cases h : l.length = 0
  · rw [h]; rfl
  · exact key _ (by omega)
theorem leave_map (lt : T → T → Bool) (f : A → T) : ∀ (n : Nat) (l : List A), l.length = n → leave lt (l.map f) = (leave (fun a b => lt (f a) (f b)) l).map f
  | 0, l, h => by obtain rfl := List.length_eq_zero_iff.1 h; rfl
  | n + 1, l, h => by
    have hne : l ≠ [] := by intro e; subst e; simp at h
    have hne2 : l.map f ≠ [] := by simpa using hne
    have hlt := minIx_lt (lt := fun a b => lt (f a) (f b)) hne
    rw [leave_cons hne, leave_cons hne2, minIx_map, List.map_cons, ← leave_map lt f n _ (by rw [List.length_eraseIdx_of_lt hlt, h]; rfl)]
    congr 1
    · simp [List.getD, hlt]
    · rw [List.eraseIdx_eq_take_drop_succ, List.eraseIdx_eq_take_drop_succ, List.map_append, List.map_take, List.map_drop]
end
/-- In a sorted list a value stands where as many are ahead of it. -/
theorem at_rank {α : Type} {r : α → α → Bool} (asy : ∀ a b, r a b = true → r b a = false) : ∀ {l : List α}, l.Pairwise (fun a b => r a b = true) → ∀ {x}, x ∈ l → l[l.countP (fun y => r y x)]? = some x
  | [], _, x, hx => by cases hx
  | a :: t, h, x, hx => by
    obtain ⟨h1, h2⟩ := List.pairwise_cons.1 h
    have irr : ∀ a, r a a = false := fun a => by
      cases e : r a a
      · rfl
      · rw [← e]; exact asy a a e
    by_cases hxt : x ∈ t
    · rw [List.countP_cons_of_pos (p := fun y => r y x) (h1 x hxt), List.getElem?_cons_succ]
      exact at_rank asy h2 hxt
    · obtain rfl : x = a := (List.mem_cons.1 hx).resolve_right hxt
      rw [List.countP_cons_of_neg (p := fun y => r y x) (by simp [irr])]
      have : t.countP (fun y => r y x) = 0 := List.countP_eq_zero.2 fun y hy => by simp [asy x y (h1 y hy)]
      rw [this]; rfl
/-- How many of the first k numbers. -/
def cnt (p : Nat → Bool) (k : Nat) : Nat := (List.range k).countP p
theorem cnt_zero (p : Nat → Bool) : cnt p 0 = 0 := rfl
theorem cnt_yes {p : Nat → Bool} {k : Nat} (h : p k = true) : cnt p (k + 1) = cnt p k + 1 := by simp [cnt, List.range_succ, List.countP_append, h]
theorem cnt_no {p : Nat → Bool} {k : Nat} (h : p k = false) : cnt p (k + 1) = cnt p k := by simp [cnt, List.range_succ, List.countP_append, h]
theorem cnt_le (p : Nat → Bool) (k : Nat) : cnt p k ≤ k := by have := List.countP_le_length (p := p) (l := List.range k); simpa [cnt] using this
theorem cnt_congr {p q : Nat → Bool} : ∀ {k : Nat}, (∀ i, i < k → p i = q i) → cnt p k = cnt q k
  | 0, _ => rfl
  | k + 1, h => by
    have ih := cnt_congr (k := k) (fun i hi => h i (by omega))
    have hk := h k (by omega)
    cases hp : p k
    · rw [cnt_no hp, cnt_no (by rw [← hk, hp]), ih]
    · rw [cnt_yes hp, cnt_yes (by rw [← hk, hp]), ih]
theorem cnt_or {p q : Nat → Bool} : ∀ {k : Nat}, (∀ i, i < k → p i = true → q i = false) → cnt (fun i => p i || q i) k = cnt p k + cnt q k
  | 0, _ => rfl
  | k + 1, h => by
    have ih := cnt_or (p := p) (q := q) (k := k) (fun i hi => h i (by omega))
    have hk := h k (by omega)
    cases hp : p k
    · cases hq : q k
      · rw [cnt_no hp, cnt_no hq, cnt_no (by simp [hp, hq]), ih]
      · rw [cnt_no hp, cnt_yes hq, cnt_yes (by simp [hp, hq]), ih]; omega
    · rw [cnt_yes hp, cnt_no (hk hp), cnt_yes (by simp [hp]), ih]; omega
theorem cnt_upto {p : Nat → Bool} {i : Nat} : ∀ {k : Nat}, i ≤ k → cnt (fun j => p j && decide (j < i)) k = cnt p i
  | 0, h => by obtain rfl : i = 0 := by omega
               rfl
  | k + 1, h => by
    by_cases hi : i = k + 1
    · subst hi; exact cnt_congr fun j hj => by simp [hj]
    · rw [cnt_no (by simp; intro; omega), cnt_upto (by omega)]
theorem cnt_mono {p q : Nat → Bool} : ∀ {k : Nat}, (∀ i, i < k → p i = true → q i = true) → cnt p k ≤ cnt q k
  | 0, _ => Nat.le_refl _
  | k + 1, h => by
    have ih := cnt_mono (p := p) (q := q) (k := k) (fun i hi => h i (by omega))
    have hk := h k (by omega)
    cases hp : p k
    · cases hq : q k
      · rw [cnt_no hp, cnt_no hq]; exact ih
      · rw [cnt_no hp, cnt_yes hq]; omega
    · rw [cnt_yes hp, cnt_yes (hk hp)]; omega
theorem cnt_lt {p q : Nat → Bool} {k j : Nat} (h : ∀ i, i < k → p i = true → q i = true) (hj : j < k) (hp : p j = false) (hq : q j = true) : cnt p k < cnt q k := by
  have e : cnt (fun i => p i || decide (i = j)) k = cnt p k + cnt (fun i => decide (i = j)) k := cnt_or fun i _ hpi => by
    simp; intro e; subst e; rw [hp] at hpi; cases hpi
  have e2 : 0 < cnt (fun i => decide (i = j)) k := by
    unfold cnt; exact List.countP_pos_iff.2 ⟨j, List.mem_range.2 hj, by simp⟩
  have := cnt_mono (p := fun i => p i || decide (i = j)) (q := q) (k := k) (fun i hi h' => by
    simp at h'; rcases h' with h' | h'
    · exact h i hi h'
    · rw [h']; exact hq)
  omega
theorem cnt_all {p : Nat → Bool} : ∀ {k : Nat}, (∀ i, i < k → p i = true) → cnt p k = k
  | 0, _ => rfl
  | k + 1, h => by rw [cnt_yes (h k (by omega)), cnt_all (fun i hi => h i (by omega))]
theorem cnt_none {p : Nat → Bool} : ∀ {k : Nat}, (∀ i, i < k → p i = false) → cnt p k = 0
  | 0, _ => rfl
  | k + 1, h => by rw [cnt_no (h k (by omega)), cnt_none (fun i hi => h i (by omega))]
/-- The i-th number's place among the first n, in the order of their sizes. -/
theorem leave_rank (sz : Nat → Nat) (n : Nat) {i : Nat} (hi : i < n) :
    (leave (fun a b => decide (sz a < sz b)) (List.range n))[cnt (fun j => decide (sz j < sz i)) n + cnt (fun j => decide (sz j = sz i)) i]? = some i := by
  have o : Ord (fun a b : Nat => decide (sz a < sz b)) := ⟨fun h => by simp at *; omega, fun h1 h2 => by simp at *; omega⟩
  have hs := leave_sorted o n (List.range n) (by simp) List.pairwise_lt_range
  have hp := leave_perm (fun a b => decide (sz a < sz b)) n (List.range n) (by simp)
  have h1 := at_rank (r := fun a b : Nat => decide (sz a < sz b) || (decide (sz a = sz b) && decide (a < b))) (fun a b h => by simp at *; omega)
    (hs.imp fun h => by simp at *; omega) (hp.mem_iff.2 (List.mem_range.2 hi))
  rw [hp.countP_eq] at h1
  have e : (List.range n).countP (fun y => decide (sz y < sz i) || (decide (sz y = sz i) && decide (y < i))) = cnt (fun j => decide (sz j < sz i)) n + cnt (fun j => decide (sz j = sz i)) i := by
    rw [← cnt_upto (p := fun j => decide (sz j = sz i)) (i := i) (k := n) (by omega)]
    exact cnt_or fun j _ h => by simp at *; omega
  rw [e] at h1
  exact h1
end Lv
end Go.Proofs.YtlnfhlmgnppcbaaGreat
