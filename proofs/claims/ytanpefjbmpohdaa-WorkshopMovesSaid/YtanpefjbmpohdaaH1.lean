/- Binary heaps on functions of places, and queues in the order of the pushes: plain theorems, no program. -/
namespace Go.Proofs.Ytanpefjbmpohdaa

section heap
variable {E : Type} {bef : E → E → Bool}
/-- 'bef' is the strict part of a total preorder. -/
structure Ord (bef : E → E → Bool) : Prop where
  asym : ∀ {a b}, bef a b = true → bef b a = false
  trans : ∀ {a b c}, bef b a = false → bef c b = false → bef c a = false
theorem Ord.irr (o : Ord bef) (a : E) : bef a a = false := by
  cases h : bef a a
  · rfl
  · have := o.asym h; rw [h] at this; cases this
def upd (f : Nat → E) (i : Nat) (x : E) : Nat → E := fun j => if j = i then x else f j
def swp (f : Nat → E) (i k : Nat) : Nat → E := upd (upd f i (f k)) k (f i)
theorem upd_same (f : Nat → E) (i : Nat) (x : E) : upd f i x i = x := by simp [upd]
theorem upd_ne {f : Nat → E} {i j : Nat} {x : E} (h : j ≠ i) : upd f i x j = f j := by simp [upd, h]
theorem swp_left (f : Nat → E) (i k : Nat) : swp f i k i = f k := by
  unfold swp upd; by_cases h : i = k
  · subst h; simp
  · simp [h]
theorem swp_right (f : Nat → E) (i k : Nat) : swp f i k k = f i := by simp [swp, upd]
theorem swp_ne {f : Nat → E} {i k j : Nat} (h1 : j ≠ i) (h2 : j ≠ k) : swp f i k j = f j := by simp [swp, upd, h1, h2]

def Heap (bef : E → E → Bool) (f : Nat → E) (n : Nat) : Prop := ∀ i, 0 < i → i < n → bef (f i) (f ((i - 1) / 2)) = false
def UpInv (bef : E → E → Bool) (f : Nat → E) (n i : Nat) : Prop :=
  (∀ j, 0 < j → j < n → j ≠ i → bef (f j) (f ((j - 1) / 2)) = false) ∧ (0 < i → ∀ j, 0 < j → j < n → (j - 1) / 2 = i → bef (f j) (f ((i - 1) / 2)) = false)
theorem up_start {f : Nat → E} {n : Nat} (x : E) (h : Heap bef f n) : UpInv bef (upd f n x) (n + 1) n := by
  refine ⟨fun j h0 h1 h2 => ?_, fun h0 j h1 h2 h3 => by omega⟩
  rw [upd_ne h2, upd_ne (by omega)]
  exact h j h0 (by omega)
theorem up_step (o : Ord bef) {f : Nat → E} {n i : Nat} (h : UpInv bef f n i) (h0 : 0 < i) (h1 : i < n) (hb : bef (f i) (f ((i - 1) / 2)) = true) :
    UpInv bef (swp f i ((i - 1) / 2)) n ((i - 1) / 2) := by
  have hp : (i - 1) / 2 < i := by omega
  refine ⟨fun j j0 j1 j2 => ?_, fun k0 j j0 j1 j2 => ?_⟩
  · by_cases hji : j = i
    · subst hji
      rw [swp_left, swp_right]
      exact o.asym hb
    · rw [swp_ne hji j2]
      by_cases hpj : (j - 1) / 2 = i
      · rw [hpj, swp_left]
        exact h.2 h0 j j0 j1 hpj
      · by_cases hpp : (j - 1) / 2 = (i - 1) / 2
        · rw [hpp, swp_right]
          have := h.1 j j0 j1 hji
          rw [hpp] at this
          exact o.trans (o.asym hb) this
        · rw [swp_ne hpj hpp]
          exact h.1 j j0 j1 hji
  · by_cases hji : j = i
    · subst hji
      rw [swp_left, swp_ne (by omega) (by omega)]
      exact h.1 ((j - 1) / 2) k0 (by omega) (by omega)
    · rw [swp_ne hji (by omega), swp_ne (by omega) (by omega)]
      have a := h.1 j j0 j1 hji
      rw [j2] at a
      exact o.trans (h.1 ((i - 1) / 2) k0 (by omega) (by omega)) a
theorem up_done {f : Nat → E} {n i : Nat} (h : UpInv bef f n i) (hb : i = 0 ∨ bef (f i) (f ((i - 1) / 2)) = false) : Heap bef f n := fun j j0 j1 => by
  by_cases hji : j = i
  · subst hji; exact hb.resolve_left (by omega)
  · exact h.1 j j0 j1 hji
def DownInv (bef : E → E → Bool) (f : Nat → E) (n i : Nat) : Prop :=
  (∀ j, 0 < j → j < n → (j - 1) / 2 ≠ i → bef (f j) (f ((j - 1) / 2)) = false) ∧ (0 < i → ∀ j, 0 < j → j < n → (j - 1) / 2 = i → bef (f j) (f ((i - 1) / 2)) = false)
theorem down_start {f : Nat → E} {n : Nat} (h : Heap bef f (n + 1)) : DownInv bef (swp f 0 n) n 0 := by
  refine ⟨fun j j0 j1 j2 => ?_, fun h0 => by omega⟩
  rw [swp_ne (by omega) (by omega), swp_ne j2 (by omega)]
  exact h j j0 (by omega)
theorem down_step (o : Ord bef) {f : Nat → E} {n i c : Nat} (h : DownInv bef f n i) (c0 : 0 < c) (c1 : c < n) (hc : (c - 1) / 2 = i) (hb : bef (f c) (f i) = true)
    (hm : ∀ j, 0 < j → j < n → (j - 1) / 2 = i → bef (f j) (f c) = false) : DownInv bef (swp f i c) n c := by
  refine ⟨fun j j0 j1 j2 => ?_, fun _ j j0 j1 j2 => ?_⟩
  · by_cases hjc : j = c
    · subst hjc
      rw [swp_right, hc, swp_left]
      exact o.asym hb
    · by_cases hji : j = i
      · subst hji
        rw [swp_left, swp_ne (by omega) j2]
        exact h.2 j0 c c0 c1 hc
      · rw [swp_ne hji hjc]
        by_cases hpi : (j - 1) / 2 = i
        · rw [hpi, swp_left]
          exact hm j j0 j1 hpi
        · rw [swp_ne hpi j2]
          exact h.1 j j0 j1 hpi
  · rw [swp_ne (by omega) (by omega), hc, swp_left]
    have := h.1 j j0 j1 (by omega)
    rw [j2] at this
    exact this
theorem down_done {f : Nat → E} {n i : Nat} (h : DownInv bef f n i) (hm : ∀ j, 0 < j → j < n → (j - 1) / 2 = i → bef (f j) (f i) = false) : Heap bef f n := fun j j0 j1 => by
  by_cases hji : (j - 1) / 2 = i
  · rw [hji]; exact hm j j0 j1 hji
  · exact h.1 j j0 j1 hji
theorem heap_min (o : Ord bef) {f : Nat → E} {n : Nat} (h : Heap bef f n) : ∀ i, i < n → bef (f i) (f 0) = false := by
  intro i
  induction i using Nat.strongRecOn with
  | _ i ih =>
    intro hi
    by_cases h0 : i = 0
    · subst h0; exact o.irr _
    · exact o.trans (ih ((i - 1) / 2) (by omega) (by omega)) (h i (by omega) hi)

def ents (f : Nat → E) (n : Nat) : List E := (List.range n).map f
theorem ents_len (f : Nat → E) (n : Nat) : (ents f n).length = n := by simp [ents]
theorem ents_get {f : Nat → E} {n i : Nat} (h : i < n) : (ents f n)[i]? = some (f i) := by simp [ents, h]
theorem ents_succ (f : Nat → E) (n : Nat) : ents f (n + 1) = ents f n ++ [f n] := by simp [ents, List.range_succ]
theorem ents_congr {f g : Nat → E} {n : Nat} (h : ∀ i, i < n → f i = g i) : ents f n = ents g n := by
  unfold ents; exact List.map_congr_left fun i hi => h i (List.mem_range.1 hi)
theorem ents_push (f : Nat → E) (n : Nat) (x : E) : ents (upd f n x) (n + 1) = ents f n ++ [x] := by
  rw [ents_succ, upd_same, ents_congr (g := f) fun i hi => upd_ne (by omega)]
theorem ents_upd {f : Nat → E} {n i : Nat} (x : E) : ents (upd f i x) n = (ents f n).set i x := by
  apply List.ext_getElem?
  intro j
  rw [List.getElem?_set]
  by_cases hj : j < n
  · rw [ents_get hj]
    by_cases h : i = j
    · subst h; simp [upd_same, ents_len, hj]
    · rw [if_neg h, ents_get hj, upd_ne (Ne.symm h)]
  · have h1 : (ents (upd f i x) n)[j]? = none := by rw [List.getElem?_eq_none]; rw [ents_len]; omega
    have h2 : (ents f n)[j]? = none := by rw [List.getElem?_eq_none]; rw [ents_len]; omega
    rw [h1]
    split
    · subst i; simp [ents_len, hj]
    · exact h2.symm
theorem swp_perm {f : Nat → E} {n i k : Nat} (hi : i < n) (hk : k < n) : (ents (swp f i k) n).Perm (ents f n) := by
  unfold swp
  rw [ents_upd, ents_upd]
  have h1 : (ents f n)[k]'(by rw [ents_len]; exact hk) = f k := by simp [ents]
  have h2 : (ents f n)[i]'(by rw [ents_len]; exact hi) = f i := by simp [ents]
  have := List.set_set_perm (as := ents f n) (i := i) (j := k) (by rw [ents_len]; exact hi) (by rw [ents_len]; exact hk)
  rw [h1, h2] at this
  exact this
theorem mem_ents {f : Nat → E} {n : Nat} {x : E} : x ∈ ents f n ↔ ∃ i, i < n ∧ f i = x := by simp [ents]
end heap

section queue
variable {T : Type} {lt : T → T → Bool}
/-- An entry: a value with its number in the sequence of pushes. -/
def befE (lt : T → T → Bool) (x y : T × Int) : Bool := lt x.1 y.1 || (!lt y.1 x.1 && decide (x.2 < y.2))
theorem befE_ord (o : Ord lt) : Ord (befE lt) := by
  refine ⟨fun {a b} h => ?_, fun {a b c} h1 h2 => ?_⟩
  · unfold befE at *
    cases h1 : lt a.1 b.1
    · simp [h1] at h
      have := h.1
      simp [this]; omega
    · simp [o.asym h1]
  · unfold befE at *
    simp only [Bool.or_eq_false_iff, Bool.and_eq_false_iff, Bool.not_eq_false', decide_eq_false_iff_not] at *
    obtain ⟨p1, p2⟩ := h1
    obtain ⟨q1, q2⟩ := h2
    refine ⟨o.trans p1 q1, ?_⟩
    rcases p2 with p2 | p2
    · left
      cases h : lt a.1 c.1
      · have := o.trans q1 h
        rw [p2] at this; cases this
      · rfl
    · rcases q2 with q2 | q2
      · left
        cases h : lt a.1 c.1
        · have := o.trans h p1
          rw [q2] at this; cases this
        · rfl
      · right; omega

/-- The place of the first least value among those up to k. -/
def minTo (lt : T → T → Bool) (g : Nat → T) : Nat → Nat
  | 0 => 0
  | k + 1 => if lt (g (k + 1)) (g (minTo lt g k)) then k + 1 else minTo lt g k
theorem minTo_le (g : Nat → T) : ∀ k, minTo lt g k ≤ k
  | 0 => by simp [minTo]
  | k + 1 => by unfold minTo; have := minTo_le g k; split <;> omega
theorem minTo_least (o : Ord lt) (g : Nat → T) : ∀ k j, j ≤ k → lt (g j) (g (minTo lt g k)) = false
  | 0, j, h => by obtain rfl : j = 0 := by omega
                  exact o.irr _
  | k + 1, j, h => by
    unfold minTo
    split
    · rename_i hb
      by_cases hj : j = k + 1
      · subst hj; exact o.irr _
      · exact o.trans (o.asym hb) (minTo_least o g k j (by omega))
    · rename_i hb
      by_cases hj : j = k + 1
      · subst hj; simpa using hb
      · exact minTo_least o g k j (by omega)
theorem minTo_first (o : Ord lt) (g : Nat → T) : ∀ k j, j < minTo lt g k → lt (g (minTo lt g k)) (g j) = true
  | 0, j, h => by simp [minTo] at h
  | k + 1, j, h => by
    unfold minTo at h ⊢
    split at h
    · rename_i hb
      rw [if_pos hb]
      cases hc : lt (g (k + 1)) (g j)
      · have := o.trans (minTo_least o g k j (by omega)) hc
        rw [hb] at this; cases this
      · rfl
    · rename_i hb
      rw [if_neg hb]
      exact minTo_first o g k j h
theorem minTo_congr {g g' : Nat → T} : ∀ k, (∀ j, j ≤ k → g j = g' j) → minTo lt g k = minTo lt g' k
  | 0, _ => rfl
  | k + 1, h => by
    have ih := minTo_congr k (fun j hj => h j (by omega))
    unfold minTo
    rw [ih, h (k + 1) (by omega), h (minTo lt g' k) (by have := minTo_le (lt := lt) g' k; omega)]
variable [Inhabited T]
def minIx (lt : T → T → Bool) (l : List T) : Nat := minTo lt (fun i => l.getD i default) (l.length - 1)
theorem minIx_lt {l : List T} (h : l ≠ []) : minIx lt l < l.length := by
  have := minTo_le (lt := lt) (fun i => l.getD i default) (l.length - 1)
  have h0 : 0 < l.length := List.length_pos_iff.2 h
  unfold minIx; omega

def Asc (A : List (T × Int)) : Prop := A.Pairwise (fun x y => x.2 < y.2)
omit [Inhabited T] in
theorem asc_inj {A : List (T × Int)} (h : Asc A) : ∀ {i j : Nat} {x y}, A[i]? = some x → A[j]? = some y → x.2 = y.2 → i = j := by
  intro i j x y hi hj hxy
  obtain ⟨hil, hi⟩ := List.getElem?_eq_some_iff.1 hi
  obtain ⟨hjl, hj⟩ := List.getElem?_eq_some_iff.1 hj
  have hp := List.pairwise_iff_getElem.1 h
  rcases Nat.lt_trichotomy i j with h1 | h1 | h1
  · have := hp i j hil hjl h1; rw [hi, hj] at this; omega
  · exact h1
  · have := hp j i hjl hil h1; rw [hi, hj] at this; omega
theorem getD_of_some {α : Type} {l : List α} {i : Nat} {x d : α} (h : l[i]? = some x) : l.getD i d = x := by simp [List.getD, h]
theorem pop_spec (o : Ord lt) {A : List (T × Int)} {f : Nat → T × Int} {n : Nat} (hp : (ents f n).Perm A) (ha : Asc A) (hh : Heap (befE lt) f n) (hn : 0 < n) :
    A[minIx lt (A.map (·.1))]? = some (f 0) := by
  have oE := befE_ord o
  have hl : A.length = n := by rw [← hp.length_eq, ents_len]
  obtain ⟨i, hi⟩ : ∃ i, i = minIx lt (A.map (·.1)) := ⟨_, rfl⟩
  have hne : A.map (·.1) ≠ [] := by intro h; have := congrArg List.length h; simp at this; simp [this] at hl; omega
  have hlt := minIx_lt (lt := lt) hne
  rw [← hi, List.length_map] at hlt
  rw [← hi]
  have hgi : A[i]? = some A[i] := List.getElem?_eq_getElem hlt
  rw [hgi]
  -- both are least
  have m0 : ∀ y ∈ A, befE lt y (f 0) = false := fun y hy => by
    obtain ⟨j, hj, rfl⟩ := mem_ents.1 (hp.mem_iff.2 hy)
    exact heap_min oE hh j hj
  have f0 : f 0 ∈ A := hp.mem_iff.1 (mem_ents.2 ⟨0, hn, rfl⟩)
  obtain ⟨j, hjl, hj⟩ := List.getElem_of_mem f0
  have hgj : A[j]? = some (f 0) := by rw [List.getElem?_eq_getElem hjl, hj]
  have g : ∀ k (x : T × Int), A[k]? = some x → (A.map (·.1)).getD k default = x.1 := fun k x h => getD_of_some (by rw [List.getElem?_map, h]; rfl)
  have mi : befE lt (f 0) A[i] = false := by
    have h1 := minTo_least o (fun i => (A.map (·.1)).getD i default) ((A.map (·.1)).length - 1) j (by simp; omega)
    have h2 : j < i → lt (A[i]).1 (f 0).1 = true := fun hji => by
      have := minTo_first o (fun i => (A.map (·.1)).getD i default) ((A.map (·.1)).length - 1) j (by show j < minIx lt (A.map (·.1)); omega)
      change lt ((A.map (·.1)).getD (minIx lt (A.map (·.1))) default) ((A.map (·.1)).getD j default) = true at this
      rw [← hi, g i _ hgi, g j _ hgj] at this
      exact this
    change lt ((A.map (·.1)).getD j default) ((A.map (·.1)).getD (minIx lt (A.map (·.1))) default) = false at h1
    rw [← hi, g i _ hgi, g j _ hgj] at h1
    unfold befE
    rw [h1, Bool.false_or]
    by_cases hji : j < i
    · rw [h2 hji]; rfl
    · have : ¬ (f 0).2 < (A[i]).2 := by
        by_cases e : i = j
        · subst e; rw [hj]; omega
        · have := List.pairwise_iff_getElem.1 ha i j hlt hjl (by omega)
          rw [hj] at this; omega
      simp [this]
  have m1 := m0 A[i] (List.getElem_mem hlt)
  have he : (A[i]).2 = (f 0).2 := by
    unfold befE at mi m1
    simp only [Bool.or_eq_false_iff, Bool.and_eq_false_iff, Bool.not_eq_false', decide_eq_false_iff_not] at mi m1
    have a := mi.2.resolve_left (by rw [m1.1]; simp)
    have b := m1.2.resolve_left (by rw [mi.1]; simp)
    omega
  obtain rfl := asc_inj ha hgi hgj he
  rw [hj]
omit [Inhabited T] in
theorem pop_rest {A : List (T × Int)} {f g : Nat → T × Int} {n i : Nat} (hp : (ents f (n + 1)).Perm A) (hi : A[i]? = some (f 0)) (hg : (ents g (n + 1)).Perm (ents f (n + 1))) (hl : g n = f 0) :
    (ents g n).Perm (A.eraseIdx i) := by
  obtain ⟨hil, hi⟩ := List.getElem?_eq_some_iff.1 hi
  have h1 : (ents g (n + 1)).Perm A := hg.trans hp
  rw [ents_succ, hl] at h1
  have h2 : (f 0 :: ents g n).Perm A := (List.perm_append_singleton _ _).symm.trans h1
  have h3 : A.Perm (A[i] :: A.eraseIdx i) := by
    have e : A = A.take i ++ A[i] :: A.drop (i + 1) := by rw [List.getElem_cons_drop, List.take_append_drop]
    have e2 : A.eraseIdx i = A.take i ++ A.drop (i + 1) := List.eraseIdx_eq_take_drop_succ ..
    rw [e2]
    exact (List.Perm.of_eq e).trans List.perm_middle
  rw [hi] at h3
  exact (h2.trans h3).cons_inv
omit [Inhabited T] in
theorem asc_erase {A : List (T × Int)} (h : Asc A) (i : Nat) : Asc (A.eraseIdx i) := List.Pairwise.sublist (List.eraseIdx_sublist A i) h
omit [Inhabited T] in
theorem asc_push {A : List (T × Int)} {N : Int} (h : Asc A) (hN : ∀ x ∈ A, x.2 < N) (x : T) : Asc (A ++ [(x, N)]) := by
  refine List.pairwise_append.2 ⟨h, by simp, fun a ha b hb => ?_⟩
  simp at hb; subst hb; exact hN a ha
omit [Inhabited T] in
theorem asc_len {A : List (T × Int)} : ∀ {N : Int}, Asc A → (∀ x ∈ A, 0 ≤ x.2 ∧ x.2 < N) → (A.length : Int) ≤ max N 0 := by
  induction A with
  | nil => intro N _ _; simp; omega
  | cons x A ih =>
    intro N h hN
    have h2 := List.pairwise_cons.1 h
    have hx := hN x (by simp)
    -- shift by x.2 + 1: use the numbers above x
    have key : ∀ (B : List (T × Int)) (m : Int), Asc B → (∀ y ∈ B, m ≤ y.2 ∧ y.2 < N) → (B.length : Int) ≤ max (N - m) 0 := by
      intro B
      induction B with
      | nil => intro m _ _; simp; omega
      | cons y B ihB =>
        intro m hB hm
        have h3 := List.pairwise_cons.1 hB
        have hy := hm y (by simp)
        have := ihB (y.2 + 1) h3.2 (fun z hz => ⟨by have := h3.1 z hz; omega, (hm z (by simp [hz])).2⟩)
        simp only [List.length_cons]
        omega
    have := key (x :: A) 0 h hN
    omega
end queue
end Go.Proofs.Ytanpefjbmpohdaa
