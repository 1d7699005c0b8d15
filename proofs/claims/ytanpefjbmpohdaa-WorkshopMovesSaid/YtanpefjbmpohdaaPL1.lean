/- Sums over works and jobs; no valid schedule ends before the bound. Plain. -/
import Derived.Test.YtanpefjbmpohdaaBD0
import Derived.Test.YtanpefjbmpohdaaG1
namespace Go.Proofs.Ytanpefjbmpohdaa
set_option linter.unusedVariables false
set_option linter.unusedSimpArgs false
/-- A sum. -/
def sm (f : Nat → Int) : Nat → Int
  | 0 => 0
  | n + 1 => sm f n + f n
theorem sm_congr {f g : Nat → Int} : ∀ {n : Nat}, (∀ i, i < n → f i = g i) → sm f n = sm g n
  | 0, _ => rfl
  | n + 1, h => by unfold sm; rw [sm_congr (fun i hi => h i (by omega)), h n (by omega)]
theorem sm_le {f g : Nat → Int} : ∀ {n : Nat}, (∀ i, i < n → f i ≤ g i) → sm f n ≤ sm g n
  | 0, _ => Int.le_refl _
  | n + 1, h => by unfold sm; have := sm_le (n := n) (fun i hi => h i (by omega)); have := h n (by omega); omega
theorem sm_add (f g : Nat → Int) : ∀ n, sm (fun i => f i + g i) n = sm f n + sm g n
  | 0 => rfl
  | n + 1 => by simp only [sm]; rw [sm_add f g n]; omega
theorem sm_zero : ∀ n, sm (fun _ => 0) n = 0
  | 0 => rfl
  | n + 1 => by simp only [sm]; rw [sm_zero n]; rfl
theorem sm_const (c : Int) : ∀ n, sm (fun _ => c) n = c * n
  | 0 => by simp [sm]
  | n + 1 => by simp only [sm]; rw [sm_const c n]; push_cast; rw [Int.mul_add]; omega
theorem sm_swap (a : Nat → Nat → Int) (m : Nat) : ∀ e, sm (fun x => sm (fun t => a t x) m) e = sm (fun t => sm (fun x => a t x) e) m
  | 0 => by simp only [sm]; exact (sm_zero m).symm
  | e + 1 => by simp only [sm]; rw [sm_swap a m e, ← sm_add]
theorem sm_up {f : Nat → Int} {v : Nat} {x : Int} : ∀ {n : Nat}, sm (fun i => if i = v then x else f i) n = sm f n + if v < n then x - f v else 0
  | 0 => by simp [sm]
  | n + 1 => by
    simp only [sm]
    rw [sm_up]
    by_cases e : n = v
    · subst e; simp; omega
    · rw [if_neg e]
      by_cases h : v < n
      · rw [if_pos h, if_pos (by omega)]; omega
      · rw [if_neg h, if_neg (by omega)]; omega
/-- The sum over those marked. -/
def smD (D : Int → Bool) (g : Nat → Int) (n : Nat) : Int := sm (fun i => if D i = true then g i else 0) n
theorem smD_up {D : Int → Bool} {g : Nat → Int} {v n : Nat} (hd : D v = false) (hv : v < n) : smD (upz D v true) g n = smD D g n + g v := by
  have h := sm_up (f := fun i : Nat => if D i = true then g i else 0) (v := v) (x := g v) (n := n)
  rw [if_pos hv] at h
  simp only [hd, Bool.false_eq_true, if_false, Int.sub_zero] at h
  unfold smD
  rw [← h]
  refine sm_congr fun i _ => ?_
  by_cases e : i = v
  · subst e; rw [upz_same]; simp
  · rw [upz_ne (show (i : Int) ≠ (v : Int) by omega), if_neg e]
theorem smD_all {D : Int → Bool} {g : Nat → Int} {n : Nat} (h : ∀ i : Nat, i < n → D i = true) : smD D g n = sm g n := sm_congr fun i hi => by rw [h i hi]; rfl
theorem smD_le {D : Int → Bool} {g : Nat → Int} {n : Nat} (h : ∀ i : Nat, i < n → 0 ≤ g i) : smD D g n ≤ sm g n := sm_le fun i hi => by have := h i hi; split <;> omega
theorem sumL_sm (J : Nat → Jb) : ∀ n, sumL J n = sm (fun i => (J i).secs) n
  | 0 => rfl
  | n + 1 => by simp only [sumL, sm]; rw [sumL_sm J n]
theorem skL_sm (J : Nat → Jb) (s : Int) : ∀ n, skL J n s = sm (fun i => if (J i).skill = s then (J i).secs else 0) n
  | 0 => rfl
  | n + 1 => by simp only [skL, sm]; rw [skL_sm J s n]
/-- Which of these jobs the first works do. -/
def mark (a : Nat → Int) : Nat → Int → Bool
  | 0 => fun _ => false
  | j + 1 => upz (mark a j) (a j) true
theorem mark_iff {a : Nat → Int} {x : Int} : ∀ {j : Nat}, mark a j x = true ↔ ∃ t, t < j ∧ a t = x
  | 0 => by simp [mark]
  | j + 1 => by
    unfold mark upz
    by_cases h : x = a j
    · simp [h]; exact ⟨j, by omega, rfl⟩
    · rw [if_neg h, mark_iff]
      exact ⟨fun ⟨t, h1, h2⟩ => ⟨t, by omega, h2⟩, fun ⟨t, h1, h2⟩ => ⟨t, by
        by_cases e : t = j
        · subst e; exact absurd h2.symm h
        · omega, h2⟩⟩
/-- Different numbers below n: all are there, and sums over them are sums over all. -/
theorem mark_count {a : Nat → Int} {m : Nat} (h : ∀ t, t < m → 0 ≤ a t ∧ a t < m) (hd : ∀ i t, i < m → t < i → a t ≠ a i) : ∀ {n : Nat}, n ≤ m → cT (mark a n) m = n ∧ ∀ g : Nat → Int, smD (mark a n) g m = sm (fun t => g (a t).toNat) n
  | 0, _ => ⟨cT_none (fun _ => rfl) m, fun g => by unfold smD mark; simp only [Bool.false_eq_true, if_false]; exact sm_zero m⟩
  | n + 1, hn => by
    obtain ⟨i1, i2⟩ := mark_count h hd (n := n) (by omega)
    obtain ⟨h0, h1⟩ := h n (by omega)
    obtain ⟨v, hv⟩ : ∃ v : Nat, a n = (v : Int) := ⟨(a n).toNat, by omega⟩
    have hf : mark a n v = false := by
      cases hb : mark a n v
      · rfl
      · obtain ⟨t, ht, he⟩ := mark_iff.1 hb
        exact absurd (he.trans hv.symm) (hd n t (by omega) ht)
    have hvm : v < m := by omega
    refine ⟨?_, fun g => ?_⟩
    · show cT (upz (mark a n) (a n) true) m = n + 1
      rw [hv, cT_up hf, if_pos hvm, i1]
    · show smD (upz (mark a n) (a n) true) g m = _
      rw [hv, smD_up hf hvm, i2]
      simp only [sm]
      rw [hv, Int.toNat_natCast]
theorem mark_all {a : Nat → Int} {m : Nat} (h : ∀ t, t < m → 0 ≤ a t ∧ a t < m) (hd : ∀ i t, i < m → t < i → a t ≠ a i) : (∀ i : Nat, i < m → ∃ t, t < m ∧ a t = i) ∧ ∀ g : Nat → Int, sm g m = sm (fun t => g (a t).toNat) m := by
  obtain ⟨h1, h2⟩ := mark_count h hd (Nat.le_refl m)
  have hf := cT_full h1
  exact ⟨fun i hi => mark_iff.1 (hf i hi), fun g => by rw [← h2 g, smD_all hf]⟩
/-- At most n different numbers, each among those that P allows. -/
theorem act_le {q : Nat → Bool} {a : Nat → Int} {k : Nat} {P : Nat → Bool} {m : Nat} (h : ∀ t, t < m → q t = true → 0 ≤ a t ∧ a t < k ∧ P (a t).toNat = true) (hd : ∀ i t, i < m → t < i → q t = true → q i = true → a t ≠ a i) :
    sm (fun t => if q t = true then 1 else 0) m ≤ sm (fun v => if P v = true then 1 else 0) k := by
  let D : Nat → Int → Bool := fun n x => Nat.rec (motive := fun _ => Bool) false (fun t r => r || (q t && decide (a t = x))) n
  have hD : ∀ n x, D n x = true ↔ ∃ t, t < n ∧ q t = true ∧ a t = x := by
    intro n x
    induction n with
    | zero => simp [D]
    | succ n ih =>
      have : D (n + 1) x = (D n x || (q n && decide (a n = x))) := rfl
      rw [this, Bool.or_eq_true, ih]
      constructor
      · rintro (⟨t, h1, h2⟩ | h1)
        · exact ⟨t, by omega, h2⟩
        · simp at h1; exact ⟨n, by omega, h1⟩
      · rintro ⟨t, h1, h2, h3⟩
        by_cases e : t = n
        · subst e; right; simp [h2, h3]
        · exact .inl ⟨t, by omega, h2, h3⟩
  have key : ∀ n, n ≤ m → sm (fun t => if q t = true then 1 else 0) n = smD (D n) (fun _ => 1) k := by
    intro n
    induction n with
    | zero =>
      intro _
      unfold smD
      have : (fun i : Nat => if D 0 (i : Int) = true then (1 : Int) else 0) = fun _ => 0 := by funext i; simp [D]
      rw [this, sm_zero]; rfl
    | succ n ih =>
      intro hn
      simp only [sm]
      rw [ih (by omega)]
      cases hq : q n
      · have : D (n + 1) = D n := by funext x; show (D n x || (q n && decide (a n = x))) = D n x; rw [hq]; simp
        rw [this]; simp
      · obtain ⟨h0, h1, _⟩ := h n (by omega) hq
        obtain ⟨v, hv⟩ : ∃ v : Nat, a n = (v : Int) := ⟨(a n).toNat, by omega⟩
        have hf : D n v = false := by
          cases hb : D n v
          · rfl
          · obtain ⟨t, h1, h2, h3⟩ := (hD n v).1 hb
            exact absurd (h3.trans hv.symm) (hd n t (by omega) h1 h2 hq)
        have : D (n + 1) = upz (D n) v true := by
          funext x
          show (D n x || (q n && decide (a n = x))) = upz (D n) v true x
          rw [hq, hv]
          by_cases e : x = (v : Int)
          · subst e; rw [upz_same]; simp
          · rw [upz_ne e]
            have : ((v : Int) = x) = False := by simp; exact fun h => e h.symm
            simp [this]
        rw [this, smD_up hf (by omega)]
        simp
  rw [key m (Nat.le_refl m)]
  refine sm_le fun v hv => ?_
  cases hb : D m v
  · simp; split <;> omega
  · obtain ⟨t, h1, h2, h3⟩ := (hD m v).1 hb
    have := (h t h1 h2).2.2
    rw [h3, Int.toNat_natCast] at this
    rw [this]; simp
/-- How much of the time until e lies in a work. -/
theorem ticks {f t : Int} (h0 : 0 ≤ f) (h1 : f ≤ t) : ∀ e : Nat, sm (fun x => if f ≤ (x : Int) ∧ (x : Int) < t then 1 else 0) e = (if t ≤ e then t else e) - (if f ≤ e then f else e)
  | 0 => by simp only [sm]; split <;> split <;> omega
  | e + 1 => by
    simp only [sm]
    rw [ticks h0 h1 e]
    push_cast
    split <;> split <;> split <;> split <;> split <;> omega
theorem ticks_all {f t : Int} (h0 : 0 ≤ f) (h1 : f ≤ t) {e : Nat} (h2 : t ≤ e) : sm (fun x => if f ≤ (x : Int) ∧ (x : Int) < t then 1 else 0) e = t - f := by
  rw [ticks h0 h1, if_pos h2, if_pos (by omega)]
/-- Works that do not overlap on one mechanic: together they take at most E for each mechanic. -/
theorem pack {m k : Nat} {L : Nat → Wk} {q P : Nat → Bool} {E : Int} (hE : 0 ≤ E)
    (h : ∀ t, t < m → q t = true → 0 ≤ (L t).mech ∧ (L t).mech < k ∧ P (L t).mech.toNat = true ∧ 0 ≤ (L t).frm ∧ (L t).frm ≤ (L t).til ∧ (L t).til ≤ E)
    (hd : ∀ i t, i < m → t < i → (L t).mech = (L i).mech → ¬ ((L t).frm < (L i).til ∧ (L i).frm < (L t).til)) :
    sm (fun t => if q t = true then (L t).til - (L t).frm else 0) m ≤ E * sm (fun v => if P v = true then 1 else 0) k := by
  obtain ⟨e, rfl⟩ : ∃ e : Nat, E = (e : Int) := ⟨E.toNat, by omega⟩
  have h1 : sm (fun t => if q t = true then (L t).til - (L t).frm else 0) m = sm (fun t => sm (fun x => if (q t && (decide ((L t).frm ≤ (x : Int)) && decide ((x : Int) < (L t).til))) = true then 1 else 0) e) m := by
    refine sm_congr fun t ht => ?_
    cases hq : q t
    · simp only [Bool.false_and, Bool.false_eq_true, if_false]
      exact (sm_zero e).symm
    · obtain ⟨_, _, _, b1, b2, b3⟩ := h t ht hq
      rw [if_pos rfl, ← ticks_all b1 b2 b3]
      refine sm_congr fun x _ => ?_
      simp
  rw [h1, ← sm_swap]
  have h2 : sm (fun x => sm (fun t => if (q t && (decide ((L t).frm ≤ (x : Int)) && decide ((x : Int) < (L t).til))) = true then 1 else 0) m) e ≤ sm (fun _ => sm (fun v => if P v = true then 1 else 0) k) e := by
    refine sm_le fun x _ => ?_
    refine act_le (a := fun t => (L t).mech) (fun t ht hq => ?_) (fun i t hi ht hq hq2 heq => ?_)
    · simp at hq
      have := h t ht hq.1
      exact ⟨this.1, this.2.1, this.2.2.1⟩
    · simp at hq hq2
      exact hd i t hi ht heq ⟨by omega, by omega⟩
  rw [sm_const, Int.mul_comm] at h2
  exact h2
section
variable {m : Nat} {J : Nat → Jb} {k : Nat} {M : Nat → Int} {n : Nat} {L : Nat → Wk}
theorem endL_ge : ∀ {n : Nat} {t : Nat}, t < n → (L t).til ≤ endL L n
  | n + 1, t, h => by
    rw [endL_succ]
    by_cases h0 : n = 0
    · subst h0; rw [if_pos rfl]
      obtain rfl : t = 0 := by omega
      exact Int.le_refl _
    · rw [if_neg h0]
      by_cases e : t = n
      · subst e; omega
      · have := endL_ge (n := n) (t := t) (by omega); omega
theorem endL_le {E : Int} (h0 : 0 < n ∨ 0 ≤ E) (h : ∀ t, t < n → (L t).til ≤ E) : endL L n ≤ E := by
  induction n with
  | zero => rcases h0 with h0 | h0; omega; exact h0
  | succ n ih =>
    rw [endL_succ]
    by_cases h1 : n = 0
    · subst h1; rw [if_pos rfl]; exact h 0 (by omega)
    · rw [if_neg h1]
      have := ih (.inl (by omega)) (fun t ht => h t (by omega))
      have := h n (by omega)
      omega
theorem endL_nonneg (h : ∀ t, t < n → 0 ≤ (L t).til) : 0 ≤ endL L n := by
  by_cases h0 : n = 0
  · subst h0; exact Int.le_refl _
  · exact Int.le_trans (h 0 (by omega)) (endL_ge (by omega))
/-- The facts of a valid schedule. -/
theorem valid_facts (h : validP m J k M n L) : n = m ∧ chkE m J k M = 0 ∧ (∀ t, t < m → okW m J k M (L t)) ∧ ∀ i t, i < m → t < i → apart (L t) (L i) := by
  obtain ⟨hc, rfl, hf⟩ := h
  exact ⟨rfl, hc, fun t ht => (hf t ht).1, fun i t hi ht => (hf i hi).2 t ht⟩
theorem cnt_sm (s : Int) : ∀ n, (cnt M s n : Int) = sm (fun v => if hasB (M v) s = true then 1 else 0) n
  | 0 => rfl
  | n + 1 => by simp only [cnt, sm]; rw [← cnt_sm s n]; push_cast; split <;> simp
theorem all_sm : ∀ n : Nat, (n : Int) = sm (fun _ : Nat => if true = true then 1 else 0) n
  | 0 => rfl
  | n + 1 => by
    rw [show sm (fun _ : Nat => if true = true then (1 : Int) else 0) (n + 1) = sm (fun _ : Nat => if true = true then (1 : Int) else 0) n + 1 from rfl, ← all_sm n]
    push_cast; rfl
/-- No valid schedule ends before the bound. -/
theorem bound_le (h : validP m J k M n L) : bndV m J k M ≤ endL L n := by
  obtain ⟨rfl, hc, hok, hap⟩ := valid_facts h
  have hE : 0 ≤ endL L n := endL_nonneg fun t ht => by have := hok t ht; unfold okW at this; omega
  obtain ⟨hall, hsum⟩ := mark_all (a := fun t => (L t).job) (m := n) (fun t ht => by have := hok t ht; unfold okW at this; omega) (fun i t hi ht => (hap i t hi ht).1)
  have hsec : ∀ t, t < n → (L t).til - (L t).frm = (J (L t).job.toNat).secs := fun t ht => by have := hok t ht; unfold okW at this; omega
  have hov : ∀ i t, i < n → t < i → (L t).mech = (L i).mech → ¬ ((L t).frm < (L i).til ∧ (L i).frm < (L t).til) := fun i t hi ht => (hap i t hi ht).2
  have hone : ∀ i, i < n → (J i).secs ≤ endL L n := fun i hi => by
    obtain ⟨t, ht, he⟩ := hall i hi
    have h1 := hsec t ht
    have h2 := hok t ht
    unfold okW at h2
    have h3 := endL_ge (L := L) ht
    have he : (L t).job = (i : Int) := he
    rw [he, Int.toNat_natCast] at h1
    omega
  have hmost : ∀ {q : Nat}, q ≤ n → mostL J q ≤ endL L n := by
    intro q
    induction q with
    | zero => intro _; exact hE
    | succ q ih => intro hq; exact mx_le (ih (by omega)) (hone q (by omega))
  have hskill : ∀ s : Nat, skL J n s ≤ endL L n * cnt M s k := fun s => by
    rw [skL_sm, hsum, cnt_sm]
    have h1 := pack (m := n) (k := k) (L := L) (q := fun t => decide ((J (L t).job.toNat).skill = (s : Int))) (P := fun v => hasB (M v) s) hE (fun t ht hq => by
      have h2 := hok t ht
      have h3 := endL_ge (L := L) ht
      unfold okW at h2
      simp at hq
      exact ⟨h2.2.2.1, h2.2.2.2.1, by rw [← hq]; exact h2.2.2.2.2.1, h2.2.2.2.2.2.1, h2.2.2.2.2.2.2.1, h3⟩) hov
    refine Int.le_trans (Int.le_of_eq (sm_congr fun t ht => ?_)) h1
    by_cases e : (J (L t).job.toNat).skill = (s : Int)
    · simp [e, hsec t ht]
    · simp [e]
  have hsumE : sumL J n ≤ endL L n * k := by
    rw [sumL_sm, hsum]
    have h1 := pack (m := n) (k := k) (L := L) (q := fun _ => true) (P := fun _ => true) hE (fun t ht hq => by
      have h2 := hok t ht
      have h3 := endL_ge (L := L) ht
      unfold okW at h2
      exact ⟨h2.2.2.1, h2.2.2.2.1, rfl, h2.2.2.2.2.2.1, h2.2.2.2.2.2.2.1, h3⟩) hov
    rw [← all_sm] at h1
    refine Int.le_trans (Int.le_of_eq (sm_congr fun t ht => ?_)) h1
    simp [hsec t ht]
  have key : ∀ s, bdK n J k M s ≤ endL L n := by
    intro s
    induction s with
    | zero =>
      simp only [bdK, shr]
      split
      · rename_i hk; exact mx_le (hmost (Nat.le_refl n)) (cei_le hk hsumE)
      · exact hmost (Nat.le_refl n)
    | succ s ih =>
      simp only [bdK, shr]
      split
      · rename_i hk; exact mx_le ih (cei_le hk (hskill s))
      · exact ih
  exact key 8
end
end Go.Proofs.Ytanpefjbmpohdaa
