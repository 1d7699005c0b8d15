/- What was loaded on a truck and what has left it: by a table of bicycles, and by counting. Plain theorems, no program. -/
import Derived.Test.YtlnfhlmgnppcbaaCUP
namespace Go.Proofs.Ytlnfhlmgnppcbaa
set_option linter.unusedVariables false
set_option linter.unusedSimpArgs false
/-- Each of the events is accepted when it comes. -/
def Path (f : Fl) : CSt → List Ev → Prop
  | _, [] => True
  | s, e :: l => checkE f e = 0 ∧ e.kind ≠ 10 ∧ faultK f s e = 0 ∧ Path f (applyK s e) l
theorem path_snoc {f : Fl} : ∀ {l : List Ev} {s : CSt} {e : Ev}, Path f s l → checkE f e = 0 → e.kind ≠ 10 → faultK f (l.foldl applyK s) e = 0 → Path f s (l ++ [e])
  | [], _, _, _, h1, h2, h3 => ⟨h1, h2, h3, trivial⟩
  | x :: l, _, _, h, h1, h2, h3 => ⟨h.1, h.2.1, h.2.2.1, path_snoc (l := l) h.2.2.2 h1 h2 h3⟩
theorem fold_path {f : Fl} {s0 : CSt} : ∀ (l : List Ev) (a : CSt × List Ev), Path f s0 a.2 → a.1 = a.2.foldl applyK s0 → Path f s0 (l.foldl (stepE f) a).2 ∧ (l.foldl (stepE f) a).1 = (l.foldl (stepE f) a).2.foldl applyK s0
  | [], a, h1, h2 => ⟨h1, h2⟩
  | e :: l, a, h1, h2 => by
    rw [List.foldl_cons]
    by_cases h : checkE f e = 0 ∧ e.kind ≠ 10 ∧ faultK f a.1 e = 0
    · rw [step_yes h.1 h.2.1 h.2.2]
      refine fold_path l _ (path_snoc h1 h.1 h.2.1 (by rw [← h2]; exact h.2.2)) ?_
      rw [List.foldl_append, ← h2]; rfl
    · have : stepE f a e = a := by unfold stepE; rw [if_neg h]
      rw [this]
      exact fold_path l a h1 h2
theorem run_path (f : Fl) (l : List Ev) : Path f startS (runE f l).2 ∧ (runE f l).1 = (runE f l).2.foldl applyK startS := fold_path _ (startS, []) trivial rfl
/-- The accepted events stand in the set's order. -/
theorem fold_sub {f : Fl} : ∀ (l : List Ev) (a : CSt × List Ev), ∃ m, (l.foldl (stepE f) a).2 = a.2 ++ m ∧ m.Sublist l
  | [], a => ⟨[], by simp, List.Sublist.refl _⟩
  | e :: l, a => by
    rw [List.foldl_cons]
    by_cases h : checkE f e = 0 ∧ e.kind ≠ 10 ∧ faultK f a.1 e = 0
    · rw [step_yes h.1 h.2.1 h.2.2]
      obtain ⟨m, h1, h2⟩ := fold_sub (f := f) l (applyK a.1 e, a.2 ++ [e])
      exact ⟨e :: m, by rw [h1]; simp, h2.cons_cons e⟩
    · have : stepE f a e = a := by unfold stepE; rw [if_neg h]
      rw [this]
      obtain ⟨m, h1, h2⟩ := fold_sub (f := f) l a
      exact ⟨m, h1, h2.cons e⟩
theorem run_sub (f : Fl) (l : List Ev) : (runE f l).2.Sublist (setE l) := by
  obtain ⟨m, h1, h2⟩ := fold_sub (f := f) (setE l) (startS, [])
  unfold runE
  rw [h1]
  exact h2
def onB (truck : Int) (x : Sp) : Bool := decide (x.wh = 4) && decide (x.pl = truck)
theorem onB_iff {truck : Int} {x : Sp} : onB truck x = true ↔ x.wh = 4 ∧ x.pl = truck := by simp [onB]
def b2i (b : Bool) : Int := if b = true then 1 else 0
theorem cntN_one {F F' : Nat → Sp} {truck : Int} {b : Nat} : ∀ {n : Nat}, (∀ i, i < n → i ≠ b → onB truck (F' i) = onB truck (F i)) →
    (cntN F' 4 truck n : Int) = cntN F 4 truck n + (if b < n then b2i (onB truck (F' b)) - b2i (onB truck (F b)) else 0)
  | 0, _ => by simp [cntN]
  | n + 1, h => by
    have ih := cntN_one (n := n) (b := b) (fun i hi => h i (by omega))
    have e : ∀ G : Nat → Sp, ((cntN G 4 truck (n + 1) : Nat) : Int) = cntN G 4 truck n + b2i (onB truck (G n)) := fun G => by
      rw [show cntN G 4 truck (n + 1) = cntN G 4 truck n + if (G n).wh = 4 ∧ (G n).pl = truck then 1 else 0 from rfl]
      unfold b2i
      by_cases hh : (G n).wh = 4 ∧ (G n).pl = truck
      · rw [if_pos hh, if_pos (onB_iff.2 hh)]; omega
      · rw [if_neg hh, if_neg (fun h => hh (onB_iff.1 h))]; omega
    rw [e, e, ih]
    by_cases hn : n = b
    · subst hn
      rw [if_neg (by omega), if_pos (by omega)]
      omega
    · rw [h n (by omega) hn]
      by_cases hb : b < n
      · rw [if_pos hb, if_pos (by omega)]; omega
      · rw [if_neg hb, if_neg (by omega)]; omega
/-- Is the event a load on this truck? -/
def loadB (truck : Int) (e : Ev) : Bool := decide (e.kind = 7) && decide (e.place = truck)
/-- What an accepted event does to the bicycles on a truck. -/
theorem on_step {f : Fl} {s : CSt} {e : Ev} (truck : Int) (h : Inv f.bikes.toNat s) (hc : checkE f e = 0) (hf : faultK f s e = 0) (hk : e.kind ≠ 10) :
    (∀ i, i < f.bikes.toNat → onB truck ((applyK s e).F i) = if i = e.bike.toNat then loadB truck e else onB truck (s.F i)) ∧ (onB truck (s.F e.bike.toNat) = true → loadB truck e = false) := by
  obtain ⟨b1, b2⟩ := bike_in hc
  have hb : e.bike.toNat < f.bikes.toNat := by omega
  have hput : ∀ (x : Sp) (i : Nat), (putS s e.bike.toNat x).F i = if i = e.bike.toNat then x else s.F i := fun x i => rfl
  unfold applyK
  unfold faultK at hf
  split
  · rename_i k1
    have l0 : loadB truck e = false := by simp [loadB, k1]
    exact ⟨fun i hi => by rw [hput]; split <;> simp [onB, l0], fun _ => l0⟩
  split
  · rename_i k1 k2
    have l0 : loadB truck e = false := by simp [loadB, k2]
    exact ⟨fun i hi => by rw [hput]; split <;> simp [onB, l0], fun _ => l0⟩
  rename_i k1 k2
  rw [if_neg k1, if_neg k2] at hf
  split
  · rename_i k7
    rw [if_neg (by omega), if_neg (by omega), if_neg (by omega), if_neg (by omega), if_pos k7] at hf
    split at hf
    · simp at hf
    rename_i p1
    refine ⟨fun i hi => by rw [hput]; split <;> simp [onB, loadB, k7], fun h => ?_⟩
    rw [onB_iff] at h
    exact absurd (.inr h.1) p1
  split
  · rename_i k7 k8
    have l0 : loadB truck e = false := by simp [loadB, k8]
    exact ⟨fun i hi => by rw [hput]; split <;> simp [onB, l0], fun _ => l0⟩
  split
  · rename_i k7 k8 k9
    have l0 : loadB truck e = false := by simp [loadB, k9]
    exact ⟨fun i hi => by rw [hput]; split <;> simp [onB, l0], fun _ => l0⟩
  rename_i k7 k8 k9
  have l0 : loadB truck e = false := by simp [loadB, k7]
  refine ⟨?_, fun _ => l0⟩
  split
  · rename_i k3
    intro i hi
    simp only [upd]
    split <;> simp [onB, l0]
  rename_i k3
  rw [if_neg k3] at hf
  split
  · rename_i k4
    rw [if_pos k4] at hf
    split at hf
    · simp at hf
    split at hf
    · simp at hf
    rename_i p1 p2
    have hp : (s.F e.bike.toNat).wh ≠ 4 := by
      have : parkB (s.F e.bike.toNat) = true := by simpa using p2
      rw [parkB_iff] at this
      omega
    rcases findI_spec (G := s.G) (id := e.ride) (k := s.k) with ⟨q1, _⟩ | ⟨j, q1, q2, q3, _⟩
    · exact absurd (.inl (by omega)) p1
    · rw [q1, Int.toNat_natCast] at p1 ⊢
      have ho : (s.G j).opn = true := by
        cases hh : (s.G j).opn
        · exact absurd (.inr hh) p1
        · rfl
      obtain ⟨a, a1, a2, a3, a4⟩ := h.opn j q2 ho
      rw [a1, Int.toNat_natCast]
      intro i hi
      simp only [upd]
      split
      · simp [onB, l0]
      · split
        · rename_i ha
          subst ha
          have e1 : onB truck (s.F e.bike.toNat) = false := by simp [onB, hp]
          have e2 : onB truck (s.F i) = false := by simp [onB, a3]
          rw [e1, e2]
        · rfl
  rename_i k4
  rw [if_neg k4] at hf
  have key : (s.F e.bike.toNat).wh = 3 → ∀ ps i, onB truck (upd s.F e.bike.toNat { s.F e.bike.toNat with ps := ps } i) = if i = e.bike.toNat then loadB truck e else onB truck (s.F i) := fun hw ps i => by
    unfold upd
    split
    · simp [onB, hw, l0]
    · rfl
  split
  · rename_i k5
    rw [if_pos k5] at hf
    split at hf
    · simp at hf
    rename_i p1
    exact fun i _ => key (by omega) _ i
  rename_i k5
  rw [if_neg k5] at hf
  split
  · rename_i k6
    rw [if_pos k6] at hf
    split at hf
    · simp at hf
    rename_i p1
    exact fun i _ => key (by omega) _ i
  rename_i k6
  have := kind_in hc
  omega
/-- By the table. -/
def mvP (truck t : Int) : (Nat → Bool) → List Ev → Int → Int → Int × Int
  | _, [], a, b => (a, b)
  | on, e :: l, a, b => if t < e.at' then (a, b) else mvP truck t (upd on e.bike.toNat (loadB truck e)) l (a + b2i (loadB truck e)) (b + b2i (on e.bike.toNat))
/-- By counting. -/
def mvR (n : Nat) (truck t : Int) : CSt → List Ev → Int → Int → Int × Int
  | _, [], a, b => (a, b)
  | s, e :: l, a, b => if t < e.at' then (a, b) else mvR n truck t (applyK s e) l (a + max 0 ((cntN (applyK s e).F 4 truck n : Int) - cntN s.F 4 truck n)) (b + max 0 ((cntN s.F 4 truck n : Int) - cntN (applyK s e).F 4 truck n))
theorem mv_same {f : Fl} (truck t : Int) : ∀ (l : List Ev) (s : CSt) (on : Nat → Bool) (a b : Int), Inv f.bikes.toNat s → Path f s l → (∀ i, i < f.bikes.toNat → on i = onB truck (s.F i)) → mvP truck t on l a b = mvR f.bikes.toNat truck t s l a b
  | [], _, _, _, _, _, _, _ => rfl
  | e :: l, s, on, a, b, hI, hP, hon => by
    obtain ⟨hc, hk, hf, hP'⟩ := hP
    obtain ⟨b1, b2⟩ := bike_in hc
    have hb : e.bike.toNat < f.bikes.toNat := by omega
    obtain ⟨h1, h2⟩ := on_step truck hI hc hf hk
    have hcnt := cntN_one (F := s.F) (F' := (applyK s e).F) (truck := truck) (b := e.bike.toNat) (n := f.bikes.toNat) (fun i hi hne => by rw [h1 i hi, if_neg hne])
    rw [if_pos hb, h1 _ hb, if_pos rfl] at hcnt
    unfold mvP mvR
    split
    · rfl
    rw [mv_same truck t l (applyK s e) _ _ _ (hI.step hc hf) hP' (fun i hi => by
      unfold upd
      rw [h1 i hi]
      split
      · rfl
      · exact hon i hi)]
    rw [hon _ hb, hcnt]
    congr 1
    · cases hl : loadB truck e <;> cases ho : onB truck (s.F e.bike.toNat)
      · simp [b2i]
      · simp [b2i]; omega
      · simp [b2i]; omega
      · rw [h2 ho] at hl; cases hl
    · cases hl : loadB truck e <;> cases ho : onB truck (s.F e.bike.toNat)
      · simp [b2i]
      · simp [b2i]; omega
      · simp [b2i]; omega
      · rw [h2 ho] at hl; cases hl
/-- What is loaded and what has left: not less with time; at most one load an event; what is on the truck is the difference. -/
theorem mvP_grows (truck : Int) : ∀ (l : List Ev) (on : Nat → Bool) (a b : Int) (s t : Int), s ≤ t → (mvP truck s on l a b).1 ≤ (mvP truck t on l a b).1 ∧ (mvP truck s on l a b).2 ≤ (mvP truck t on l a b).2
  | [], _, _, _, _, _, _ => ⟨Int.le_refl _, Int.le_refl _⟩
  | e :: l, on, a, b, s, t, h => by
    have q1 : ∀ x, 0 ≤ b2i x := fun x => by unfold b2i; split <;> omega
    unfold mvP
    by_cases h1 : t < e.at'
    · rw [if_pos h1, if_pos (by omega)]; exact ⟨Int.le_refl _, Int.le_refl _⟩
    · rw [if_neg h1]
      by_cases h2 : s < e.at'
      · rw [if_pos h2]
        have := mvP_least truck t l (upd on e.bike.toNat (loadB truck e)) (a + b2i (loadB truck e)) (b + b2i (on e.bike.toNat))
        have := q1 (loadB truck e)
        have := q1 (on e.bike.toNat)
        exact ⟨by show a ≤ _; omega, by show b ≤ _; omega⟩
      · rw [if_neg h2]
        exact mvP_grows truck l _ _ _ s t h
where
  mvP_least (truck t : Int) : ∀ (l : List Ev) (on : Nat → Bool) (a b : Int), a ≤ (mvP truck t on l a b).1 ∧ b ≤ (mvP truck t on l a b).2
    | [], _, _, _ => ⟨Int.le_refl _, Int.le_refl _⟩
    | e :: l, on, a, b => by
      have q1 : ∀ x, 0 ≤ b2i x := fun x => by unfold b2i; split <;> omega
      unfold mvP
      split
      · exact ⟨Int.le_refl _, Int.le_refl _⟩
      · have := mvP_least truck t l (upd on e.bike.toNat (loadB truck e)) (a + b2i (loadB truck e)) (b + b2i (on e.bike.toNat))
        have := q1 (loadB truck e)
        have := q1 (on e.bike.toNat)
        exact ⟨by omega, by omega⟩
theorem mvP_most (truck t : Int) : ∀ (l : List Ev) (on : Nat → Bool) (a b : Int), (mvP truck t on l a b).1 ≤ a + l.length
  | [], _, a, _ => by simp [mvP]
  | e :: l, on, a, b => by
    have q1 : b2i (loadB truck e) ≤ 1 := by unfold b2i; split <;> omega
    unfold mvP
    split
    · simp; omega
    · have := mvP_most truck t l (upd on e.bike.toNat (loadB truck e)) (a + b2i (loadB truck e)) (b + b2i (on e.bike.toNat))
      simp; omega
end Go.Proofs.Ytlnfhlmgnppcbaa
