/- The schedule that is planned: the longest job first, each to the mechanic who is free first. Plain. -/
import Derived.Test.YtanpefjbmpohdaaD0
import Derived.Test.YtanpefjbmpohdaaQ6
namespace Go.Proofs.Ytanpefjbmpohdaa
set_option linter.unusedVariables false
set_option linter.unusedSimpArgs false
/-- The first of the longest jobs among the first n that are not done. -/
def bj (J : Nat → Jb) (D : Int → Bool) : Nat → Int
  | 0 => -1
  | n + 1 => if D n = false ∧ (bj J D n < 0 ∨ (J (bj J D n).toNat).secs < (J n).secs) then n else bj J D n
/-- The first of the mechanics who are free first, among the first n that have the skill. -/
def bm (M : Nat → Int) (F : Int → Int) (s : Int) : Nat → Int
  | 0 => -1
  | n + 1 => if hasB (M n) s = true ∧ (bm M F s n < 0 ∨ F n < F (bm M F s n)) then n else bm M F s n
structure PlS where
  D : Int → Bool
  F : Int → Int
def stW (m : Nat) (J : Nat → Jb) (k : Nat) (M : Nat → Int) (S : PlS) : Wk :=
  ⟨bj J S.D m, bm M S.F (J (bj J S.D m).toNat).skill k, S.F (bm M S.F (J (bj J S.D m).toNat).skill k), S.F (bm M S.F (J (bj J S.D m).toNat).skill k) + (J (bj J S.D m).toNat).secs⟩
def stN (m : Nat) (J : Nat → Jb) (k : Nat) (M : Nat → Int) (S : PlS) : PlS := ⟨upz S.D (stW m J k M S).job true, upz S.F (stW m J k M S).mech (stW m J k M S).til⟩
def st (m : Nat) (J : Nat → Jb) (k : Nat) (M : Nat → Int) : Nat → PlS
  | 0 => ⟨fun _ => false, fun _ => 0⟩
  | n + 1 => stN m J k M (st m J k M n)
/-- The works of the plan. -/
def pl (m : Nat) (J : Nat → Jb) (k : Nat) (M : Nat → Int) (n : Nat) : Wk := stW m J k M (st m J k M n)
theorem bj_range (J : Nat → Jb) (D : Int → Bool) : ∀ n, -1 ≤ bj J D n ∧ bj J D n < n
  | 0 => by simp [bj]
  | n + 1 => by have := bj_range J D n; unfold bj; split <;> omega
theorem bm_range (M : Nat → Int) (F : Int → Int) (s : Int) : ∀ n, -1 ≤ bm M F s n ∧ bm M F s n < n
  | 0 => by simp [bm]
  | n + 1 => by have := bm_range M F s n; unfold bm; split <;> omega
theorem bj_spec (J : Nat → Jb) (D : Int → Bool) : ∀ n, (bj J D n = -1 ∧ ∀ i : Nat, i < n → D i = true) ∨
    ∃ j : Nat, bj J D n = j ∧ j < n ∧ D j = false ∧ ∀ i : Nat, i < n → D i = false → (J i).secs ≤ (J j).secs ∧ (i < j → (J i).secs < (J j).secs)
  | 0 => .inl ⟨rfl, fun i h => absurd h (by omega)⟩
  | n + 1 => by
    unfold bj
    rcases bj_spec J D n with ⟨h1, h2⟩ | ⟨j, h1, h2, h3, h4⟩
    · rw [h1]
      cases hd : D n
      · right
        rw [if_pos ⟨rfl, .inl (by omega)⟩]
        refine ⟨n, rfl, by omega, hd, fun i hi hdi => ?_⟩
        by_cases e : i = n
        · subst e; exact ⟨by omega, fun h => absurd h (by omega)⟩
        · rw [h2 i (by omega)] at hdi; cases hdi
      · left
        rw [if_neg (by simp)]
        refine ⟨rfl, fun i hi => ?_⟩
        by_cases e : i = n
        · subst e; exact hd
        · exact h2 i (by omega)
    · right
      rw [h1]
      by_cases hc : D n = false ∧ ((j : Int) < 0 ∨ (J (j : Int).toNat).secs < (J n).secs)
      · rw [if_pos hc]
        obtain ⟨hd, hc2⟩ := hc
        have hc3 : (J j).secs < (J n).secs := by
          rcases hc2 with hc2 | hc2
          · omega
          · rwa [Int.toNat_natCast] at hc2
        refine ⟨n, rfl, by omega, hd, fun i hi hdi => ?_⟩
        by_cases e : i = n
        · subst e; exact ⟨by omega, fun h => absurd h (by omega)⟩
        · have := h4 i (by omega) hdi
          exact ⟨by omega, fun _ => by omega⟩
      · rw [if_neg hc]
        refine ⟨j, rfl, by omega, h3, fun i hi hdi => ?_⟩
        by_cases e : i = n
        · subst e
          have : ¬ (J j).secs < (J i).secs := fun h => hc ⟨hdi, .inr (by rwa [Int.toNat_natCast])⟩
          exact ⟨by omega, fun h => absurd h (by omega)⟩
        · exact h4 i (by omega) hdi
theorem bm_spec (M : Nat → Int) (F : Int → Int) (s : Int) : ∀ n, (bm M F s n = -1 ∧ cnt M s n = 0) ∨
    ∃ u : Nat, bm M F s n = u ∧ u < n ∧ hasB (M u) s = true ∧ ∀ v : Nat, v < n → hasB (M v) s = true → F u ≤ F v ∧ (v < u → F u < F v)
  | 0 => .inl ⟨rfl, rfl⟩
  | n + 1 => by
    unfold bm cnt
    rcases bm_spec M F s n with ⟨h1, h2⟩ | ⟨j, h1, h2, h3, h4⟩
    · rw [h1, h2]
      cases hd : hasB (M n) s
      · left
        rw [if_neg (by simp)]
        exact ⟨rfl, by simp⟩
      · right
        rw [if_pos ⟨rfl, .inl (by omega)⟩]
        refine ⟨n, rfl, by omega, hd, fun i hi hdi => ?_⟩
        by_cases e : i = n
        · subst e; exact ⟨by omega, fun h => absurd h (by omega)⟩
        · have hz : ∀ q, cnt M s q = 0 → ∀ i, i < q → hasB (M i) s = false := by
            intro q
            induction q with
            | zero => intro _ i hi; omega
            | succ q ih =>
              intro hq i hi
              unfold cnt at hq
              by_cases e : i = q
              · subst e
                cases hh : hasB (M i) s
                · rfl
                · rw [hh] at hq; simp at hq
              · exact ih (by omega) i (by omega)
          rw [hz n h2 i (by omega)] at hdi; cases hdi
    · right
      rw [h1]
      by_cases hc : hasB (M n) s = true ∧ ((j : Int) < 0 ∨ F n < F j)
      · rw [if_pos hc]
        obtain ⟨hd, hc2⟩ := hc
        have hc3 : F n < F j := hc2.resolve_left (by omega)
        refine ⟨n, rfl, by omega, hd, fun i hi hdi => ?_⟩
        by_cases e : i = n
        · subst e; exact ⟨by omega, fun h => absurd h (by omega)⟩
        · have := h4 i (by omega) hdi
          exact ⟨by omega, fun _ => by omega⟩
      · rw [if_neg hc]
        refine ⟨j, rfl, by omega, h3, fun i hi hdi => ?_⟩
        by_cases e : i = n
        · subst e
          have : ¬ F i < F j := fun h => hc ⟨hdi, .inr h⟩
          exact ⟨by omega, fun h => absurd h (by omega)⟩
        · exact h4 i (by omega) hdi
/-- How many of the first n are done. -/
def cT (D : Int → Bool) : Nat → Nat
  | 0 => 0
  | n + 1 => cT D n + if D n = true then 1 else 0
theorem cT_none {D : Int → Bool} (h : ∀ x, D x = false) : ∀ n, cT D n = 0
  | 0 => rfl
  | n + 1 => by unfold cT; rw [cT_none h n, h]; rfl
theorem cT_le (D : Int → Bool) : ∀ n, cT D n ≤ n
  | 0 => Nat.le_refl _
  | n + 1 => by have := cT_le D n; unfold cT; split <;> omega
theorem cT_all {D : Int → Bool} : ∀ {n : Nat}, (∀ i : Nat, i < n → D i = true) → cT D n = n
  | 0, _ => rfl
  | n + 1, h => by unfold cT; rw [cT_all (fun i hi => h i (by omega)), h n (by omega)]; rfl
theorem cT_full {D : Int → Bool} : ∀ {n : Nat}, cT D n = n → ∀ i : Nat, i < n → D i = true
  | 0, _, i, hi => by omega
  | n + 1, h, i, hi => by
    unfold cT at h
    have := cT_le D n
    by_cases hd : D n = true
    · by_cases e : i = n
      · subst e; exact hd
      · rw [if_pos hd] at h; exact cT_full (n := n) (by omega) i (by omega)
    · rw [if_neg hd] at h; omega
theorem cT_up {D : Int → Bool} {v : Nat} (hd : D v = false) : ∀ {n : Nat}, cT (upz D v true) n = cT D n + if v < n then 1 else 0
  | 0 => rfl
  | n + 1 => by
    unfold cT
    rw [cT_up hd]
    by_cases e : n = v
    · subst e; rw [upz_same, hd]; simp
    · rw [upz_ne (show (n : Int) ≠ (v : Int) by omega)]
      by_cases h : v < n
      · rw [if_pos h, if_pos (show v < n + 1 by omega)]; omega
      · rw [if_neg h, if_neg (show ¬ v < n + 1 by omega)]; omega
/-- One step of the plan. -/
structure Step (m : Nat) (J : Nat → Jb) (k : Nat) (M : Nat → Int) (S : PlS) (x : Wk) (j u : Nat) : Prop where
  hx : x = ⟨j, u, S.F u, S.F u + (J j).secs⟩
  hj : j < m
  hu : u < k
  hD : S.D j = false
  hB : hasB (M u) (J j).skill = true
  best : ∀ i : Nat, i < m → S.D i = false → (J i).secs ≤ (J j).secs ∧ (i < j → (J i).secs < (J j).secs)
  free : ∀ v : Nat, v < k → hasB (M v) (J j).skill = true → S.F u ≤ S.F v ∧ (v < u → S.F u < S.F v)
  next : stN m J k M S = ⟨upz S.D j true, upz S.F u (S.F u + (J j).secs)⟩
  ebj : bj J S.D m = j
  ebm : bm M S.F (J j).skill k = u
section
variable {m : Nat} {J : Nat → Jb} {k : Nat} {M : Nat → Int}
theorem step_of (hc : chkE m J k M = 0) {S : PlS} (h : ∃ i : Nat, i < m ∧ S.D i = false) : ∃ j u, Step m J k M S (stW m J k M S) j u := by
  obtain ⟨_, _, CZ⟩ := chk_zero hc
  rcases bj_spec J S.D m with ⟨_, h2⟩ | ⟨j, h1, h2, h3, h4⟩
  · obtain ⟨i, hi, hd⟩ := h
    rw [h2 i hi] at hd; cases hd
  · rcases bm_spec M S.F (J j).skill k with ⟨_, b2⟩ | ⟨u, b1, b2, b3, b4⟩
    · exact absurd b2 (CZ j h2).2.2.2.2.2.2
    · have e : stW m J k M S = ⟨j, u, S.F u, S.F u + (J j).secs⟩ := by
        unfold stW; rw [h1, Int.toNat_natCast, b1]
      exact ⟨j, u, e, h2, b2, h3, b3, h4, b4, by unfold stN; rw [e], h1, b1⟩
theorem st_count (hc : chkE m J k M = 0) : ∀ {n : Nat}, n ≤ m → cT (st m J k M n).D m = n
  | 0, _ => cT_none (fun _ => rfl) m
  | n + 1, h => by
    have ih := st_count hc (n := n) (by omega)
    have hex : ∃ i : Nat, i < m ∧ (st m J k M n).D i = false := by
      refine Classical.byContradiction fun hno => ?_
      have := cT_all (D := (st m J k M n).D) (n := m) (fun i hi => by
        cases hd : (st m J k M n).D i
        · exact absurd ⟨i, hi, hd⟩ hno
        · rfl)
      omega
    obtain ⟨j, u, s⟩ := step_of hc hex
    show cT (stN m J k M (st m J k M n)).D m = n + 1
    rw [s.next]
    show cT (upz (st m J k M n).D j true) m = n + 1
    rw [cT_up s.hD, if_pos s.hj, ih]
theorem st_step (hc : chkE m J k M = 0) {n : Nat} (hn : n < m) : ∃ j u, Step m J k M (st m J k M n) (pl m J k M n) j u := by
  refine step_of hc (Classical.byContradiction fun hno => ?_)
  have h1 := st_count hc (show n ≤ m by omega)
  have := cT_all (D := (st m J k M n).D) (n := m) (fun i hi => by
    cases hd : (st m J k M n).D i
    · exact absurd ⟨i, hi, hd⟩ hno
    · rfl)
  omega
theorem st_done (hc : chkE m J k M = 0) : ∀ i : Nat, i < m → (st m J k M m).D i = true := cT_full (st_count hc (Nat.le_refl m))
theorem st_bound (hc : chkE m J k M = 0) : ∀ {n : Nat}, n ≤ m → ∀ v, 0 ≤ (st m J k M n).F v ∧ (st m J k M n).F v ≤ 86400 * n
  | 0, _, v => by simp [st]
  | n + 1, h, v => by
    have ih := st_bound hc (n := n) (by omega)
    obtain ⟨j, u, s⟩ := st_step hc (n := n) (by omega)
    show 0 ≤ (stN m J k M (st m J k M n)).F v ∧ (stN m J k M (st m J k M n)).F v ≤ _
    rw [s.next]
    show 0 ≤ upz _ _ _ v ∧ upz _ _ _ v ≤ _
    have hs := (chk_zero hc).2.2 j s.hj
    by_cases e : v = (u : Int)
    · subst e; rw [upz_same]; have := ih u; omega
    · rw [upz_ne e]; have := ih v; omega
end

/-! The queue's list, and who is not done. -/
def QRel (D : Int → Bool) (m : Nat) (l : List Int) : Prop := l.Nodup ∧ ∀ x : Int, x ∈ l ↔ 0 ≤ x ∧ x < (m : Int) ∧ D x = false
theorem QRel.start (m : Nat) : QRel (fun _ => false) m ((List.range m).map (fun i : Nat => (i : Int))) := by
  refine ⟨?_, fun x => ?_⟩
  · rw [List.Nodup, List.pairwise_map]
    exact List.Pairwise.imp (fun h e => h (by omega)) (List.nodup_range (n := m))
  · simp
    constructor
    · rintro ⟨a, h, rfl⟩; omega
    · rintro ⟨h0, h1⟩; exact ⟨x.toNat, by omega, by omega⟩
theorem erase_mem {l : List Int} (hn : l.Nodup) : ∀ {i : Nat} (hi : i < l.length) (x : Int), x ∈ l.eraseIdx i ↔ x ∈ l ∧ x ≠ l[i] := by
  induction l with
  | nil => intro i hi; simp at hi
  | cons a l ih =>
    intro i hi x
    have h2 := List.nodup_cons.1 hn
    cases i with
    | zero =>
      simp
      constructor
      · intro h; exact ⟨.inr h, fun e => h2.1 (e ▸ h)⟩
      · rintro ⟨h | h, hne⟩
        · exact absurd h hne
        · exact h
    | succ i =>
      have hi' : i < l.length := by simpa using hi
      have := ih h2.2 hi' x
      simp only [List.eraseIdx_cons_succ, List.mem_cons, List.getElem_cons_succ, this]
      constructor
      · rintro (h | ⟨h, hne⟩)
        · subst h; exact ⟨.inl rfl, fun e => h2.1 (e ▸ List.getElem_mem hi')⟩
        · exact ⟨.inr h, hne⟩
      · rintro ⟨h | h, hne⟩
        · exact .inl h
        · exact .inr ⟨h, hne⟩
theorem QRel.pop {d : QJ.D} {D : Int → Bool} {l : List Int} (h : QRel D d.m l) (hl : l ≠ []) : ∃ j : Nat, l.getD (minIx (QJ.lt d) l) default = j ∧ bj d.J D d.m = j ∧ j < d.m ∧ D j = false ∧ QRel (upz D j true) d.m (l.eraseIdx (minIx (QJ.lt d) l)) := by
  have hlt := minIx_lt (lt := QJ.lt d) hl
  obtain ⟨ix, hix⟩ : ∃ ix, ix = minIx (QJ.lt d) l := ⟨_, rfl⟩
  have hle := minTo_least (QJ.lt_ord d) (fun i => l.getD i default) (l.length - 1)
  rw [show minTo (QJ.lt d) (fun i => l.getD i default) (l.length - 1) = ix from hix.symm] at hle
  rw [← hix] at hlt ⊢
  have hgd : l.getD ix default = l[ix] := by simp [List.getD, hlt]
  have hmem : l[ix] ∈ l := List.getElem_mem hlt
  obtain ⟨x0, x1, x2⟩ := (h.2 _).1 hmem
  obtain ⟨x, hx⟩ : ∃ x : Nat, l[ix] = (x : Int) := ⟨(l[ix]).toNat, by omega⟩
  rw [hx] at x0 x1 x2
  have key : bj d.J D d.m = x := by
    rcases bj_spec d.J D d.m with ⟨_, b2⟩ | ⟨j, b1, b2, b3, b4⟩
    · rw [b2 x (by omega)] at x2; cases x2
    · have jm : (j : Int) ∈ l := (h.2 _).2 ⟨by omega, by omega, b3⟩
      obtain ⟨q, hq, hqe⟩ := List.getElem_of_mem jm
      have hl1 := hle q (by omega)
      rw [hgd, hx, show l.getD q default = (j : Int) by simp [List.getD, hq, hqe]] at hl1
      have hl2 : QJ.ltL (d.J j).secs j (d.J x).secs x = false := hl1
      have hb := b4 x (by omega) x2
      simp [QJ.ltL] at hl2
      have : x = j := by
        rcases Nat.lt_trichotomy x j with h1 | h1 | h1
        · have := hb.2 h1; omega
        · exact h1
        · have := hb.1
          have h3 : (d.J j).secs = (d.J x).secs := by omega
          have := hl2.2 h3
          omega
      rw [b1, this]
  refine ⟨x, by rw [hgd, hx], key, by omega, x2, List.Nodup.sublist (List.eraseIdx_sublist l ix) h.1, fun y => ?_⟩
  rw [erase_mem h.1 hlt, h.2, hx]
  constructor
  · rintro ⟨⟨h0, h1, h2⟩, hne⟩
    exact ⟨h0, h1, by rw [upz_ne hne]; exact h2⟩
  · rintro ⟨h0, h1, h2⟩
    by_cases e : y = (x : Int)
    · subst e; rw [upz_same] at h2; cases h2
    · rw [upz_ne e] at h2; exact ⟨⟨h0, h1, h2⟩, e⟩
end Go.Proofs.Ytanpefjbmpohdaa
