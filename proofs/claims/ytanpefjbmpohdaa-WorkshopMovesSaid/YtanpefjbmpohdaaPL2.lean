/- A planned schedule is valid and ends within twice the bound where every mechanic has all skills; orders and shifts of a valid one. Plain. -/
import Derived.Test.YtanpefjbmpohdaaPL1
namespace Go.Proofs.Ytanpefjbmpohdaa
set_option linter.unusedVariables false
set_option linter.unusedSimpArgs false
section
variable {m : Nat} {J : Nat → Jb} {k : Nat} {M : Nat → Int}
theorem st_mono (hc : chkE m J k M = 0) {a : Nat} : ∀ {b : Nat}, a ≤ b → b ≤ m → (∀ x, (st m J k M a).D x = true → (st m J k M b).D x = true) ∧ ∀ v, (st m J k M a).F v ≤ (st m J k M b).F v
  | 0, h, _ => by obtain rfl : a = 0 := by omega
                  exact ⟨fun x h => h, fun v => Int.le_refl _⟩
  | b + 1, h, hb => by
    by_cases e : a = b + 1
    · subst e; exact ⟨fun x h => h, fun v => Int.le_refl _⟩
    · obtain ⟨i1, i2⟩ := st_mono hc (a := a) (b := b) (by omega) (by omega)
      obtain ⟨j, u, s⟩ := st_step hc (n := b) (by omega)
      have hn : st m J k M (b + 1) = _ := s.next
      have hs := (fine_secs hc j s.hj).1
      rw [hn]
      refine ⟨fun x hx => ?_, fun v => ?_⟩
      · show upz _ _ _ x = true
        by_cases e : x = (j : Int)
        · subst e; exact upz_same _ _ _
        · rw [upz_ne e]; exact i1 x hx
      · show _ ≤ upz _ _ _ v
        have := i2 v
        by_cases e : v = (u : Int)
        · subst e; rw [upz_same]; omega
        · rw [upz_ne e]; exact this
theorem plan_fine (hc : chkE m J k M = 0) {i : Nat} (hi : i < m) : fineW m J k M (pl m J k M) i := by
  obtain ⟨j, u, s⟩ := st_step hc hi
  have hb := st_bound hc (show i ≤ m by omega) u
  have hs := (fine_secs hc j s.hj).1
  refine ⟨?_, fun t ht => ?_⟩
  · rw [s.hx]
    unfold okW
    dsimp only
    rw [Int.toNat_natCast, Int.toNat_natCast]
    have := s.hj; have := s.hu
    exact ⟨by omega, by omega, by omega, by omega, s.hB, hb.1, by omega, by omega⟩
  · obtain ⟨j', u', s'⟩ := st_step hc (show t < m by omega)
    have hn : st m J k M (t + 1) = _ := s'.next
    obtain ⟨m1, m2⟩ := st_mono hc (show t + 1 ≤ i by omega) (show i ≤ m by omega)
    rw [hn] at m1 m2
    rw [s.hx, s'.hx]
    refine ⟨fun e => ?_, fun e => ?_⟩
    · have e : (j' : Int) = (j : Int) := e
      have := m1 (j : Int) (by show upz _ _ _ _ = true; rw [e]; exact upz_same _ _ _)
      rw [s.hD] at this; cases this
    · have e : (u' : Int) = (u : Int) := e
      have h2 : upz (st m J k M t).F u' ((st m J k M t).F u' + (J j').secs) u ≤ (st m J k M i).F u := m2 (u : Int)
      rw [e, upz_same] at h2
      dsimp only
      rw [e]
      omega
theorem plan_valid (hc : chkE m J k M = 0) : validP m J k M m (pl m J k M) := ⟨hc, rfl, fun i hi => plan_fine hc hi⟩
/-- The mechanics' times together are the done jobs' seconds. -/
theorem st_sum (hc : chkE m J k M = 0) : ∀ {n : Nat}, n ≤ m → sm (fun v => (st m J k M n).F v) k = smD (st m J k M n).D (fun i => (J i).secs) m
  | 0, _ => by
    unfold smD
    show sm (fun _ => 0) k = sm (fun _ => if false = true then _ else 0) m
    simp only [Bool.false_eq_true, if_false]
    rw [sm_zero, sm_zero]
  | n + 1, hn => by
    have ih := st_sum hc (n := n) (by omega)
    obtain ⟨j, u, s⟩ := st_step hc (n := n) (by omega)
    have hx : st m J k M (n + 1) = _ := s.next
    rw [hx]
    show sm (fun v => upz _ _ _ _) k = smD (upz _ _ _) _ m
    rw [smD_up s.hD s.hj, ← ih]
    have h := sm_up (f := fun v : Nat => (st m J k M n).F v) (v := u) (x := (st m J k M n).F u + (J j).secs) (n := k)
    rw [if_pos s.hu] at h
    rw [show (fun v : Nat => upz (st m J k M n).F u ((st m J k M n).F u + (J j).secs) v) = (fun i : Nat => if i = u then (st m J k M n).F u + (J j).secs else (st m J k M n).F i) from by
      funext v
      by_cases e : v = u
      · subst e; rw [upz_same, if_pos rfl]
      · rw [upz_ne (show (v : Int) ≠ (u : Int) by omega), if_neg e]]
    rw [h]
    omega
theorem bdK_mono (s : Nat) : bdK m J k M s ≤ bdK m J k M (s + 1) := by
  simp only [bdK, shr]
  split
  · exact le_mx_left _ _
  · exact Int.le_refl _
theorem bdK_zero_le : ∀ s, bdK m J k M 0 ≤ bdK m J k M s
  | 0 => Int.le_refl _
  | s + 1 => Int.le_trans (bdK_zero_le s) (bdK_mono s)
theorem mostL_ge {J : Nat → Jb} : ∀ {n i : Nat}, i < n → (J i).secs ≤ mostL J n
  | n + 1, i, h => by
    simp only [mostL]
    by_cases e : i = n
    · subst e; exact le_mx_right _ _
    · exact Int.le_trans (mostL_ge (n := n) (by omega)) (le_mx_left _ _)
theorem bnd_parts (hk : 0 < k) : mostL J m ≤ bndV m J k M ∧ cei (sumL J m) k ≤ bndV m J k M := by
  have h := bdK_zero_le (m := m) (J := J) (k := k) (M := M) 8
  have e : bdK m J k M 0 = mx (mostL J m) (cei (sumL J m) k) := by simp [bdK, shr, hk]
  rw [e] at h
  exact ⟨Int.le_trans (le_mx_left _ _) h, Int.le_trans (le_mx_right _ _) h⟩
/-- Within twice the bound. -/
theorem graham (hc : chkE m J k M = 0) (hall : ∀ i v, i < m → v < k → hasB (M v) (J i).skill = true) : endL (pl m J k M) m ≤ 2 * bndV m J k M := by
  have hb0 : 0 ≤ bndV m J k M := (bdK_range hc 8).1
  refine endL_le (.inr (by omega)) fun t ht => ?_
  obtain ⟨j, u, s⟩ := st_step hc ht
  have hk : 0 < k := by have := s.hu; omega
  obtain ⟨b1, b2⟩ := bnd_parts (m := m) (J := J) (M := M) hk
  rw [s.hx]
  dsimp only
  have hj := mostL_ge (J := J) s.hj
  have hF : (st m J k M t).F u * k ≤ sumL J m := by
    rw [← sm_const, sumL_sm]
    refine Int.le_trans (sm_le fun v hv => (s.free v hv (hall j v s.hj hv)).1) ?_
    rw [st_sum hc (show t ≤ m by omega)]
    exact smD_le fun i hi => by have := (fine_secs hc i hi).1; omega
  have hc2 := cei_mul (x := sumL J m) hk
  have : (st m J k M t).F u ≤ cei (sumL J m) k := by
    have h1 : (st m J k M t).F u * k ≤ cei (sumL J m) k * k := by omega
    exact Int.le_of_mul_le_mul_right h1 (by omega)
  omega
/-- In a planned schedule the longer jobs come first. -/
theorem plan_order (hc : chkE m J k M = 0) {i : Nat} (hi : i + 1 < m) {a b ua ub : Nat} (sa : Step m J k M (st m J k M i) (pl m J k M i) a ua) (sb : Step m J k M (st m J k M (i + 1)) (pl m J k M (i + 1)) b ub) :
    (J b).secs ≤ (J a).secs ∧ ((J a).secs = (J b).secs → a < b) := by
  have hD := sb.hD
  have hn : st m J k M (i + 1) = _ := sa.next
  rw [hn] at hD
  have hD : upz (st m J k M i).D a true b = false := hD
  have hab : (b : Int) ≠ (a : Int) := fun e => by rw [e, upz_same] at hD; cases hD
  rw [upz_ne hab] at hD
  have := sa.best b sb.hj hD
  refine ⟨this.1, fun e => ?_⟩
  rcases Nat.lt_trichotomy a b with h | h | h
  · exact h
  · omega
  · have := this.2 h; omega
end
/-- All pairs are apart. -/
theorem apart_symm {x y : Wk} (h : apart x y) : apart y x := ⟨fun e => h.1 e.symm, fun e hh => h.2 e.symm ⟨hh.2, hh.1⟩⟩
section
variable {m : Nat} {J : Nat → Jb} {k : Nat} {M : Nat → Int} {L : Nat → Wk}
def revL (m : Nat) (L : Nat → Wk) : Nat → Wk := fun i => L (m - 1 - i)
def late (d : Int) (x : Wk) : Wk := ⟨x.job, x.mech, x.frm + d, x.til + d⟩
theorem valid_rev (h : validP m J k M m L) : validP m J k M m (revL m L) := by
  obtain ⟨_, hc, hok, hap⟩ := valid_facts h
  exact ⟨hc, rfl, fun i hi => ⟨hok _ (by omega), fun t ht => apart_symm (hap (m - 1 - t) (m - 1 - i) (by omega) (by omega))⟩⟩
theorem valid_late {d : Int} (hd : 0 ≤ d) (h : validP m J k M m L) : validP m J k M m (fun i => late d (L i)) := by
  obtain ⟨_, hc, hok, hap⟩ := valid_facts h
  refine ⟨hc, rfl, fun i hi => ⟨?_, fun t ht => ?_⟩⟩
  · have := hok i hi
    unfold okW at *
    unfold late
    dsimp only
    obtain ⟨h1, h2, h3, h4, h5, h6, h7, h8⟩ := this
    exact ⟨h1, h2, h3, h4, h5, by omega, by omega, by omega⟩
  · have := hap i t hi ht
    refine ⟨this.1, fun e hh => this.2 e ?_⟩
    unfold late at hh
    dsimp only at hh
    omega
theorem end_rev (L : Nat → Wk) (m : Nat) : endL (revL m L) m = endL L m := by
  by_cases h0 : m = 0
  · subst h0; rfl
  · have h1 : endL (revL m L) m ≤ endL L m := endL_le (.inl (by omega)) fun t ht => endL_ge (by omega)
    have h2 : endL L m ≤ endL (revL m L) m := endL_le (.inl (by omega)) fun t ht => by
      have := endL_ge (L := revL m L) (n := m) (t := m - 1 - t) (by omega)
      unfold revL at this
      rwa [show m - 1 - (m - 1 - t) = t by omega] at this
    omega
theorem end_late (L : Nat → Wk) (d : Int) {m : Nat} (hm : 0 < m) : endL (fun i => late d (L i)) m = endL L m + d := by
  have h1 : endL (fun i => late d (L i)) m ≤ endL L m + d := endL_le (.inl hm) fun t ht => by
    have := endL_ge (L := L) ht
    unfold late; dsimp only; omega
  have h2 : endL L m ≤ endL (fun i => late d (L i)) m - d := endL_le (.inl hm) fun t ht => by
    have : (L t).til + d ≤ endL (fun i => late d (L i)) m := endL_ge (L := fun i => late d (L i)) ht
    omega
  omega
theorem end_congr {L L' : Nat → Wk} : ∀ {n : Nat}, (∀ i, i < n → L i = L' i) → endL L n = endL L' n
  | 0, _ => rfl
  | n + 1, h => by rw [endL_succ, endL_succ, end_congr (fun i hi => h i (by omega)), h n (by omega), h 0 (by omega)]
theorem valid_congr {L L' : Nat → Wk} {n : Nat} (h : ∀ i, i < n → L i = L' i) : validP m J k M n L ↔ validP m J k M n L' := by
  unfold validP fineW
  constructor
  · rintro ⟨a, b, c⟩
    exact ⟨a, b, fun i hi => by rw [← h i hi]; exact ⟨(c i hi).1, fun t ht => by rw [← h t (by omega)]; exact (c i hi).2 t ht⟩⟩
  · rintro ⟨a, b, c⟩
    exact ⟨a, b, fun i hi => by rw [h i hi]; exact ⟨(c i hi).1, fun t ht => by rw [h t (by omega)]; exact (c i hi).2 t ht⟩⟩
end
end Go.Proofs.Ytanpefjbmpohdaa
