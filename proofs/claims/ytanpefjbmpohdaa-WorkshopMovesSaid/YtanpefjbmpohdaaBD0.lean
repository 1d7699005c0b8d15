/- The bound for the end of every valid schedule. Plain. -/
import Derived.Test.YtanpefjbmpohdaaD0
namespace Go.Proofs.Ytanpefjbmpohdaa
set_option linter.unusedVariables false
set_option linter.unusedSimpArgs false
def mx (a b : Int) : Int := if a < b then b else a
def mostL (J : Nat → Jb) : Nat → Int
  | 0 => 0
  | n + 1 => mx (mostL J n) (J n).secs
def sumL (J : Nat → Jb) : Nat → Int
  | 0 => 0
  | n + 1 => sumL J n + (J n).secs
def skL (J : Nat → Jb) (n : Nat) (s : Int) : Int := match n with
  | 0 => 0
  | n + 1 => skL J n s + if (J n).skill = s then (J n).secs else 0
def cei (x : Int) (n : Nat) : Int := (x + n - 1) / n
def shr (most secs : Int) (many : Nat) : Int := if 0 < many then mx most (cei secs many) else most
def bdK (m : Nat) (J : Nat → Jb) (k : Nat) (M : Nat → Int) : Nat → Int
  | 0 => shr (mostL J m) (sumL J m) k
  | s + 1 => shr (bdK m J k M s) (skL J m s) (cnt M s k)
def bndV (m : Nat) (J : Nat → Jb) (k : Nat) (M : Nat → Int) : Int := bdK m J k M 8
theorem cei_range {x : Int} {n : Nat} (h0 : 0 ≤ x) (hn : 0 < n) : 0 ≤ cei x n ∧ cei x n ≤ x := by
  have hn' : (0 : Int) < (n : Int) := by omega
  unfold cei
  refine ⟨Int.ediv_nonneg (by omega) (by omega), ?_⟩
  have h1 : (x + n - 1) / (n : Int) < x + 1 := Int.ediv_lt_of_lt_mul hn' (by
    have : x * 1 ≤ x * n := Int.mul_le_mul_of_nonneg_left (by omega) h0
    rw [Int.add_mul]
    omega)
  omega
theorem cei_zero {n : Nat} (hn : 0 < n) : cei 0 n = 0 := by have := cei_range (x := 0) (n := n) (by omega) hn; omega
/-- x is at most n times its share. -/
theorem cei_mul {x : Int} {n : Nat} (hn : 0 < n) : x ≤ cei x n * n := by
  have hn' : (0 : Int) < (n : Int) := by omega
  unfold cei
  have h1 := Int.mul_ediv_add_emod (x + n - 1) n
  have h2 := Int.emod_lt_of_pos (x + n - 1) hn'
  rw [Int.mul_comm] at h1
  omega
/-- A share is at most E where x is at most n times E. -/
theorem cei_le {x E : Int} {n : Nat} (hn : 0 < n) (h : x ≤ E * n) : cei x n ≤ E := by
  have hn' : (0 : Int) < (n : Int) := by omega
  unfold cei
  have h1 : (x + n - 1) / (n : Int) < E + 1 := Int.ediv_lt_of_lt_mul hn' (by rw [Int.add_mul]; omega)
  omega
theorem mx_le {a b E : Int} (h1 : a ≤ E) (h2 : b ≤ E) : mx a b ≤ E := by unfold mx; split <;> omega
theorem le_mx_left (a b : Int) : a ≤ mx a b := by unfold mx; split <;> omega
theorem le_mx_right (a b : Int) : b ≤ mx a b := by unfold mx; split <;> omega
section
variable {m : Nat} {J : Nat → Jb} {k : Nat} {M : Nat → Int}
theorem mostL_range (h : ∀ i, i < m → 1 ≤ (J i).secs ∧ (J i).secs ≤ 86400) : ∀ {n : Nat}, n ≤ m → 0 ≤ mostL J n ∧ mostL J n ≤ 86400
  | 0, _ => by simp [mostL]
  | n + 1, hn => by
    have ih := mostL_range h (n := n) (by omega)
    have := h n (by omega)
    exact ⟨Int.le_trans ih.1 (le_mx_left _ _), mx_le ih.2 this.2⟩
theorem sumL_range (h : ∀ i, i < m → 1 ≤ (J i).secs ∧ (J i).secs ≤ 86400) : ∀ {n : Nat}, n ≤ m → 0 ≤ sumL J n ∧ sumL J n ≤ 86400 * n
  | 0, _ => by simp [sumL]
  | n + 1, hn => by have ih := sumL_range h (n := n) (by omega); have := h n (by omega); simp only [sumL]; omega
theorem skL_range (h : ∀ i, i < m → 1 ≤ (J i).secs ∧ (J i).secs ≤ 86400) (s : Int) : ∀ {n : Nat}, n ≤ m → 0 ≤ skL J n s ∧ skL J n s ≤ 86400 * n
  | 0, _ => by simp [skL]
  | n + 1, hn => by have ih := skL_range h s (n := n) (by omega); have := h n (by omega); simp only [skL]; split <;> omega
theorem skL_pos (s : Int) : ∀ {n : Nat}, 0 < skL J n s → ∃ i, i < n ∧ (J i).skill = s
  | 0, h => by simp [skL] at h
  | n + 1, h => by
    by_cases e : (J n).skill = s
    · exact ⟨n, by omega, e⟩
    · simp only [skL, if_neg e, Int.add_zero] at h
      obtain ⟨i, h1, h2⟩ := skL_pos s h
      exact ⟨i, by omega, h2⟩
theorem shr_range {a x b : Int} {n : Nat} (h1 : 0 ≤ a) (h2 : a ≤ b) (h3 : 0 ≤ x) (h4 : x ≤ b) : 0 ≤ shr a x n ∧ shr a x n ≤ b := by
  unfold shr
  split
  · rename_i hn
    have := cei_range h3 hn
    exact ⟨Int.le_trans h1 (le_mx_left _ _), mx_le h2 (by omega)⟩
  · exact ⟨h1, h2⟩
theorem fine_secs (hc : chkE m J k M = 0) : ∀ i, i < m → 1 ≤ (J i).secs ∧ (J i).secs ≤ 86400 := fun i hi => by
  have := (chk_zero hc).2.2 i hi; exact ⟨this.2.2.1, this.2.2.2.1⟩
theorem bdK_range (hc : chkE m J k M = 0) : ∀ s, 0 ≤ bdK m J k M s ∧ bdK m J k M s ≤ 2764800
  | 0 => by
    have hm := (chk_zero hc).1
    have h1 := mostL_range (fine_secs hc) (Nat.le_refl m)
    have h2 := sumL_range (fine_secs hc) (Nat.le_refl m)
    exact shr_range h1.1 (by omega) h2.1 (by omega)
  | s + 1 => by
    have hm := (chk_zero hc).1
    have ih := bdK_range hc s
    have h2 := skL_range (fine_secs hc) (s : Int) (Nat.le_refl m)
    exact shr_range ih.1 ih.2 h2.1 (by omega)
/-- The reference's first step; its round. -/
theorem ref_first (hc : chkE m J k M = 0) (hm : 0 < m) : 0 < k ∧ bdK m J k M 0 = mx (mostL J m) (cei (sumL J m) k) := by
  have h0 := ((chk_zero hc).2.2 0 hm).2.2.2.2.2.2
  have := cnt_le M (J 0).skill k
  have hk : 0 < k := by omega
  exact ⟨hk, by simp [bdK, shr, hk]⟩
theorem ref_step (hc : chkE m J k M = 0) (s : Nat) : (0 < skL J m s → 0 < cnt M s k ∧ bdK m J k M (s + 1) = mx (bdK m J k M s) (cei (skL J m s) (cnt M s k))) ∧ (¬ 0 < skL J m s → bdK m J k M (s + 1) = bdK m J k M s) := by
  constructor
  · intro h
    obtain ⟨i, hi, e⟩ := skL_pos (s : Int) h
    have h0 := ((chk_zero hc).2.2 i hi).2.2.2.2.2.2
    rw [e] at h0
    have hp : 0 < cnt M s k := by omega
    exact ⟨hp, by simp [bdK, shr, hp]⟩
  · intro h
    have h2 := skL_range (fine_secs hc) (s : Int) (Nat.le_refl m)
    have hz : skL J m s = 0 := by omega
    have hb := (bdK_range hc s).1
    simp only [bdK, hz, shr]
    split
    · rename_i hp
      rw [cei_zero hp]; unfold mx; split <;> omega
    · rfl
theorem bndV_none (J : Nat → Jb) (k : Nat) (M : Nat → Int) : bndV 0 J k M = 0 := by
  have key : ∀ s, bdK 0 J k M s = 0 := by
    intro s
    induction s with
    | zero => simp only [bdK, mostL, sumL, shr]; split
              · rename_i hp; rw [cei_zero hp]; rfl
              · rfl
    | succ s ih => simp only [bdK, ih, skL, shr]; split
                   · rename_i hp; rw [cei_zero hp]; rfl
                   · rfl
  exact key 8
end
end Go.Proofs.Ytanpefjbmpohdaa
