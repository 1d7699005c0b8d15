/- The error of jobs and mechanics. Plain. -/
import Derived.Test.YtanpefjbmpohdaaB
namespace Go.Proofs.Ytanpefjbmpohdaa
set_option linter.unusedVariables false
set_option linter.unusedSimpArgs false
/-- The first that is not 0. -/
def scan (f : Nat → Int) : Nat → Int
  | 0 => 0
  | n + 1 => if scan f n = 0 then f n else scan f n
theorem scan_next {f : Nat → Int} {n : Nat} (h : scan f n = 0) (h2 : f n = 0) : scan f (n + 1) = 0 := by simp [scan, h, h2]
theorem scan_hit {f : Nat → Int} {k : Nat} (h : scan f k = 0) (h2 : f k ≠ 0) : ∀ {n : Nat}, k < n → scan f n = f k
  | 0, hk => by omega
  | n + 1, hk => by
    by_cases e : k = n
    · subst e; simp [scan, h]
    · have := scan_hit h h2 (n := n) (by omega)
      simp [scan, this, h2]
theorem scan_zero {f : Nat → Int} : ∀ {n : Nat}, scan f n = 0 → ∀ i, i < n → f i = 0
  | n + 1, h, i, hi => by
    have h1 : scan f n = 0 := by
      by_cases e : scan f n = 0
      · exact e
      · simp [scan, e] at h
    by_cases e : i = n
    · subst e; simpa [scan, h1] using h
    · exact scan_zero h1 i (by omega)
/-- Is the number among the first n? -/
def among (J : Nat → Jb) (x : Int) : Nat → Bool
  | 0 => false
  | n + 1 => among J x n || (J n).id == x
theorem among_iff {J : Nat → Jb} {x : Int} : ∀ {n : Nat}, among J x n = true ↔ ∃ i, i < n ∧ (J i).id = x
  | 0 => by simp [among]
  | n + 1 => by
    rw [among, Bool.or_eq_true, among_iff]
    constructor
    · rintro (⟨i, h, e⟩ | h)
      · exact ⟨i, by omega, e⟩
      · exact ⟨n, by omega, by simpa using h⟩
    · rintro ⟨i, h, e⟩
      by_cases hi : i = n
      · subst hi; exact .inr (by simpa using e)
      · exact .inl ⟨i, by omega, e⟩
/-- A job in its ranges. -/
def fineB (j : Jb) : Bool := !(decide (j.id < 1) || decide (1000000 < j.id) || decide (j.secs < 1) || decide (86400 < j.secs) || decide (j.skill < 0) || decide (8 ≤ j.skill))
def jobX (J : Nat → Jb) (M : Nat → Int) (k i : Nat) : Int := if fineB (J i) = false then 1 else if among J (J i).id i = true then 6 else if cnt M (J i).skill k = 0 then 30 else 0
def chkE (m : Nat) (J : Nat → Jb) (k : Nat) (M : Nat → Int) : Int := if 32 < m ∨ 8 < k then 8 else scan (jobX J M k) m
end Go.Proofs.Ytanpefjbmpohdaa
