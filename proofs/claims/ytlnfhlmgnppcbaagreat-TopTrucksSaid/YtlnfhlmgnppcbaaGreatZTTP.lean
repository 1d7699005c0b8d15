/- The orders of a list, one behind the other: their rank grows, and is bounded. Plain theorems, no program. -/
import Derived.WalkKit
namespace Go.Proofs.YtlnfhlmgnppcbaaGreat
def rankN (V : Nat → Int) : Nat → Int
  | 0 => 0
  | m + 1 => rankN V m * 16 + V m
theorem rankN_same {V V' : Nat → Int} : ∀ {i : Nat}, (∀ j, j < i → V' j = V j) → rankN V' i = rankN V i
  | 0, _ => rfl
  | i + 1, h => by
    show rankN V' i * 16 + V' i = rankN V i * 16 + V i
    rw [rankN_same fun j hj => h j (by omega), h i (by omega)]
theorem rankN_lt {V V' : Nat → Int} {i : Nat} (hs : ∀ j, j < i → V' j = V j) (hi : V i < V' i) : ∀ {m : Nat}, i < m → (∀ j, j < m → 0 ≤ V j ∧ V j < 16) → (∀ j, j < m → 0 ≤ V' j ∧ V' j < 16) → rankN V m < rankN V' m
  | 0, h, _, _ => absurd h (by omega)
  | m + 1, h, b, b' => by
    show rankN V m * 16 + V m < rankN V' m * 16 + V' m
    by_cases e : i = m
    · subst e
      rw [rankN_same hs]; omega
    · have := rankN_lt hs hi (m := m) (by omega) (fun j hj => b j (by omega)) (fun j hj => b' j (by omega))
      have := b m (by omega)
      have := b' m (by omega)
      omega
theorem rankN_le {V : Nat → Int} : ∀ {m : Nat}, (∀ j, j < m → 0 ≤ V j ∧ V j < 16) → 0 ≤ rankN V m ∧ rankN V m < 16 ^ m
  | 0, _ => ⟨Int.le_refl _, show (0 : Int) < 16 ^ 0 by decide⟩
  | m + 1, b => by
    have h := rankN_le (m := m) (fun j hj => b j (by omega))
    have := b m (by omega)
    have e : (16 : Int) ^ (m + 1) = 16 ^ m * 16 := Int.pow_succ ..
    refine ⟨show 0 ≤ rankN V m * 16 + V m by omega, show rankN V m * 16 + V m < _ by rw [e]; omega⟩
def lastN (V : Nat → Int) (m : Nat) : Nat := (16 ^ m - rankN V m).toNat
theorem lastN_lt {V V' : Nat → Int} {i m : Nat} (hs : ∀ j, j < i → V' j = V j) (hi : V i < V' i) (him : i < m) (b : ∀ j, j < m → 0 ≤ V j ∧ V j < 16) (b' : ∀ j, j < m → 0 ≤ V' j ∧ V' j < 16) : lastN V' m < lastN V m := by
  have h1 := rankN_lt hs hi him b b'
  have h2 := rankN_le b'
  unfold lastN
  omega
end Go.Proofs.YtlnfhlmgnppcbaaGreat
