/- The order in which the values of a queue leave, for any values; ranks. Plain lists, no program. -/
import Derived.Test.YtlnfhlmgnppcbaaGreatZBB
namespace Go.Proofs.YtlnfhlmgnppcbaaGreat
namespace Lv
section
variable {T : Type} [Inhabited T]
def leaveN (lt : T → T → Bool) : Nat → List T → List T
  | 0, _ => []
  | _, [] => []
  | n + 1, x :: l => (x :: l).getD (minIx lt (x :: l)) default :: leaveN lt n ((x :: l).eraseIdx (minIx lt (x :: l)))
def leave (lt : T → T → Bool) (l : List T) : List T := leaveN lt l.length l
end
section
variable {A T : Type} [Inhabited A] [Inhabited T]
end
def cnt (p : Nat → Bool) (k : Nat) : Nat := (List.range k).countP p
theorem cnt_yes {p : Nat → Bool} {k : Nat} (h : p k = true) : cnt p (k + 1) = cnt p k + 1 := by simp [cnt, List.range_succ, List.countP_append, h]
theorem cnt_no {p : Nat → Bool} {k : Nat} (h : p k = false) : cnt p (k + 1) = cnt p k := by simp [cnt, List.range_succ, List.countP_append, h]
theorem cnt_le (p : Nat → Bool) (k : Nat) : cnt p k ≤ k := by have := List.countP_le_length (p := p) (l := List.range k); simpa [cnt] using this
theorem cnt_congr {p q : Nat → Bool} : ∀ {k : Nat}, (∀ i, i < k → p i = q i) → cnt p k = cnt q k
  | 0, _ => rfl
  | k + 1, h => by
    have ih := cnt_congr (k := k) (fun i hi => h i (by omega))
    have hk := h k (by omega)
    cases hp : p k
    · rw [cnt_no hp, cnt_no (by rw [← hk, hp]), ih]
    · rw [cnt_yes hp, cnt_yes (by rw [← hk, hp]), ih]
theorem cnt_or {p q : Nat → Bool} : ∀ {k : Nat}, (∀ i, i < k → p i = true → q i = false) → cnt (fun i => p i || q i) k = cnt p k + cnt q k
  | 0, _ => rfl
  | k + 1, h => by
    have ih := cnt_or (p := p) (q := q) (k := k) (fun i hi => h i (by omega))
    have hk := h k (by omega)
    cases hp : p k
    · cases hq : q k
      · rw [cnt_no hp, cnt_no hq, cnt_no (by simp [hp, hq]), ih]
      · rw [cnt_no hp, cnt_yes hq, cnt_yes (by simp [hp, hq]), ih]; omega
    · rw [cnt_yes hp, cnt_no (hk hp), cnt_yes (by simp [hp]), ih]; omega
theorem cnt_none {p : Nat → Bool} : ∀ {k : Nat}, (∀ i, i < k → p i = false) → cnt p k = 0
  | 0, _ => rfl
  | k + 1, h => by rw [cnt_no (h k (by omega)), cnt_none (fun i hi => h i (by omega))]
end Lv
end Go.Proofs.YtlnfhlmgnppcbaaGreat
