/- Theorems of this seat. -/
import Derived.Test.YtdpoppilnokniaaGreatDoorYDSA
namespace Go.Proofs.YtdpoppilnokniaaGreatDoor
set_option linter.unusedVariables false
set_option linter.unusedSimpArgs false
def keyR (x : Rid) : Int × Int := (x.rid, x.s0.tdiv 86400)
def befR (x y : Rid) : Bool := decide (x.s0 < y.s0) || (decide (x.s0 = y.s0) && decide (x.id < y.id))
def rankR (L : List Rid) (x : Rid) : Nat := L.countP (fun y => (y.op == false) && (keyR y == keyR x) && befR y x)
def cntR (L : List Rid) (each : Int) (x : Rid) : Bool := (x.op == false) && decide ((rankR L x : Int) < each)
def IdsR (L : List Rid) : Prop := L.Pairwise (fun x y => x.id ≠ y.id)
theorem befR_trans {x y z : Rid} (h : befR x y = true) (k : befR y z = true) : befR x z = true := by
 simp only [befR, Bool.or_eq_true, Bool.and_eq_true, decide_eq_true_eq] at *
 omega
theorem befR_irr (x : Rid) : befR x x = false := by simp [befR]
theorem befR_tot {x y : Rid} (h : x.id ≠ y.id) : befR x y = true ∨ befR y x = true := by
 simp only [befR, Bool.or_eq_true, Bool.and_eq_true, decide_eq_true_eq]
 omega
def tabR (L : List Rid) (each : Int) (q : Rid → Bool) : Nat := L.countP (fun x => cntR L each x && q x)
def sumTo (f : Nat → Nat) : Nat → Nat
 | 0 => 0
 | n + 1 => sumTo f n + f n
theorem sumTo_cells {α : Type} (L : List α) (p : α → Bool) (c : α → Nat) (n : Nat) : sumTo (fun i => L.countP (fun x => p x && (c x == i))) n ≤ L.countP p := by
 have : sumTo (fun i => L.countP (fun x => p x && (c x == i))) n = L.countP (fun x => p x && decide (c x < n)) := by
   induction n with
   | zero => rw [List.countP_eq_zero.2 (fun x _ h => by simp at h)]; rfl
   | succ n ih =>
     unfold sumTo
     rw [ih]
     have : ∀ M : List α, M.countP (fun x => p x && decide (c x < n)) + M.countP (fun x => p x && (c x == n)) = M.countP (fun x => p x && decide (c x < n + 1)) := by
       intro M
       induction M with
       | nil => simp
       | cons a M im =>
         rw [List.countP_cons, List.countP_cons, List.countP_cons, ← im]
         by_cases hp : p a = true
         · rw [hp]
           rcases Nat.lt_trichotomy (c a) n with h | h | h
           · have e1 : decide (c a < n) = true := decide_eq_true h
             have e2 : (c a == n) = false := by simp; omega
             have e3 : decide (c a < n + 1) = true := decide_eq_true (by omega)
             rw [e1, e2, e3]; simp; omega
           · have e1 : decide (c a < n) = false := decide_eq_false (by omega)
             have e2 : (c a == n) = true := by simp; omega
             have e3 : decide (c a < n + 1) = true := decide_eq_true (by omega)
             rw [e1, e2, e3]; simp; omega
           · have e1 : decide (c a < n) = false := decide_eq_false (by omega)
             have e2 : (c a == n) = false := by simp; omega
             have e3 : decide (c a < n + 1) = false := decide_eq_false (by omega)
             rw [e1, e2, e3]; simp
         · have hp : p a = false := by simpa using hp
           rw [hp]; simp
     exact this L
 rw [this]
 exact List.countP_mono_left (fun x _ h => by simp only [Bool.and_eq_true] at h; exact h.1)
end Go.Proofs.YtdpoppilnokniaaGreatDoor
