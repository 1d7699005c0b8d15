/- The answers of program and reference in one form. -/
import Derived.Test.YtbmlnjdfnjjjhaaZ4
import Derived.Test.YtbmlnjdfnjjjhaaY2
namespace Go.Proofs.Ytbmlnjdfnjjjhaa
open Go.RowKit
set_option linter.unusedVariables false
set_option linter.unusedSimpArgs false
open Rd
open Classical in
noncomputable def timesV (N : Int) (m : Nat) (E : Nat → Ed) (src : Int) : Nat × (Nat → Int) × Int :=
  if roadE N m E ≠ 0 then (0, fun _ => 0, roadE N m E) else if nodeB N src = false then (0, fun _ => 0, 7) else (N.toNat, fun i => sec (gr Ed.frm Ed.til N.toNat m E) src i, 0)
theorem Tm.val {N : Int} {m : Nat} {E : Nat → Ed} {src : Int} {w : World} {e : Ending} {w' : World} (h : Tm N m E src w e w') :
    ∃ a c, e = .returned (.tuple #[.slice a (timesV N m E src).1 c, .int .i64 (timesV N m E src).2.2]) ∧ (timesV N m E src).1 ≤ c ∧ c ≤ 9223372036854775807 ∧ Ints w' a (timesV N m E src).1 (timesV N m E src).2.1 ∧ Below w.heap.size w w' := by
  obtain ⟨hb, h⟩ := h
  rcases h with ⟨h1, he⟩ | ⟨h1, h2, he⟩ | ⟨n, s, b, h1, hn, hs, hsn, hr, he, hN⟩
  · have e1 : timesV N m E src = (0, fun _ => 0, roadE N m E) := if_pos h1
    rw [e1]; exact ⟨none, 0, he, by omega, by omega, Ints.nil _ _, hb⟩
  · have e1 : timesV N m E src = (0, fun _ => 0, 7) := by unfold timesV; rw [if_neg (by simp [h1]), if_pos h2]
    rw [e1]; exact ⟨none, 0, he, by omega, by omega, Ints.nil _ _, hb⟩
  · subst hn hs
    have e1 : timesV n m E s = (n, fun i : Nat => sec (gr Ed.frm Ed.til n m E) s i, 0) := by unfold timesV; rw [if_neg (by simp [h1]), if_neg (by simp [nodeB]; omega), Int.toNat_natCast]
    rw [e1]
    have := hr.n2
    exact ⟨_, n, he, Nat.le_refl _, by omega, hN.ints, hb⟩
open Classical in
noncomputable def wayV (N : Int) (m : Nat) (E : Nat → Ed) (src dst : Int) : List Int × Int :=
  if roadE N m E ≠ 0 then ([], roadE N m E) else if (nodeB N src && nodeB N dst) = false then ([], 7) else if Rd.Can (gr Ed.til Ed.frm N.toNat m E) dst src then (wayL N.toNat m E dst (edg (gr Ed.til Ed.frm N.toNat m E) dst src).toNat src, 0) else ([], 15)
theorem Wy.val {N : Int} {m : Nat} {E : Nat → Ed} {src dst : Int} {w : World} {e : Ending} {w' : World} (h : Wy N m E src dst w e w') :
    ∃ a c, e = .returned (.tuple #[.slice a (wayV N m E src dst).1.length c, .int .i64 (wayV N m E src dst).2]) ∧ (wayV N m E src dst).1.length ≤ c ∧ c ≤ 9223372036854775807 ∧ Ints w' a (wayV N m E src dst).1.length (fun i => (wayV N m E src dst).1.getD i 0) ∧ Below w.heap.size w w' := by
  obtain ⟨hb, h⟩ := h
  rcases h with ⟨h1, he⟩ | ⟨h1, h2, he⟩ | ⟨n, s, t, h1, hn, hs, hsn, ht, htn, hr, h⟩
  · have e1 : wayV N m E src dst = ([], roadE N m E) := if_pos h1
    rw [e1]; exact ⟨none, 0, he, by simp, by omega, Ints.nil _ _, hb⟩
  · have e1 : wayV N m E src dst = ([], 7) := by unfold wayV; rw [if_neg (by simp [h1]), if_pos h2]
    rw [e1]; exact ⟨none, 0, he, by simp, by omega, Ints.nil _ _, hb⟩
  · subst hn hs ht
    have hnd : ¬ (nodeB n s && nodeB n t) = false := by simp [nodeB]; omega
    rcases h with ⟨hc, he⟩ | ⟨v, hc, he, hL⟩
    · have e1 : wayV n m E s t = ([], 15) := by unfold wayV; rw [if_neg (by simp [h1]), if_neg hnd, if_neg (by rw [Int.toNat_natCast]; exact hc)]
      rw [e1]; exact ⟨none, 0, he, by simp, by omega, Ints.nil _ _, hb⟩
    · have e1 : wayV n m E s t = (wayL n m E t (edg (gr Ed.til Ed.frm n m E) t s).toNat s, 0) := by unfold wayV; rw [if_neg (by simp [h1]), if_neg hnd, if_pos (by rw [Int.toNat_natCast]; exact hc), Int.toNat_natCast]
      rw [e1]
      obtain ⟨a, c, rfl, h1, h2, h3⟩ := hL.ints
      exact ⟨a, c, he, h1, h2, h3, hb⟩
theorem Tb.val {N : Int} {m : Nat} {E : Nat → Ed} {q : Nat} {K : Nat → Int} {w : World} {e : Ending} {w' : World} (h : Tb N m E q K w e w') :
    ∃ v, e = .returned (.tuple #[v, .int .i64 (tabE N m E q K)]) ∧ Tab w' w.heap.size v (if tabE N m E q K = 0 then q else 0) q (fun i j => sec (gr Ed.frm Ed.til N.toNat m E) (K i) (K j)) ∧ Below w.heap.size w w' := by
  obtain ⟨hb, h⟩ := h
  rcases h with ⟨h1, he⟩ | ⟨n, v, h1, hn, hr, hq, he, hT⟩
  · rw [if_neg h1]; exact ⟨_, he, Tab.nil _ _ _ _, hb⟩
  · subst hn
    rw [if_pos h1, Int.toNat_natCast]
    exact ⟨v, by rw [h1]; exact he, hT, hb⟩
end Go.Proofs.Ytbmlnjdfnjjjhaa
