/- Networks: ways with their times and numbers of edges; the best of them. Plain, no program. -/
import Derived.Test.YtlnfhlmgnppcbaaH5
namespace Go.Proofs.Ytlnfhlmgnppcbaa
namespace Rd
set_option linter.unusedVariables false
set_option linter.unusedSimpArgs false
set_option maxRecDepth 8000
/-- Arcs from a to b with times c. -/
structure Gr where
  n : Nat
  m : Nat
  a : Nat → Int
  b : Nat → Int
  c : Nat → Int
structure Gr.Ok (g : Gr) : Prop where
  ha : ∀ i, i < g.m → 0 ≤ g.a i ∧ g.a i < g.n
  hb : ∀ i, i < g.m → 0 ≤ g.b i ∧ g.b i < g.n
  hc : ∀ i, i < g.m → 1 ≤ g.c i ∧ g.c i ≤ 1000
/-- There is a way from src of this time and number of edges. -/
inductive Rc (g : Gr) (src : Int) : Int → Int → Int → Prop
  | nil : Rc g src src 0 0
  | snoc {s k : Int} (i : Nat) (h : Rc g src (g.a i) s k) (hi : i < g.m) : Rc g src (g.b i) (s + g.c i) (k + 1)
def leL (s k s' k' : Int) : Prop := s < s' ∨ (s = s' ∧ k ≤ k')
theorem leL.antisymm {s k s' k' : Int} (h : leL s k s' k') (h2 : leL s' k' s k) : s = s' ∧ k = k' := by unfold leL at *; omega
theorem leL.trans {s k s' k' s2 k2 : Int} (h : leL s k s' k') (h2 : leL s' k' s2 k2) : leL s k s2 k2 := by unfold leL at *; omega
theorem leL.refl (s k : Int) : leL s k s k := .inr ⟨rfl, Int.le_refl _⟩
variable {g : Gr} {src : Int}
theorem Rc.nonneg (o : g.Ok) {v s k : Int} (h : Rc g src v s k) : 0 ≤ k ∧ k ≤ s ∧ s ≤ 1000 * k := by
  induction h with
  | nil => omega
  | snoc i h hi ih => have := o.hc i hi; omega
theorem Rc.node (o : g.Ok) (hs : 0 ≤ src ∧ src < g.n) {v s k : Int} (h : Rc g src v s k) : 0 ≤ v ∧ v < g.n := by
  cases h with
  | nil => exact hs
  | snoc i h hi => exact o.hb i hi
/-- The best way's time and number of edges. -/
def Best (g : Gr) (src v s k : Int) : Prop := Rc g src v s k ∧ ∀ s' k', Rc g src v s' k' → leL s k s' k'
theorem Best.unique {v s k s' k' : Int} (h : Best g src v s k) (h' : Best g src v s' k') : s = s' ∧ k = k' := (h.2 _ _ h'.1).antisymm (h'.2 _ _ h.1)
theorem Best.home (o : g.Ok) : Best g src src 0 0 := ⟨.nil, fun s' k' h => by have := h.nonneg o; unfold leL; omega⟩
theorem Best.before {v s k : Int} (h : Best g src v s k) : (v = src ∧ s = 0 ∧ k = 0) ∨ ∃ i, i < g.m ∧ g.b i = v ∧ Best g src (g.a i) (s - g.c i) (k - 1) := by
  obtain ⟨h1, h2⟩ := h
  cases h1 with
  | nil => exact .inl ⟨rfl, rfl, rfl⟩
  | @snoc s0 k0 i h hi =>
    refine .inr ⟨i, hi, rfl, ?_, fun s' k' h' => ?_⟩
    · rw [show s0 + g.c i - g.c i = s0 by omega, show k0 + 1 - 1 = k0 by omega]; exact h
    · have := h2 _ _ (Rc.snoc i h' hi)
      unfold leL at *; omega
theorem exists_min (P : Nat → Prop) : ∀ n, P n → ∃ m, P m ∧ ∀ j, P j → m ≤ j := by
  intro n
  induction n using Nat.strongRecOn with
  | _ n ih =>
    intro h
    by_cases h2 : ∃ m, m < n ∧ P m
    · obtain ⟨m, hm, hp⟩ := h2; exact ih m hm hp
    · exact ⟨n, h, fun j hj => by
        by_cases hjn : j < n
        · exact absurd ⟨j, hjn, hj⟩ h2
        · omega⟩
theorem Rc.best (o : g.Ok) {v s k : Int} (h : Rc g src v s k) : ∃ s' k', Best g src v s' k' := by
  have hn := h.nonneg o
  obtain ⟨m, ⟨k1, h1⟩, h2⟩ := exists_min (fun j => ∃ k, Rc g src v (j : Int) k) s.toNat ⟨k, by rw [Int.toNat_of_nonneg (by omega)]; exact h⟩
  have hn1 := h1.nonneg o
  obtain ⟨q, h3, h4⟩ := exists_min (fun j => Rc g src v (m : Int) (j : Int)) k1.toNat (by rw [Int.toNat_of_nonneg (by omega)]; exact h1)
  refine ⟨m, q, h3, fun s' k' h' => ?_⟩
  have hn' := h'.nonneg o
  have a1 := h2 s'.toNat ⟨k', by rw [Int.toNat_of_nonneg (by omega)]; exact h'⟩
  by_cases e : s' = (m : Int)
  · have a2 := h4 k'.toNat (by rw [Int.toNat_of_nonneg (by omega), ← e]; exact h')
    unfold leL; omega
  · unfold leL; omega
theorem nodup_le : ∀ (n : Nat) (L : List Nat), L.Nodup → (∀ x ∈ L, x < n) → L.length ≤ n
  | 0, L, _, h => by
    cases L with
    | nil => exact Nat.le_refl _
    | cons x l => exact absurd (h x (List.mem_cons_self ..)) (by omega)
  | n + 1, L, hn, h => by
    have h1 := nodup_le n (L.erase n) (hn.erase n) (fun x hx => by
      have h2 := (hn.mem_erase_iff).1 hx
      have := h x h2.2
      have := h2.1
      omega)
    by_cases hm : n ∈ L
    · rw [List.length_erase_of_mem hm] at h1; omega
    · rw [List.erase_of_not_mem hm] at h1; omega
theorem Best.line (o : g.Ok) (hs : 0 ≤ src ∧ src < g.n) : ∀ (q : Nat) {v s k : Int}, Best g src v s k → k = (q : Int) →
    ∃ L : List Nat, L.Nodup ∧ L.length = q + 1 ∧ ∀ x ∈ L, x < g.n ∧ ∃ s' k', Best g src (x : Int) s' k' ∧ s' ≤ s
  | 0, v, s, k, h, hq => by
    have hv := h.1.node o hs
    refine ⟨[v.toNat], by simp, rfl, fun x hx => ?_⟩
    simp at hx
    subst hx
    refine ⟨by omega, s, k, ?_, Int.le_refl _⟩
    rw [Int.toNat_of_nonneg hv.1]; exact h
  | q + 1, v, s, k, h, hq => by
    have hv := h.1.node o hs
    rcases h.before with ⟨_, _, h0⟩ | ⟨i, hi, hb, h'⟩
    · omega
    · obtain ⟨L, h1, h2, h3⟩ := Best.line o hs q h' (by omega)
      have hc := o.hc i hi
      refine ⟨v.toNat :: L, List.nodup_cons.2 ⟨fun hm => ?_, h1⟩, by simp [h2], fun x hx => ?_⟩
      · obtain ⟨_, s', k', h4, h5⟩ := h3 _ hm
        rw [Int.toNat_of_nonneg hv.1] at h4
        have := (h.unique h4).1
        omega
      · rcases List.mem_cons.1 hx with rfl | hx
        · refine ⟨by omega, s, k, ?_, Int.le_refl _⟩
          rw [Int.toNat_of_nonneg hv.1]; exact h
        · obtain ⟨h4, s', k', h5, h6⟩ := h3 x hx
          exact ⟨h4, s', k', h5, by omega⟩
theorem Best.few (o : g.Ok) (hs : 0 ≤ src ∧ src < g.n) {v s k : Int} (h : Best g src v s k) : k < g.n := by
  have h0 := h.1.nonneg o
  obtain ⟨L, h1, h2, h3⟩ := Best.line o hs k.toNat h (by rw [Int.toNat_of_nonneg h0.1])
  have := nodup_le g.n L h1 (fun x hx => (h3 x hx).1)
  omega

open Classical in
noncomputable def sec (g : Gr) (src v : Int) : Int := if h : ∃ s k, Best g src v s k then h.choose else -1
open Classical in
noncomputable def edg (g : Gr) (src v : Int) : Int := if h : ∃ s k, Best g src v s k then h.choose_spec.choose else -1
def Can (g : Gr) (src v : Int) : Prop := ∃ s k, Best g src v s k
theorem Best.sec {v s k : Int} (h : Best g src v s k) : sec g src v = s ∧ edg g src v = k := by
  have h' : ∃ s k, Best g src v s k := ⟨s, k, h⟩
  unfold Rd.sec edg
  rw [dif_pos h', dif_pos h']
  exact (h'.choose_spec.choose_spec).unique h
theorem Can.best {v : Int} (h : Can g src v) : Best g src v (Rd.sec g src v) (edg g src v) := by
  obtain ⟨s, k, h⟩ := h
  rw [h.sec.1, h.sec.2]; exact h
theorem not_can {v : Int} (h : ¬ Can g src v) : Rd.sec g src v = -1 ∧ edg g src v = -1 := by
  have h' : ¬ ∃ s k, Best g src v s k := h
  unfold Rd.sec edg
  rw [dif_neg h', dif_neg h']; exact ⟨rfl, rfl⟩
theorem can_iff (o : g.Ok) {v : Int} : Can g src v ↔ ∃ s k, Rc g src v s k := ⟨fun ⟨s, k, h⟩ => ⟨s, k, h.1⟩, fun ⟨s, k, h⟩ => h.best o⟩
end Rd
end Go.Proofs.Ytlnfhlmgnppcbaa
