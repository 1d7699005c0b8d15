/- What the law on cut routes needs to know, in one place. Plain theorems, no program. -/
import Derived.Test.YtlnfhlmgnppcbaaGreatCTA
namespace Go.Proofs.YtlnfhlmgnppcbaaGreat
set_option linter.unusedVariables false
set_option linter.unusedSimpArgs false
open Rd
/-- The states of the walk over the needs that remain. -/
structure CutP (g : Ng) (t : Tk) (R : Nat → Int) (n k d m : Nat) (now : Int) (KV : Nat → Int) (P : Nat → Cs) (L : Nat → Nat) : Prop where
  p0 : P 0 = ⟨atK g t R d, loadK g R d, now⟩
  l0 : L 0 = d
  look : ∀ j, d + j < k → (L j < m ∧ okB g t (P j) (R (d + j)) = (KV (L j) == R (d + j))) ∨ (m ≤ L j ∧ okB g t (P j) (R (d + j)) = false)
  yes : ∀ j, d + j < k → okB g t (P j) (R (d + j)) = true → P (j + 1) = servO g (P j) (R (d + j)) ∧ L (j + 1) = L j + 1
  no : ∀ j, d + j < k → okB g t (P j) (R (d + j)) = false → P (j + 1) = P j ∧ L (j + 1) = L j
  fin : L (k - d) = m
  bd : ∀ j, d + j ≤ k → (0 ≤ (P j).at' ∧ (P j).at' < n) ∧ (0 ≤ (P j).load ∧ (P j).load ≤ 32) ∧ (0 ≤ (P j).now ∧ (P j).now ≤ 86400) ∧ L j ≤ d + j
  same : ∀ i, i < d → KV i = R i
  home : 0 ≤ g.S (P (k - d)).at' t.dep ∧ (P (k - d)).now + g.S (P (k - d)).at' t.dep + (P (k - d)).load * g.h ≤ t.til
  le : d ≤ m ∧ m ≤ k ∧ d ≤ k
theorem cutP_of {g : Ng} {r : Int} {R : Nat → Int} {k : Nat} {done now : Int} (h : cutE g r R k done now = 0) :
    ∃ n d : Nat, done = (d : Int) ∧ d ≤ k ∧ WOk g n r R k ∧ walkE g r R k = 0 ∧ 0 ≤ now ∧ now ≤ 86400 ∧ (restE g r R k done now = 0 ↔ (cutL g r R k done now).length = k) ∧
      CutP g (g.T r.toNat) R n k d (cutL g r R k done now).length now (fun i => (cutL g r R k done now).getD i 0) (fun j => (cutK g (g.T r.toNat) R d now j).1) (fun j => (cutK g (g.T r.toNat) R d now j).2.length) := by
  obtain ⟨hl, hf⟩ := cutE_ok h
  obtain ⟨n, d, hw, hz, rfl, hd, hn0, hn1, _⟩ := late_ok hl
  have ed : ((d : Int)).toNat = d := Int.toNat_natCast _
  rw [ed] at hf
  have eL : cutL g r R k (d : Int) now = (cutK g (g.T r.toNat) R d now (k - d)).2 := by unfold cutL; rw [ed]
  have hI : ∀ j, d + j ≤ k → CutI g n r R k d j (cutK g (g.T r.toNat) R d now j) := fun j hj => cut_inv hw hd hn0 hf hj
  refine ⟨n, d, rfl, hd, hw, hz, hn0, hn1, cut_rest hw hd hl hf, ?_⟩
  rw [eL]
  refine ⟨rfl, by simp [cutK], fun j hj => ?_, fun j hj hb => ?_, fun j hj hb => ?_, rfl, fun j hj => ?_, fun i hi => ?_, ?_, ?_⟩
  · have h1 := cut_next (g := g) (t := g.T r.toNat) (now := now) hw.ro.one hj (m := k - d - (j + 1)) (by omega)
    rw [show j + 1 + (k - d - (j + 1)) = k - d by omega] at h1
    generalize (cutK g (g.T r.toNat) R d now (k - d)).2 = KL at *
    generalize (cutK g (g.T r.toNat) R d now j).2.length = x at *
    by_cases hx : x < KL.length
    · refine .inl ⟨hx, ?_⟩
      rw [h1, decide_eq_true hx, Bool.true_and]
      have e : KL.getD x 0 = KL[x] := by simp [List.getD, hx]
      rw [e, List.getElem?_eq_getElem hx, Bool.eq_iff_iff, decide_eq_true_iff, beq_iff_eq, Option.some_inj]
    · refine .inr ⟨by omega, ?_⟩
      rw [h1, decide_eq_false hx, Bool.false_and]
  · have e : cutK g (g.T r.toNat) R d now (j + 1) = (servO g (cutK g (g.T r.toNat) R d now j).1 (R (d + j)), (cutK g (g.T r.toNat) R d now j).2 ++ [R (d + j)]) := by
      rw [cutK_succ]; unfold cutS; rw [if_pos hb]
    exact ⟨by rw [e], by rw [e]; simp⟩
  · have e : cutK g (g.T r.toNat) R d now (j + 1) = cutK g (g.T r.toNat) R d now j := by
      rw [cutK_succ]; unfold cutS; rw [if_neg (by rw [hb]; simp)]
    exact ⟨by rw [e], by rw [e]⟩
  · have h1 := hI j hj
    obtain ⟨i, hi, hat⟩ := h1.at'
    have h2 := hw.ro.at (i := i) (by omega)
    have h3 := hw.ro.tk
    have h4 := cut_now_le hw hd hn0 hf hj
    have h5 := h1.load
    exact ⟨by rw [hat]; exact h2, ⟨h5.1, by omega⟩, h4, h1.len.2⟩
  · have h1 := cut_begin g (g.T r.toNat) R d now (k - d) hi
    simp [List.getD, h1]
  · have h1 := (hI (k - d) (by omega)).fits
    unfold fitsB at h1
    exact of_decide_eq_true h1
  · have h1 := (hI (k - d) (by omega)).len
    exact ⟨h1.1, by omega, hd⟩
theorem night_of_walk {g : Ng} {r : Int} {R : Nat → Int} {k : Nat} (h : walkE g r R k = 0) : nightE g = 0 := by
  unfold walkE at h
  split at h
  · rename_i h1; exact absurd h h1
  rename_i h1
  exact Decidable.not_not.1 h1
theorem cutP_ex {g : Ng} {r : Int} {R : Nat → Int} {k : Nat} {done now : Int} (h : cutE g r R k done now = 0) :
    ∃ (n d q m : Nat) (KV : Nat → Int) (P : Nat → Cs) (L : Nat → Nat), done = (d : Int) ∧ r = (q : Int) ∧ q < g.tn ∧ (cutL g r R k done now).length = m ∧ (fun i => (cutL g r R k done now).getD i 0) = KV ∧ k ≤ 16 ∧ NOk g n ∧ roadE g.N g.em g.E = 0 ∧ walkE g r R k = 0 ∧ 0 ≤ now ∧ now ≤ 86400 ∧
      (restE g r R k done now = 0 ↔ m = k) ∧ CutP g (g.T q) R n k d m now KV P L ∧ (0 ≤ (g.T q).dep ∧ (g.T q).dep < n) ∧ (∀ i, i < k → 0 ≤ R i ∧ R i < g.nn) ∧ (0 ≤ (g.T q).til ∧ (g.T q).til ≤ 86400) ∧
      (∀ i, d = i + 1 → atK g (g.T q) R d = (g.nd (R i)).node ∧ (visK g (g.T q) R i).load = loadK g R d) ∧ (d = 0 → atK g (g.T q) R d = (g.T q).dep ∧ loadK g R d = 0) := by
  obtain ⟨n, d, hd0, hd, hw, hz, hn0, hn1, hr, hP⟩ := cutP_of h
  have hr0 := hw.ro.r0
  have hr1 := hw.ro.r1
  obtain ⟨q, rfl⟩ := Int.eq_ofNat_of_zero_le hr0
  have e5 : g.T ((q : Int)).toNat = g.T q := by rw [Int.toNat_natCast]
  have ht := hw.ro.tk
  rw [e5] at hP ht
  obtain ⟨n', hn', hroad⟩ := nok_of (night_of_walk hz)
  refine ⟨n, d, q, _, _, _, _, hd0, rfl, by omega, rfl, rfl, hw.ro.k16, hw.ro.ng, hroad, hz, hn0, hn1, hr, hP, ht.1, hw.ro.needs, ⟨by omega, ht.2.2.2.2⟩, fun i hi => ?_, fun hi => ?_⟩
  · subst hi; exact ⟨rfl, rfl⟩
  · subst hi; exact ⟨rfl, rfl⟩
end Go.Proofs.YtlnfhlmgnppcbaaGreat
