/- What remains of a route, and what is kept of it. Plain theorems, no program. -/
import Derived.Test.YtlnfhlmgnppcbaaTRP
namespace Go.Proofs.Ytlnfhlmgnppcbaa
set_option linter.unusedVariables false
set_option linter.unusedSimpArgs false
open Rd
section
variable {g : Ng} {n : Nat} {r : Int} {R : Nat → Int} {k : Nat}
theorem WOk.fwd (h : WOk g n r R k) (i : Nat) : ∀ {j : Nat}, i ≤ j → j ≤ k → 0 ≤ g.S (atK g (g.T r.toNat) R i) (atK g (g.T r.toNat) R j)
  | 0, hij, _ => by
    obtain rfl : i = 0 := by omega
    rw [h.ro.ng.S_self]; omega
  | j + 1, hij, hj => by
    by_cases e : i = j + 1
    · subst e; rw [h.ro.ng.S_self]; omega
    · exact (h.ro.ng.S_tri (h.fwd i (j := j) (by omega) (by omega)) (h.step j (by omega)).1).1
theorem WOk.all (h : WOk g n r R k) {i j : Nat} (hi : i ≤ k) (hj : j ≤ k) : 0 ≤ g.S (atK g (g.T r.toNat) R i) (atK g (g.T r.toNat) R j) :=
  (h.ro.ng.S_tri (h.ro.ng.S_tri (h.fwd i hi (Nat.le_refl _)) h.home).1 (h.fwd 0 (Nat.zero_le _) hj)).1
theorem WOk.home_all (h : WOk g n r R k) {i : Nat} (hi : i ≤ k) : 0 ≤ g.S (atK g (g.T r.toNat) R i) (g.T r.toNat).dep := h.all hi (Nat.zero_le _)
theorem WOk.load_all (h : WOk g n r R k) {i : Nat} (hi : i ≤ k) : 0 ≤ loadK g R i ∧ loadK g R i ≤ (g.T r.toNat).cap := by
  cases i with
  | zero => have := h.ro.tk; simp [loadK]; omega
  | succ i => exact (h.step i (by omega)).2
/-- The moment at which the truck is home if it drives home now. -/
noncomputable def hom (g : Ng) (t : Tk) (R : Nat → Int) (i : Nat) : Int := backK g t R i
theorem WOk.back_step (h : WOk g n r R k) {i : Nat} (hi : i < k) : backK g (g.T r.toNat) R i ≤ backK g (g.T r.toNat) R (i + 1) := by
  have h1 := h.home_all (i := i + 1) (by omega)
  have h2 := (h.ro.ng.S_tri (h.step i hi).1 h1).2
  have h0 := h.ro.ng.h0
  have e1 : nowK g (g.T r.toNat) R (i + 1) = nowK g (g.T r.toNat) R i + g.S (atK g (g.T r.toNat) R i) (g.nd (R i)).node + g.work (R i) := rfl
  have e2 : loadK g R (i + 1) = loadK g R i + (g.nd (R i)).mv := rfl
  have e3 : atK g (g.T r.toNat) R (i + 1) = (g.nd (R i)).node := rfl
  have e4 : (loadK g R i) * g.h ≤ loadK g R (i + 1) * g.h + g.work (R i) := by
    rw [e2, Int.add_mul]
    have : 0 ≤ ((g.nd (R i)).mv + max (g.nd (R i)).mv (-(g.nd (R i)).mv)) * g.h := Int.mul_nonneg (by omega) h0
    rw [Int.add_mul] at this
    unfold Ng.work; omega
  unfold backK
  rw [e3] at h1 ⊢
  omega
theorem WOk.back_le (h : WOk g n r R k) : ∀ {j : Nat} (i : Nat), i ≤ j → j ≤ k → backK g (g.T r.toNat) R i ≤ backK g (g.T r.toNat) R j
  | 0, i, hij, _ => by
    obtain rfl : i = 0 := by omega
    exact Int.le_refl _
  | j + 1, i, hij, hj => by
    by_cases e : i = j + 1
    · subst e; exact Int.le_refl _
    · exact Int.le_trans (h.back_le (j := j) i (by omega) (by omega)) (h.back_step (by omega))
theorem WOk.now (h : WOk g n r R k) : ∀ {i : Nat}, i ≤ k → 0 ≤ nowK g (g.T r.toNat) R i ∧ nowK g (g.T r.toNat) R i ≤ 86400
  | i, hi => by
    have h1 := h.home_all hi
    have h2 := h.back_le i hi (Nat.le_refl _)
    have h3 := h.back
    have h4 := h.ro.tk
    have h5 := (h.load_all hi).1
    have h6 := Int.mul_nonneg h5 h.ro.ng.h0
    have h7 : 0 ≤ nowK g (g.T r.toNat) R i := by
      clear h1 h2 h3 h5 h6
      induction i with
      | zero => exact h4.2.2.1
      | succ i ih =>
        have := ih (by omega)
        have := (h.step i (by omega)).1
        have := (h.ro.work (i := i) (by omega)).1
        unfold nowK; omega
    unfold backK at h2 h3
    omega
end
/-- The error of a route under way. -/
noncomputable def lateE (g : Ng) (r : Int) (R : Nat → Int) (k : Nat) (done now : Int) : Int :=
  if walkE g r R k ≠ 0 then walkE g r R k else if done < 0 ∨ (k : Int) < done ∨ now < 0 ∨ 86400 < now then 1 else if now < nowK g (g.T r.toNat) R done.toNat then 18 else 0
noncomputable def delayK (g : Ng) (r : Int) (R : Nat → Int) (done now : Int) : Int := now - nowK g (g.T r.toNat) R done.toNat
noncomputable def restE (g : Ng) (r : Int) (R : Nat → Int) (k : Nat) (done now : Int) : Int :=
  if lateE g r R k done now ≠ 0 then lateE g r R k done now else if (g.T r.toNat).til < backK g (g.T r.toNat) R k + delayK g r R done now then 25 else 0
/-- Where a truck is while a route is cut. -/
structure Cs where
  at' : Int
  load : Int
  now : Int
noncomputable def servO (g : Ng) (p : Cs) (i : Int) : Cs := ⟨(g.nd i).node, p.load + (g.nd i).mv, p.now + g.S p.at' (g.nd i).node + g.work i⟩
noncomputable def servB (g : Ng) (t : Tk) (p : Cs) (i : Int) : Bool := decide (0 ≤ g.S p.at' (g.nd i).node ∧ 0 ≤ p.load + (g.nd i).mv ∧ p.load + (g.nd i).mv ≤ t.cap)
noncomputable def fitsB (g : Ng) (t : Tk) (p : Cs) : Bool := decide (0 ≤ g.S p.at' t.dep ∧ p.now + g.S p.at' t.dep + p.load * g.h ≤ t.til)
noncomputable def okB (g : Ng) (t : Tk) (p : Cs) (i : Int) : Bool := servB g t p i && fitsB g t (servO g p i)
noncomputable def cutS (g : Ng) (t : Tk) (a : Cs × List Int) (i : Int) : Cs × List Int := if okB g t a.1 i = true then (servO g a.1 i, a.2 ++ [i]) else a
/-- Behind the first j of the needs that remain. -/
noncomputable def cutK (g : Ng) (t : Tk) (R : Nat → Int) (done : Nat) (now : Int) : Nat → Cs × List Int
  | 0 => (⟨atK g t R done, loadK g R done, now⟩, (List.range done).map R)
  | j + 1 => cutS g t (cutK g t R done now j) (R (done + j))
noncomputable def cutE (g : Ng) (r : Int) (R : Nat → Int) (k : Nat) (done now : Int) : Int :=
  if lateE g r R k done now ≠ 0 then lateE g r R k done now else if fitsB g (g.T r.toNat) ⟨atK g (g.T r.toNat) R done.toNat, loadK g R done.toNat, now⟩ = false then 25 else 0
noncomputable def cutL (g : Ng) (r : Int) (R : Nat → Int) (k : Nat) (done now : Int) : List Int := (cutK g (g.T r.toNat) R done.toNat now (k - done.toNat)).2
theorem late_ok {g : Ng} {r : Int} {R : Nat → Int} {k : Nat} {done now : Int} (h : lateE g r R k done now = 0) : ∃ (n d : Nat), WOk g n r R k ∧ walkE g r R k = 0 ∧ done = (d : Int) ∧ d ≤ k ∧ 0 ≤ now ∧ now ≤ 86400 ∧ nowK g (g.T r.toNat) R d ≤ now := by
  unfold lateE at h
  split at h
  · rename_i h1; exact absurd h h1
  rename_i h1
  split at h
  · simp at h
  split at h
  · simp at h
  rename_i h2 h3
  have h1 := Decidable.not_not.1 h1
  obtain ⟨n, hw⟩ := wok_of h1
  exact ⟨n, done.toNat, hw, h1, by omega, by omega, by omega, by omega, by omega⟩
section
variable {g : Ng} {n : Nat} {r : Int} {R : Nat → Int} {k d : Nat} {now : Int}
/-- What the states of a cut are like. -/
structure CutI (g : Ng) (n : Nat) (r : Int) (R : Nat → Int) (k d j : Nat) (a : Cs × List Int) : Prop where
  at' : ∃ i, i ≤ d + j ∧ a.1.at' = atK g (g.T r.toNat) R i
  load : 0 ≤ a.1.load ∧ a.1.load ≤ (g.T r.toNat).cap
  now0 : 0 ≤ a.1.now
  fits : fitsB g (g.T r.toNat) a.1 = true
  len : d ≤ a.2.length ∧ a.2.length ≤ d + j
theorem cut_inv (h : WOk g n r R k) (hd : d ≤ k) (hn : 0 ≤ now) (hf : fitsB g (g.T r.toNat) ⟨atK g (g.T r.toNat) R d, loadK g R d, now⟩ = true) : ∀ {j : Nat}, d + j ≤ k → CutI g n r R k d j (cutK g (g.T r.toNat) R d now j)
  | 0, _ => ⟨⟨d, by omega, rfl⟩, h.load_all hd, hn, hf, by simp [cutK]⟩
  | j + 1, hj => by
    have ih := cut_inv h hd hn hf (j := j) (by omega)
    unfold cutK cutS
    obtain ⟨i, hi, hat⟩ := ih.at'
    split
    · rename_i hb
      unfold okB at hb
      rw [Bool.and_eq_true] at hb
      have h1 := of_decide_eq_true hb.1
      have h2 := h.all (i := i) (j := d + j + 1) (by omega) (by omega)
      have h3 := (h.ro.work (i := d + j) (by omega)).1
      refine ⟨⟨d + j + 1, by omega, rfl⟩, ⟨h1.2.1, h1.2.2⟩, ?_, hb.2, by have := ih.len; simp; omega⟩
      have := ih.now0
      have := h1.1
      show 0 ≤ _ + _ + _
      omega
    · exact ⟨⟨i, by omega, hat⟩, ih.load, ih.now0, ih.fits, by have := ih.len; omega⟩
/-- As the reference says it: ways are not asked for. -/
theorem ok_ref (h : WOk g n r R k) {j : Nat} (hj : j < k) {p : Cs} {i : Nat} (hi : i ≤ k) (hat : p.at' = atK g (g.T r.toNat) R i) :
    okB g (g.T r.toNat) p (R j) = decide (0 ≤ p.load + (g.nd (R j)).mv ∧ p.load + (g.nd (R j)).mv ≤ (g.T r.toNat).cap ∧ p.now + g.S p.at' (g.nd (R j)).node + g.work (R j) + g.S (g.nd (R j)).node (g.T r.toNat).dep + (p.load + (g.nd (R j)).mv) * g.h ≤ (g.T r.toNat).til) := by
  have h1 := h.all (i := i) (j := j + 1) hi (by omega)
  have h2 := h.home_all (i := j + 1) (by omega)
  rw [← hat] at h1
  have e3 : atK g (g.T r.toNat) R (j + 1) = (g.nd (R j)).node := rfl
  rw [e3] at h1 h2
  unfold okB servB fitsB servO
  dsimp only
  rw [Bool.eq_iff_iff, Bool.and_eq_true, decide_eq_true_iff, decide_eq_true_iff, decide_eq_true_iff]
  constructor
  · rintro ⟨⟨_, a, b⟩, _, c⟩; exact ⟨a, b, c⟩
  · rintro ⟨a, b, c⟩; exact ⟨⟨h1, a, b⟩, h2, c⟩
theorem fits_ref (h : WOk g n r R k) {p : Cs} {i : Nat} (hi : i ≤ k) (hat : p.at' = atK g (g.T r.toNat) R i) : fitsB g (g.T r.toNat) p = decide (p.now + g.S p.at' (g.T r.toNat).dep + p.load * g.h ≤ (g.T r.toNat).til) := by
  have h2 := h.home_all hi
  rw [← hat] at h2
  unfold fitsB
  rw [decide_eq_decide]
  exact ⟨fun h => h.2, fun h => ⟨h2, h⟩⟩
theorem cut_le (g : Ng) (t : Tk) (R : Nat → Int) (d : Nat) (now : Int) : ∀ (j : Nat), (cutK g t R d now j).2.length ≤ d + j
  | 0 => by simp [cutK]
  | j + 1 => by
    have := cut_le g t R d now j
    unfold cutK cutS
    split
    · simp; omega
    · omega
/-- All needs are kept if and only if the truck is back in time. -/
theorem cut_all (h : WOk g n r R k) (hd : d ≤ k) (hb : backK g (g.T r.toNat) R k + (now - nowK g (g.T r.toNat) R d) ≤ (g.T r.toNat).til) : ∀ {j : Nat}, d + j ≤ k → cutK g (g.T r.toNat) R d now j = (⟨atK g (g.T r.toNat) R (d + j), loadK g R (d + j), nowK g (g.T r.toNat) R (d + j) + (now - nowK g (g.T r.toNat) R d)⟩, (List.range (d + j)).map R)
  | 0, _ => by simp [cutK]; omega
  | j + 1, hj => by
    unfold cutK
    rw [cut_all h hd hb (j := j) (by omega)]
    have h1 := h.step (d + j) (by omega)
    have h2 := h.home_all (i := d + j + 1) (by omega)
    have h3 := h.back_le (j := k) (d + j + 1) (by omega) (Nat.le_refl _)
    have e1 : nowK g (g.T r.toNat) R (d + j + 1) = nowK g (g.T r.toNat) R (d + j) + g.S (atK g (g.T r.toNat) R (d + j)) (g.nd (R (d + j))).node + g.work (R (d + j)) := rfl
    have e2 : loadK g R (d + j + 1) = loadK g R (d + j) + (g.nd (R (d + j))).mv := rfl
    have e3 : atK g (g.T r.toNat) R (d + j + 1) = (g.nd (R (d + j))).node := rfl
    unfold backK at h3 hb
    rw [e3] at h2 h3
    rw [e2] at h1 h3
    unfold cutS okB servB fitsB servO
    dsimp only
    rw [if_pos (by
      rw [Bool.and_eq_true, decide_eq_true_iff, decide_eq_true_iff]
      refine ⟨⟨h1.1, h1.2.1, h1.2.2⟩, h2, ?_⟩
      omega)]
    rw [← Nat.add_assoc, e1, e2, e3, List.range_succ, List.map_append]
    congr 2
    omega
theorem cut_kept (h : WOk g n r R k) (hd : d ≤ k) (hf : fitsB g (g.T r.toNat) ⟨atK g (g.T r.toNat) R d, loadK g R d, now⟩ = true) : ∀ {j : Nat}, d + j ≤ k → (cutK g (g.T r.toNat) R d now j).2.length = d + j →
    (cutK g (g.T r.toNat) R d now j).1 = ⟨atK g (g.T r.toNat) R (d + j), loadK g R (d + j), nowK g (g.T r.toNat) R (d + j) + (now - nowK g (g.T r.toNat) R d)⟩ ∧ fitsB g (g.T r.toNat) (cutK g (g.T r.toNat) R d now j).1 = true
  | 0, _, _ => by
    refine ⟨?_, hf⟩
    simp [cutK]; omega
  | j + 1, hj, hl => by
    have hle := cut_le g (g.T r.toNat) R d now j
    unfold cutK cutS at hl ⊢
    split
    · rename_i hb
      rw [if_pos hb] at hl
      have := (cut_kept h hd hf (j := j) (by omega) (by simp at hl; omega)).1
      unfold okB at hb
      rw [Bool.and_eq_true] at hb
      refine ⟨?_, hb.2⟩
      dsimp only
      rw [this]
      have e1 : nowK g (g.T r.toNat) R (d + j + 1) = nowK g (g.T r.toNat) R (d + j) + g.S (atK g (g.T r.toNat) R (d + j)) (g.nd (R (d + j))).node + g.work (R (d + j)) := rfl
      unfold servO
      dsimp only
      rw [← Nat.add_assoc, e1]
      congr 1
      omega
    · rename_i hb
      rw [if_neg hb] at hl
      omega
end
end Go.Proofs.Ytlnfhlmgnppcbaa
