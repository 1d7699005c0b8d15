/- Theorems of this seat. -/
import Derived.Test.YtdpoppilnokniaaGreatDoorYTB1
import Derived.Test.YtdpoppilnokniaaGreatDoorYTKX
import Derived.Test.YtdpoppilnokniaaGreatDoorYNSA
namespace Go.Proofs.YtdpoppilnokniaaGreatDoor
set_option linter.unusedVariables false
set_option linter.unusedSimpArgs false
def qTab (f t : Int) (x : Rid) : Bool := decide (f ≤ x.s0) && (decide (x.s0 < t) && (decide (x.wh = 1) || decide (x.wh = 2)))
theorem zOk_cell {Z : Nat → Int} {zn : Nat} {size : Int} {x : Rid} (h : zOk Z zn size x) (hs : 1 ≤ size) : 0 ≤ cellOf Z zn size x := by
 have h1 := zend_in h.1
 unfold cellOf
 have := Int.mul_nonneg h1.1.1 (show 0 ≤ size by omega)
 omega
end Go.Proofs.YtdpoppilnokniaaGreatDoor
namespace Go.Proofs.YtdpoppilnokniaaGreatDoor
set_option linter.unusedVariables false
set_option linter.unusedSimpArgs false
def cnt (p : Nat → Bool) : Nat → Nat
 | 0 => 0
 | n + 1 => cnt p n + (if p n = true then 1 else 0)
theorem cnt_congr {p q : Nat → Bool} : ∀ {n : Nat}, (∀ i, i < n → p i = q i) → cnt p n = cnt q n
 | 0, _ => rfl
 | n + 1, h => by
   unfold cnt
   rw [cnt_congr (fun i hi => h i (by omega)), h n (by omega)]
theorem cnt_drop {q : Nat → Bool} {k : Nat} (hq : q k = true) : ∀ {n : Nat}, k < n → cnt (upd q k false) n + 1 = cnt q n
 | 0, h => by omega
 | n + 1, h => by
   unfold cnt
   by_cases e : k = n
   · subst e
     rw [upd_same, hq, cnt_congr (q := q) (fun i hi => upd_ne (by omega))]
     simp
   · have ih := cnt_drop hq (n := n) (by omega)
     rw [upd_ne (fun x => e x.symm)]
     omega
theorem cnt_inj {N : Nat} {g : Nat → Nat} {p : Nat → Bool} : ∀ {n : Nat} {q : Nat → Bool}, (∀ i, i < n → p i = true → g i < N ∧ q (g i) = true) → (∀ i j, i < j → j < n → p i = true → p j = true → g i ≠ g j) → cnt p n ≤ cnt q N
 | 0, _, _, _ => Nat.zero_le _
 | n + 1, q, h, inj => by
   show cnt p n + (if p n = true then 1 else 0) ≤ cnt q N
   by_cases e : p n = true
   · rw [if_pos e]
     have ⟨h1, h2⟩ := h n (by omega) e
     have d := cnt_drop h2 h1
     have ih := cnt_inj (N := N) (g := g) (p := p) (n := n) (q := upd q (g n) false) (fun i hi hp => ⟨(h i (by omega) hp).1, by rw [upd_ne (inj i n hi (by omega) hp e)]; exact (h i (by omega) hp).2⟩) (fun i j hij hj => inj i j hij (by omega))
     omega
   · rw [if_neg e]
     exact cnt_inj (fun i hi => h i (by omega)) (fun i j hij hj => inj i j hij (by omega))
theorem clo_cnt (F : Nat → Rid) : ∀ n, clo F n = cnt (fun i => (F i).op == false) n
 | 0 => rfl
 | n + 1 => by
   unfold clo cnt
   rw [clo_cnt F n]
   cases (F n).op <;> simp
theorem countP_cnt {α : Type} (F : Nat → α) (p : α → Bool) : ∀ n, (ents F n).countP p = cnt (fun i => p (F i)) n
 | 0 => rfl
 | n + 1 => by
   rw [ents_snoc, List.countP_append, List.countP_singleton, countP_cnt F p n]
   rfl
theorem clo_from {n : Nat} {F0 F : Nat → Rid} (h : From n F0 F) (hi : ∀ i j, i < j → j < n → (F i).id ≠ (F j).id) : clo F n ≤ clo F0 n := by
 classical
 have ex : ∀ i, ∃ j, i < n → (j < n ∧ F i = F0 j) := fun i => by
   by_cases q : i < n
   · obtain ⟨j, hj⟩ := h i q
     exact ⟨j, fun _ => hj⟩
   · exact ⟨0, fun hh => absurd hh q⟩
 have hg := fun i => Classical.choose_spec (ex i)
 rw [clo_cnt, clo_cnt]
 refine cnt_inj (g := fun i => Classical.choose (ex i)) (fun i hi hp => ?_) (fun i j hij hj hp hq e => ?_)
 · have h1 := hg i hi
   exact ⟨h1.1, by rw [← h1.2]; exact hp⟩
 · have h1 := (hg i (by omega)).2
   have h2 := (hg j hj).2
   have e' : Classical.choose (ex i) = Classical.choose (ex j) := e
   rw [e', ← h2] at h1
   exact hi i j hij hj (by rw [h1])
theorem cells_sum {Z : Nat → Int} {zn : Nat} {size f t each : Int} {n : Nat} {F : Nat → Rid} {L : Nat → Nat → Leg} {Q : Nat → Nat → Pau} (ok : TabOk Z zn size f t each n F L Q) (p : Nat) : sumTo (fun q => cellN Z zn size each f t F n n q) p ≤ clo F n := by
 have h1 : (fun q => cellN Z zn size each f t F n n q) = (fun q => (ents F n).countP (fun x => inTab (ents F n) each f t x && ((cellOf Z zn size x).toNat == q))) := by
   funext q
   refine List.countP_congr (fun x hx => ?_)
   obtain ⟨i, hi, rfl⟩ := mem_ents.1 hx
   simp only [Bool.and_eq_true, beq_iff_eq]
   constructor
   · intro h; exact ⟨h.1, by omega⟩
   · intro h
     have h3 := zOk_cell (ok.zones i hi h.1) ok.sz.1
     exact ⟨h.1, by omega⟩
 rw [h1]
 refine Nat.le_trans (sumTo_cells (ents F n) (fun x => inTab (ents F n) each f t x) (fun x => (cellOf Z zn size x).toNat) p) ?_
 rw [clo_cnt, ← countP_cnt F (fun x => x.op == false) n]
 refine List.countP_mono_left (fun x hx h => ?_)
 unfold inTab cntR at h
 simp only [Bool.and_eq_true] at h
 exact h.1.1
end Go.Proofs.YtdpoppilnokniaaGreatDoor
