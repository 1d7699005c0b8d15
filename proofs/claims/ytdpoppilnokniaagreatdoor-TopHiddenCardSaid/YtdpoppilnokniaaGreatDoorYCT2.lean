/- Theorems of this seat. -/
import Derived.Test.YtdpoppilnokniaaGreatDoorYCTX
import Derived.Test.YtdpoppilnokniaaGreatDoorYKC
namespace Go.Proofs.YtdpoppilnokniaaGreatDoor
open Go.RowKit Go.ChangeShapes Go.WideShapes Go.Deep Go.Maps
set_option linter.unusedVariables false
set_option linter.unusedSimpArgs false
theorem ents_snoc {α : Type} (f : Nat → α) (n : Nat) : ents f (n + 1) = ents f n ++ [f n] := by simp [ents, List.range_succ]
def seenR (F : Nat → Rid) (G : Nat → Nat) (k : Int × Int) (j : Nat) : Nat := (ents (fun i => F (G i)) j).countP (fun y => (y.op == false) && (keyR y == k))
theorem seen_next (F : Nat → Rid) (G : Nat → Nat) (k : Int × Int) (j : Nat) : seenR F G k (j + 1) = seenR F G k j + (if (F (G j)).op = false ∧ keyR (F (G j)) = k then 1 else 0) := by
 unfold seenR
 rw [ents_snoc, List.countP_append]
 congr 1
 simp [List.countP_cons]
theorem seen_rank {F : Nat → Rid} {G : Nat → Nat} {n : Nat} (hp : (ents G n).Perm (List.range n)) (hs : ∀ i j, i < j → j < n → befR (F (G j)) (F (G i)) = false) (hi : ∀ i j, i < j → j < n → (F i).id ≠ (F j).id) {j : Nat} (hj : j < n) :
   seenR F G (keyR (F (G j))) j = rankR (ents F n) (F (G j)) := by
 have hnd : (ents G n).Nodup := hp.nodup_iff.2 List.nodup_range
 have hlt : ∀ i, i < n → G i < n := fun i hi => List.mem_range.1 (hp.mem_iff.1 (mem_ents.2 ⟨i, hi, rfl⟩))
 have hne : ∀ i l, i < l → l < n → G i ≠ G l := fun i l hil hl e => by
   have := List.pairwise_iff_getElem.1 hnd i l (by rw [ents_len]; omega) (by rw [ents_len]; omega) hil
   simp only [ents, List.getElem_map, List.getElem_range] at this
   exact this e
 have hids : ∀ a b, a < n → b < n → a ≠ b → (F a).id ≠ (F b).id := fun a b ha hb hab => by
   rcases Nat.lt_or_gt_of_ne hab with q | q
   · exact hi a b q hb
   · exact fun e => hi b a q ha e.symm
 have hperm : (ents (fun i => F (G i)) n).Perm (ents F n) := by
   have := hp.map F
   simp only [ents, List.map_map] at this
   exact this
 unfold rankR
 rw [← hperm.countP_eq]
 have key : ∀ m, j + m ≤ n → (ents (fun i => F (G i)) (j + m)).countP (fun y => (y.op == false) && (keyR y == keyR (F (G j))) && befR y (F (G j))) = seenR F G (keyR (F (G j))) j := by
   intro m
   induction m with
   | zero =>
     intro _
     unfold seenR
     refine List.countP_congr (fun y hy => ?_)
     obtain ⟨i, hij, rfl⟩ := mem_ents.1 hy
     have hb : befR (F (G i)) (F (G j)) = true := by
       rcases befR_tot (x := F (G i)) (y := F (G j)) (hids _ _ (hlt i (by omega)) (hlt j hj) (hne i j hij hj)) with b | b
       · exact b
       · rw [hs i j hij hj] at b; cases b
     rw [hb, Bool.and_true]
   | succ m ih =>
     intro hm
     have hf : befR (F (G (j + m))) (F (G j)) = false := by
       rcases Nat.eq_zero_or_pos m with q | q
       · subst q; exact befR_irr _
       · exact hs j (j + m) (by omega) (by omega)
     rw [← Nat.add_assoc, ents_snoc, List.countP_append, ih (by omega)]
     simp [List.countP_cons, hf]
 have := key (n - j) (by omega)
 rw [show j + (n - j) = n by omega] at this
 exact this.symm
def takenR (F : Nat → Rid) (G : Nat → Nat) (each : Int) (k : Int × Int) (j : Nat) : Int := min each (seenR F G k j)
theorem taken_lt {F : Nat → Rid} {G : Nat → Nat} {each : Int} {k : Int × Int} {j : Nat} : takenR F G each k j < each ↔ (seenR F G k j : Int) < each := by unfold takenR; omega
theorem perm_ne {G : Nat → Nat} {n : Nat} (hp : (ents G n).Perm (List.range n)) {i l : Nat} (hil : i < l) (hl : l < n) : G i ≠ G l := fun e => by
 have hnd : (ents G n).Nodup := hp.nodup_iff.2 List.nodup_range
 have := List.pairwise_iff_getElem.1 hnd i l (by rw [ents_len]; omega) (by rw [ents_len]; omega) hil
 simp only [ents, List.getElem_map, List.getElem_range] at this
 exact this e
end Go.Proofs.YtdpoppilnokniaaGreatDoor
