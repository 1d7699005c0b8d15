/- Theorems of this seat. -/
import Derived.Test.YtdpoppilnokniaaGreatDoorYCHB
import Derived.Test.YtdpoppilnokniaaGreatDoorYPVL
import Derived.Test.YtdpoppilnokniaaGreatDoorYCT2
import Derived.Test.YtdpoppilnokniaaGreatDoorYFLW
namespace Go.Proofs.YtdpoppilnokniaaGreatDoor
open Go.RowKit Go.ChangeShapes Go.WideShapes Go.Deep
set_option linter.unusedVariables false
set_option linter.unusedSimpArgs false
set_option linter.unnecessarySimpa false
structure LeftR (F : Nat → Rid) (k : Int × Int) (j m : Nat) (G : Nat → Nat) : Prop where
 le : m ≤ j
 lt : ∀ i, i < m → G i < j
 mono : ∀ i l, i < l → l < m → G i < G l
 ents : ents (fun i => F (G i)) m = (ents F j).filter (fun y => keyR y != k)
theorem LeftR.keep {F : Nat → Rid} {k : Int × Int} {j m : Nat} {G : Nat → Nat} (h : LeftR F k j m G) (hk : keyR (F j) ≠ k) : LeftR F k (j + 1) (m + 1) (upd G m j) :=
 ⟨by have := h.le; omega, fun i hi => by
   by_cases e : i = m
   · subst e; rw [upd_same]; omega
   · rw [upd_ne e]; have := h.lt i (by omega); omega, fun i l hil hl => by
   by_cases e : l = m
   · subst e; rw [upd_same, upd_ne (by omega)]; exact h.lt i hil
   · rw [upd_ne e, upd_ne (by omega)]; exact h.mono i l hil (by omega), by
   rw [ents_snoc, ents_snoc, List.filter_append, ← h.ents]
   congr 1
   · exact ents_congr (fun i hi => by rw [upd_ne (by omega)])
   · rw [upd_same]; simp [hk]⟩
theorem LeftR.drop {F : Nat → Rid} {k : Int × Int} {j m : Nat} {G : Nat → Nat} (h : LeftR F k j m G) (hk : keyR (F j) = k) : LeftR F k (j + 1) m G :=
 ⟨by have := h.le; omega, fun i hi => by have := h.lt i hi; omega, h.mono, by
   rw [ents_snoc, List.filter_append, ← h.ents]
   simp [hk]⟩
def powE (n : Int) : Nat → Int
 | 0 => 1
 | k + 1 => powE n k * n
end Go.Proofs.YtdpoppilnokniaaGreatDoor
