/- General theorems of this seat, in one text. -/
import Derived.Test.YtlnfhlmgnppcbaaGreatZEVA
import Derived.Test.YtlnfhlmgnppcbaaGreatZBB
import Derived.Test.YtlnfhlmgnppcbaaGreatZCMA
import Derived.Test.YtlnfhlmgnppcbaaGreatZTKA
import Derived.Test.YtlnfhlmgnppcbaaGreatZCTA
namespace Go.Proofs.YtlnfhlmgnppcbaaGreat
open Go.RowKit Go.ChangeShapes Go.WideShapes Go.Deep
set_option linter.unusedVariables false
set_option linter.unusedSimpArgs false
section
variable {H : Type} {enc : TypeId × Value → H} {W : World} {base : Nat} {v : Value} {d : DataW H} {p : List MemPlace}
theorem nine_cases {j : Nat} (h : j < 9) : j = 0 ∨ j = 1 ∨ j = 2 ∨ j = 3 ∨ j = 4 ∨ j = 5 ∨ j = 6 ∨ j = 7 ∨ j = 8 := by omega
theorem inN_of {F : Nat → Int} (h : ∀ j, j < 9 → inI (F j)) : inN ⟨F 0, F 1, F 2, F 3, F 4, F 5, F 6, F 7, F 8⟩ := by
  intro x hx
  simp only [nums, List.mem_cons, List.not_mem_nil, or_false] at hx
  rcases hx with rfl | rfl | rfl | rfl | rfl | rfl | rfl | rfl | rfl
  · exact h 0 (by decide)
  · exact h 1 (by decide)
  · exact h 2 (by decide)
  · exact h 3 (by decide)
  · exact h 4 (by decide)
  · exact h 5 (by decide)
  · exact h 6 (by decide)
  · exact h 7 (by decide)
  · exact h 8 (by decide)
set_option maxRecDepth 8000 in
theorem open_events (hv : Value.okWide Tryz.prog W .any base 25 v) (h : DataW.Trod enc Tryz.prog W 0 (fun _ => true) true 25 v d p) : ∃ (a : Option Addr) (m c : Nat) (F : Nat → Ev), v = .slice a m c ∧ EvSl W a m c F ∧ ∀ i, i < m → inN (F i) := by
  obtain ⟨a0, len, cap, rfl⟩ := okWide_slice Tryz.underlying25 hv
  obtain ⟨fuel, hf⟩ := h
  obtain ⟨a, m, c, F, hcs, hs, hb⟩ := open_rows Tryz.underlying25 Tryz.underlying81 (by kernel_rfl) (by kernel_rfl) (by decide) (fun j f hj => by
    have hl : j < 9 := (Array.getElem?_eq_some_iff.1 hj).1
    rcases nine_cases hl with rfl | rfl | rfl | rfl | rfl | rfl | rfl | rfl | rfl <;> (cases hj; exact Tryz.underlying3)) hf
  simp [Value.cells] at hcs
  obtain ⟨rfl, rfl, rfl⟩ := hcs
  exact ⟨_, _, _, fun i => ⟨F i 0, F i 1, F i 2, F i 3, F i 4, F i 5, F i 6, F i 7, F i 8⟩, rfl, hs.congr fun i => rfl, fun i hi => inN_of (hb i hi)⟩
end
end Go.Proofs.YtlnfhlmgnppcbaaGreat
namespace Go.Proofs.YtlnfhlmgnppcbaaGreat
open Go.RowKit Go.ChangeShapes Go.WideShapes Go.Deep
set_option linter.unusedVariables false
set_option linter.unusedSimpArgs false
set_option maxRecDepth 8000
section
variable {H : Type} {enc : TypeId × Value → H} {W : World} {base : Nat} {v : Value} {d : DataW H} {p : List MemPlace}
end
end Go.Proofs.YtlnfhlmgnppcbaaGreat
