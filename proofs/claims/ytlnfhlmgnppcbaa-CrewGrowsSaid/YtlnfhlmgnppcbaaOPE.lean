/- The arguments of the laws of layer event, opened. -/
import Derived.Test.YtlnfhlmgnppcbaaEVA
import Derived.Test.YtlnfhlmgnppcbaaWI1
import Derived.Test.YtlnfhlmgnppcbaaBC
import Derived.Test.YtlnfhlmgnppcbaaBB
namespace Go.Proofs.Ytlnfhlmgnppcbaa
open Go.RowKit Go.ChangeShapes Go.WideShapes Go.Deep
set_option linter.unusedVariables false
set_option linter.unusedSimpArgs false
section
variable {H : Type} {enc : TypeId × Value → H} {W : World} {base : Nat} {v : Value} {d : DataW H} {p : List MemPlace}
theorem nine_cases {j : Nat} (h : j < 9) : j = 0 ∨ j = 1 ∨ j = 2 ∨ j = 3 ∨ j = 4 ∨ j = 5 ∨ j = 6 ∨ j = 7 ∨ j = 8 := by omega
theorem inN_of {F : Nat → Int} (h : ∀ j, j < 9 → inI (F j)) : inN ⟨F 0, F 1, F 2, F 3, F 4, F 5, F 6, F 7, F 8⟩ := by
  intro x hx
  simp only [nums, List.mem_cons, List.not_mem_nil, or_false] at hx
  rcases hx with rfl | rfl | rfl | rfl | rfl | rfl | rfl | rfl | rfl
  · exact h 0 (by decide)
  · exact h 1 (by decide)
  · exact h 2 (by decide)
  · exact h 3 (by decide)
  · exact h 4 (by decide)
  · exact h 5 (by decide)
  · exact h 6 (by decide)
  · exact h 7 (by decide)
  · exact h 8 (by decide)
set_option maxRecDepth 8000 in
theorem open_event (hv : Value.okWide Try.prog W .any base 24 v) (h : DataW.Trod enc Try.prog W 0 (fun _ => true) true 24 v d p) : ∃ e : Ev, v = .agg (eC e) ∧ inN e := by
  obtain ⟨F, rfl, hb⟩ := open_struct_ints Try.underlying24 (by kernel_rfl) (by kernel_rfl) (fun j f hj => by
    have hl : j < 9 := (Array.getElem?_eq_some_iff.1 hj).1
    rcases nine_cases hl with rfl | rfl | rfl | rfl | rfl | rfl | rfl | rfl | rfl <;> (cases hj; exact Try.underlying3)) hv h
  exact ⟨_, rfl, inN_of hb⟩
set_option maxRecDepth 8000 in
theorem open_events (hv : Value.okWide Try.prog W .any base 30 v) (h : DataW.Trod enc Try.prog W 0 (fun _ => true) true 30 v d p) : ∃ (a : Option Addr) (m c : Nat) (F : Nat → Ev), v = .slice a m c ∧ EvSl W a m c F ∧ ∀ i, i < m → inN (F i) := by
  obtain ⟨a0, len, cap, rfl⟩ := okWide_slice Try.underlying30 hv
  obtain ⟨fuel, hf⟩ := h
  obtain ⟨a, m, c, F, hcs, hs, hb⟩ := open_rows Try.underlying30 Try.underlying24 (by kernel_rfl) (by kernel_rfl) (by decide) (fun j f hj => by
    have hl : j < 9 := (Array.getElem?_eq_some_iff.1 hj).1
    rcases nine_cases hl with rfl | rfl | rfl | rfl | rfl | rfl | rfl | rfl | rfl <;> (cases hj; exact Try.underlying3)) hf
  simp [Value.cells] at hcs
  obtain ⟨rfl, rfl, rfl⟩ := hcs
  exact ⟨_, _, _, fun i => ⟨F i 0, F i 1, F i 2, F i 3, F i 4, F i 5, F i 6, F i 7, F i 8⟩, rfl, hs.congr fun i => rfl, fun i hi => inN_of (hb i hi)⟩
theorem u8_wf {n : Int} (h : (Lit.int .u8 n).wf = true) : 0 ≤ n ∧ n ≤ 255 := by
  simpa [Lit.wf, IntKind.min, IntKind.max, IntKind.signed, IntKind.bits] using h
set_option maxRecDepth 8000 in
theorem open_bytes (hv : Value.okWide Try.prog W .any base 22 v) (h : DataW.Trod enc Try.prog W 0 (fun _ => true) true 22 v d p) : ∃ (a : Option Addr) (m c : Nat) (B : Nat → Nat), v = .slice a m c ∧ BSl W a m c B ∧ ∀ i, i < m → B i < 256 := by
  obtain ⟨a0, len, cap, rfl⟩ := okWide_slice Try.underlying22 hv
  obtain ⟨fuel, hf⟩ := h
  obtain ⟨a, m, c, F, hcs, hs, hb⟩ := open_num_slice Try.underlying22 Try.underlying5 (by kernel_rfl) hf
  simp [Value.cells] at hcs
  obtain ⟨rfl, rfl, rfl⟩ := hcs
  refine ⟨_, _, _, fun i => (F i).toNat, rfl, ⟨hs.hm, hs.hc, hs.hno, bf_len _, fun i hi => ?_⟩, fun i hi => by have := u8_wf (hb i hi); show (F i).toNat < 256; omega⟩
  have := hs.sl i hi
  have e : ([.int .u8 (F i)] : List Value) = bf (fun i => (F i).toNat) i := by
    have := u8_wf (hb i hi)
    unfold bf
    rw [Int.toNat_of_nonneg this.1]
  rw [← e]; exact this
end
end Go.Proofs.Ytlnfhlmgnppcbaa
