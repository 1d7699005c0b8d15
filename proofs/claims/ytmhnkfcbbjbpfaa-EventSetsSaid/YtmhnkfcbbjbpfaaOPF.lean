/- A fleet, a report, synchronizations: opened. -/
import Derived.Test.YtmhnkfcbbjbpfaaOPE
import Derived.Test.YtmhnkfcbbjbpfaaFR
namespace Go.Proofs.Ytmhnkfcbbjbpfaa
open Go.RowKit Go.ChangeShapes Go.WideShapes Go.Deep
set_option linter.unusedVariables false
set_option linter.unusedSimpArgs false
section
variable {H : Type} {enc : TypeId × Value → H} {W : World} {base : Nat} {v : Value} {d : DataW H} {p : List MemPlace}
set_option maxRecDepth 8000 in
theorem open_fleet (hv : Value.okWide Try.prog W .any base 24 v) (h : DataW.Trod enc Try.prog W 0 (fun _ => true) true 24 v d p) : ∃ f : Fl, v = .agg f.cells ∧ f.In W ∧ inI f.bikes ∧ inI f.riders ∧ inI f.devs ∧ (∀ i, i < f.nd → inI (f.D i)) ∧ (∀ i, i < f.nt → inI (f.T i)) := by
  obtain ⟨cs, rfl, hsz⟩ := okWide_struct Try.underlying24 hv
  obtain ⟨fuel, hf⟩ := h
  obtain ⟨hl, hc⟩ := open_struct_cells Try.underlying24 (by kernel_rfl) (by kernel_rfl) hf
  obtain ⟨v0, n0, y0, g0, h0⟩ := hc 0 _ rfl
  obtain ⟨v1, n1, y1, g1, h1⟩ := hc 1 _ rfl
  obtain ⟨v2, n2, y2, g2, h2⟩ := hc 2 _ rfl
  obtain ⟨v3, n3, y3, g3, h3⟩ := hc 3 _ rfl
  obtain ⟨v4, n4, y4, g4, h4⟩ := hc 4 _ rfl
  obtain ⟨b0, e0, _, w0⟩ := DataW.trod_int Try.underlying3 h0
  obtain ⟨b1, e1, _, w1⟩ := DataW.trod_int Try.underlying3 h1
  obtain ⟨b2, e2, _, w2⟩ := DataW.trod_int Try.underlying3 h2
  obtain ⟨ad, nd, cd, D, e3, s3, w3⟩ := open_num_slice Try.underlying22 Try.underlying3 (by kernel_rfl) h3
  obtain ⟨a2, nt, ct, T, e4, s4, w4⟩ := open_num_slice Try.underlying22 Try.underlying3 (by kernel_rfl) h4
  simp at e0 e1 e2 e3 e4
  subst e0 e1 e2 e3 e4
  refine ⟨⟨b0, b1, b2, ad, nd, cd, D, a2, nt, ct, T⟩, ?_, ⟨s3, s4⟩, bounds_i64 w0, bounds_i64 w1, bounds_i64 w2, fun i hi => bounds_i64 (w3 i hi), fun i hi => bounds_i64 (w4 i hi)⟩
  congr 1
  simp [Value.cells] at hl g0 g1 g2 g3 g4
  obtain ⟨l⟩ := cs
  match l, hl with
  | [a, b, c, e, f], _ =>
    simp at g0 g1 g2 g3 g4
    subst g0 g1 g2 g3 g4
    rfl
set_option maxRecDepth 8000 in
theorem open_report (hv : Value.okWide Try.prog W .any base 46 v) (h : DataW.Trod enc Try.prog W 0 (fun _ => true) true 46 v d p) : ∃ r : Rp, v = .agg (rC r) := by
  obtain ⟨F, rfl, hb⟩ := open_struct_ints Try.underlying46 (by kernel_rfl) (by kernel_rfl) (fun j f hj => by
    have hl : j < 6 := (Array.getElem?_eq_some_iff.1 hj).1
    rcases (by omega : j = 0 ∨ j = 1 ∨ j = 2 ∨ j = 3 ∨ j = 4 ∨ j = 5) with rfl | rfl | rfl | rfl | rfl | rfl <;> (cases hj; exact Try.underlying3)) hv h
  exact ⟨⟨F 0, F 1, F 2, F 3, F 4, F 5⟩, rfl⟩
/-- The cells of a synchronization. -/
def syf (L : Nat → Sy) : Nat → List Value := fun i => [.int .i64 (L i).loc, .int .i64 (L i).frm, .int .i64 (L i).til]
theorem SySl.of {w : World} {a : Option Addr} {m c : Nat} {L : Nat → Sy} (h : Sl w 3 a m c (syf L)) : SySl w a m L := fun i hi => by
  obtain ⟨g, o, e, hc⟩ := h.cell hi
  exact ⟨g, o, e, hc 0 (by decide), hc 1 (by decide), hc 2 (by decide)⟩
set_option maxRecDepth 8000 in
theorem open_syncs (hv : Value.okWide Try.prog W .any base 47 v) (h : DataW.Trod enc Try.prog W 0 (fun _ => true) true 47 v d p) : ∃ (a : Option Addr) (m c : Nat) (L : Nat → Sy), v = .slice a m c ∧ Sl W 3 a m c (syf L) := by
  obtain ⟨a0, len, cap, rfl⟩ := okWide_slice Try.underlying47 hv
  obtain ⟨fuel, hf⟩ := h
  obtain ⟨a, m, c, F, hcs, hs, hb⟩ := open_rows Try.underlying47 Try.underlying52 (by kernel_rfl) (by kernel_rfl) (by decide) (fun j f hj => by
    have hl : j < 3 := (Array.getElem?_eq_some_iff.1 hj).1
    rcases (by omega : j = 0 ∨ j = 1 ∨ j = 2) with rfl | rfl | rfl <;> (cases hj; exact Try.underlying3)) hf
  simp [Value.cells] at hcs
  obtain ⟨rfl, rfl, rfl⟩ := hcs
  exact ⟨_, _, _, fun i => ⟨F i 0, F i 1, F i 2⟩, rfl, hs.congr fun i => rfl⟩
end
end Go.Proofs.Ytmhnkfcbbjbpfaa
