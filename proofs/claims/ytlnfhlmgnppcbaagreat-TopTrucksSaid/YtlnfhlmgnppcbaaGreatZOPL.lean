/- A fleet, opened. -/
import Derived.Test.YtlnfhlmgnppcbaaGreatZOPA
import Derived.Test.YtlnfhlmgnppcbaaGreatZC
namespace Go.Proofs.YtlnfhlmgnppcbaaGreat
open Go.RowKit Go.ChangeShapes Go.WideShapes Go.Deep
set_option linter.unusedVariables false
set_option linter.unusedSimpArgs false
section
variable {H : Type} {enc : TypeId × Value → H} {W : World} {base : Nat} {v : Value} {d : DataW H} {p : List MemPlace}
set_option maxRecDepth 8000 in
theorem open_fleet (hv : Value.okWide Tryz.prog W .any base 24 v) (h : DataW.Trod enc Tryz.prog W 0 (fun _ => true) true 24 v d p) : ∃ f : Fl, v = .agg f.cells ∧ f.In W ∧ inI f.bikes ∧ inI f.riders ∧ inI f.devs ∧ (∀ i, i < f.nd → inI (f.D i)) ∧ (∀ i, i < f.nt → inI (f.T i)) := by
  obtain ⟨cs, rfl, hsz⟩ := okWide_struct Tryz.underlying24 hv
  obtain ⟨fuel, hf⟩ := h
  obtain ⟨hl, hc⟩ := open_struct_cells Tryz.underlying24 (by kernel_rfl) (by kernel_rfl) hf
  obtain ⟨v0, n0, y0, g0, h0⟩ := hc 0 _ rfl
  obtain ⟨v1, n1, y1, g1, h1⟩ := hc 1 _ rfl
  obtain ⟨v2, n2, y2, g2, h2⟩ := hc 2 _ rfl
  obtain ⟨v3, n3, y3, g3, h3⟩ := hc 3 _ rfl
  obtain ⟨v4, n4, y4, g4, h4⟩ := hc 4 _ rfl
  obtain ⟨b0, e0, _, w0⟩ := DataW.trod_int Tryz.underlying3 h0
  obtain ⟨b1, e1, _, w1⟩ := DataW.trod_int Tryz.underlying3 h1
  obtain ⟨b2, e2, _, w2⟩ := DataW.trod_int Tryz.underlying3 h2
  obtain ⟨ad, nd, cd, D, e3, s3, w3⟩ := open_num_slice Tryz.underlying22 Tryz.underlying3 (by kernel_rfl) h3
  obtain ⟨a2, nt, ct, T, e4, s4, w4⟩ := open_num_slice Tryz.underlying22 Tryz.underlying3 (by kernel_rfl) h4
  simp at e0 e1 e2 e3 e4
  subst e0 e1 e2 e3 e4
  refine ⟨⟨b0, b1, b2, ad, nd, cd, D, a2, nt, ct, T⟩, ?_, ⟨s3, s4⟩, bounds_i64 w0, bounds_i64 w1, bounds_i64 w2, fun i hi => bounds_i64 (w3 i hi), fun i hi => bounds_i64 (w4 i hi)⟩
  congr 1
  simp [Value.cells] at hl g0 g1 g2 g3 g4
  obtain ⟨l⟩ := cs
  match l, hl with
  | [a, b, c, e, f], _ =>
    simp at g0 g1 g2 g3 g4
    subst g0 g1 g2 g3 g4
    rfl
end
end Go.Proofs.YtlnfhlmgnppcbaaGreat
