/- General theorems of this seat, in one text. -/
import Derived.Test.YtlnfhlmgnppcbaaGreatZEVA
import Derived.Test.YtlnfhlmgnppcbaaGreatZBB
import Derived.Test.YtlnfhlmgnppcbaaGreatZCMA
import Derived.Test.YtlnfhlmgnppcbaaGreatZTKA
import Derived.Test.YtlnfhlmgnppcbaaGreatZCTA
namespace Go.Proofs.YtlnfhlmgnppcbaaGreat
open Go.RowKit Go.ChangeShapes Go.WideShapes Go.Deep
set_option linter.unusedVariables false
set_option linter.unusedSimpArgs false
section
variable {H : Type} {enc : TypeId × Value → H} {W : World} {base : Nat} {v : Value} {d : DataW H} {p : List MemPlace}
theorem nine_cases {j : Nat} (h : j < 9) : j = 0 ∨ j = 1 ∨ j = 2 ∨ j = 3 ∨ j = 4 ∨ j = 5 ∨ j = 6 ∨ j = 7 ∨ j = 8 := by omega
theorem inN_of {F : Nat → Int} (h : ∀ j, j < 9 → inI (F j)) : inN ⟨F 0, F 1, F 2, F 3, F 4, F 5, F 6, F 7, F 8⟩ := by
  intro x hx
  simp only [nums, List.mem_cons, List.not_mem_nil, or_false] at hx
  rcases hx with rfl | rfl | rfl | rfl | rfl | rfl | rfl | rfl | rfl
  · exact h 0 (by decide)
  · exact h 1 (by decide)
  · exact h 2 (by decide)
  · exact h 3 (by decide)
  · exact h 4 (by decide)
  · exact h 5 (by decide)
  · exact h 6 (by decide)
  · exact h 7 (by decide)
  · exact h 8 (by decide)
set_option maxRecDepth 8000 in
theorem open_events (hv : Value.okWide Tryz.prog W .any base 25 v) (h : DataW.Trod enc Tryz.prog W 0 (fun _ => true) true 25 v d p) : ∃ (a : Option Addr) (m c : Nat) (F : Nat → Ev), v = .slice a m c ∧ EvSl W a m c F ∧ ∀ i, i < m → inN (F i) := by
  obtain ⟨a0, len, cap, rfl⟩ := okWide_slice Tryz.underlying25 hv
  obtain ⟨fuel, hf⟩ := h
  obtain ⟨a, m, c, F, hcs, hs, hb⟩ := open_rows Tryz.underlying25 Tryz.underlying81 (by kernel_rfl) (by kernel_rfl) (by decide) (fun j f hj => by
    have hl : j < 9 := (Array.getElem?_eq_some_iff.1 hj).1
    rcases nine_cases hl with rfl | rfl | rfl | rfl | rfl | rfl | rfl | rfl | rfl <;> (cases hj; exact Tryz.underlying3)) hf
  simp [Value.cells] at hcs
  obtain ⟨rfl, rfl, rfl⟩ := hcs
  exact ⟨_, _, _, fun i => ⟨F i 0, F i 1, F i 2, F i 3, F i 4, F i 5, F i 6, F i 7, F i 8⟩, rfl, hs.congr fun i => rfl, fun i hi => inN_of (hb i hi)⟩
end
end Go.Proofs.YtlnfhlmgnppcbaaGreat
namespace Go.Proofs.YtlnfhlmgnppcbaaGreat
open Go.RowKit Go.ChangeShapes Go.WideShapes Go.Deep
set_option linter.unusedVariables false
set_option linter.unusedSimpArgs false
set_option maxRecDepth 8000
section
variable {H : Type} {enc : TypeId × Value → H} {W : World} {base : Nat} {v : Value} {d : DataW H} {p : List MemPlace}
theorem open_needs {fuel : Nat} {cs : List Value} {x : DataW H × List MemPlace} (h : DataW.trod enc Tryz.prog W 0 (fun _ => true) true fuel 30 cs = some x) :
    ∃ (a : Option Addr) (m c : Nat) (D : Nat → Nd), cs = [.slice a m c] ∧ Sl W 2 a m c (ndf D) := by
  obtain ⟨a, m, c, F, hcs, hs, hb⟩ := open_rows Tryz.underlying30 Tryz.underlying58 (by kernel_rfl) (by kernel_rfl) (by decide) (fun j f hj => by
    have hl : j < 2 := (Array.getElem?_eq_some_iff.1 hj).1
    rcases (by omega : j = 0 ∨ j = 1) with rfl | rfl <;> (cases hj; exact Tryz.underlying3)) h
  exact ⟨a, m, c, fun i => ⟨F i 0, F i 1⟩, hcs, hs.congr fun i => rfl⟩
theorem open_trucks {fuel : Nat} {cs : List Value} {x : DataW H × List MemPlace} (h : DataW.trod enc Tryz.prog W 0 (fun _ => true) true fuel 29 cs = some x) :
    ∃ (a : Option Addr) (m c : Nat) (T : Nat → Tk), cs = [.slice a m c] ∧ Sl W 4 a m c (tkf T) := by
  have hC : Tryz.prog.cellsOf 62 = 4 := by kernel_rfl
  rcases open_slice Tryz.underlying29 h with ⟨hcs, hx⟩ | ⟨a, len, cap, m, n, D, Pl, hcs, hb, hl, hm, hmm, hx, hi⟩
  · exact ⟨none, 0, 0, fun _ => ⟨0, 0, 0, 0⟩, hcs, ⟨by omega, by omega, fun _ => ⟨rfl, rfl⟩, fun i => rfl, fun i hi => absurd hi (by omega)⟩⟩
  · have hml : len ≤ m := by rw [hmm]; split <;> omega
    have key : ∀ i, ∃ t : Tk, i < len → ∀ j, j < 4 → W.cell? (a.add (i * 4 + j)) = (tkf (fun _ => t) 0)[j]? := by
      intro i
      by_cases hil : i < len
      · obtain ⟨cs', hc, ht'⟩ := hi i (by omega)
        rw [hC] at hc
        obtain ⟨_, hcl, hat⟩ := World.cells?_some hc
        match cs', hcl with
        | [c0, c1, c2, c3], _ =>
          obtain ⟨ys, n', _, _, hlen, hyl, hf⟩ := DataW.trod_struct Tryz.underlying62 ht'
          have e3 : Tryz.prog.cellsOf 3 = 1 := by kernel_rfl
          have e60 : Tryz.prog.cellsOf 60 = 2 := by kernel_rfl
          match ys, hyl with
          | [y0, y1, y2], _ =>
            have f0 := hf 0 _ rfl
            have f1 := hf 1 _ rfl
            have f2 := hf 2 _ rfl
            simp [e3, e60] at f0 f1 f2
            obtain ⟨z0, z1, n2, _, _, g0, g1⟩ := trod_struct2 Tryz.underlying60 f2
            simp [e3] at g0 g1
            obtain ⟨k0, q0, _, _⟩ := DataW.trod_int Tryz.underlying3 f0
            obtain ⟨k1, q1, _, _⟩ := DataW.trod_int Tryz.underlying3 f1
            obtain ⟨k2, q2, _, _⟩ := DataW.trod_int Tryz.underlying3 g0
            obtain ⟨k3, q3, _, _⟩ := DataW.trod_int Tryz.underlying3 g1
            simp at q0 q1 q2 q3
            subst q0 q1 q2 q3
            refine ⟨⟨k0, k1, k2, k3⟩, fun _ j hj => ?_⟩
            rw [← Go.Deep.add_add, hat j hj]
            rfl
      · exact ⟨⟨0, 0, 0, 0⟩, fun h => absurd h hil⟩
    obtain ⟨T, hT⟩ := Classical.axiomOfChoice key
    refine ⟨some a, len, cap, T, hcs, ⟨hl, by (unfold maxLen at hm; omega), fun h => (by cases h), fun i => rfl, fun i hil => ?_⟩⟩
    have ha : a = ⟨a.block, a.off, none⟩ := by
      have h00 := hT 0 (by omega) 0 (by decide)
      simp [Addr.add, tkf] at h00
      exact addr_of_cell h00
    rw [ha]
    refine ⟨a.block, a.off, rfl, fun j hj => ?_⟩
    have := hT i hil j hj
    rw [ha, add_flat] at this
    rw [Nat.add_assoc, this]
    rfl
theorem open_night (hv : Value.okWide Tryz.prog W .any base 32 v) (h : DataW.Trod enc Tryz.prog W 0 (fun _ => true) true 32 v d p) : ∃ g : Ng, v = .agg g.cells ∧ g.In W := by
  obtain ⟨cs, rfl, hsz⟩ := okWide_struct Tryz.underlying32 hv
  obtain ⟨fuel, hf⟩ := h
  have hc : Tryz.prog.cellsOf 32 = 5 := by kernel_rfl
  rw [hc] at hsz
  obtain ⟨ys, n, _, _, _, hyl, hx⟩ := DataW.trod_struct Tryz.underlying32 hf
  obtain ⟨c0, c1, c2, c3, c4, rfl⟩ : ∃ c0 c1 c2 c3 c4, cs = #[c0, c1, c2, c3, c4] := by
    obtain ⟨l⟩ := cs
    match l, hsz with
    | [a, b, c, e, f], _ => exact ⟨a, b, c, e, f, rfl⟩
  match ys, hyl with
  | [y0, y1, y2, y3], _ =>
    have f0 := hx 0 _ rfl
    have f1 := hx 1 _ rfl
    have f2 := hx 2 _ rfl
    have f3 := hx 3 _ rfl
    have e3 : Tryz.prog.cellsOf 3 = 1 := by kernel_rfl
    have eR : Tryz.prog.cellsOf 28 = 2 := by kernel_rfl
    have eE : Tryz.prog.cellsOf 26 = 1 := by kernel_rfl
    have eT : Tryz.prog.cellsOf 29 = 1 := by kernel_rfl
    have eN : Tryz.prog.cellsOf 30 = 1 := by kernel_rfl
    simp [Value.cells, e3, eR, eT, eN] at f0 f1 f2 f3
    obtain ⟨z0, z1, n2, _, _, g0, g1⟩ := trod_struct2 Tryz.underlying28 f0
    simp [e3, eE] at g0 g1
    obtain ⟨k0, q0, _, _⟩ := DataW.trod_int Tryz.underlying3 g0
    obtain ⟨ea, em, ec, E, q1, hn, _⟩ := open_edges g1
    obtain ⟨ta, tn, tc, T, q2, ht⟩ := open_trucks f1
    obtain ⟨na, nn, nc, D, q3, hd⟩ := open_needs f2
    obtain ⟨k4, q4, _, _⟩ := DataW.trod_int Tryz.underlying3 f3
    simp at q0 q1 q2 q3 q4
    subst q0 q1 q2 q3 q4
    exact ⟨{ N := k0, ea := ea, em := em, ec := ec, E := E, ta := ta, tn := tn, tc := tc, T := T, na := na, nn := nn, nc := nc, D := D, h := k4 }, rfl, ⟨hn, ht, hd⟩⟩
end
end Go.Proofs.YtlnfhlmgnppcbaaGreat
