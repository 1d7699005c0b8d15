/- The law RoadMore: a road more makes no time longer. -/
import Derived.Test.YtbmlnjdfnjjjhaaL4
import Derived.Test.YtbmlnjdfnjjjhaaL2
import Derived.Test.YtbmlnjdfnjjjhaaK6
import Derived.Deep.Strs
namespace Go.Proofs.Ytbmlnjdfnjjjhaa
open Go.RowKit Go.ChangeShapes Go.WideShapes Go.Deep
set_option linter.unusedVariables false
set_option linter.unusedSimpArgs false
open Rd
theorem open_edge {H : Type} {enc : TypeId × Value → H} {W : World} {base : Nat} {v : Value} {d : DataW H} {p : List MemPlace} (hv : Value.okWide Try.prog W .any base 43 v) (h : DataW.Trod enc Try.prog W 0 (fun _ => true) true 43 v d p) :
    ∃ y : Ed, v = .agg #[.int .i64 y.frm, .int .i64 y.til, .int .i64 y.sec] := by
  obtain ⟨cs, rfl, hsz⟩ := okWide_struct Try.underlying43 hv
  obtain ⟨fuel, hf⟩ := h
  rw [show Try.prog.cellsOf 43 = 3 by kernel_rfl] at hsz
  obtain ⟨y0, y1, y2, n, _, _, h0, h1, h2⟩ := trod_struct3 Try.underlying43 hf
  obtain ⟨c0, c1, c2, rfl⟩ : ∃ c0 c1 c2, cs = #[c0, c1, c2] := by
    obtain ⟨l⟩ := cs
    match l, hsz with
    | [a, b, c], _ => exact ⟨a, b, c, rfl⟩
  have e3 : Try.prog.cellsOf 3 = 1 := by kernel_rfl
  simp [Value.cells, e3] at h0 h1 h2
  obtain ⟨n0, e0, _, _⟩ := DataW.trod_int Try.underlying3 h0
  obtain ⟨n1, e1, _, _⟩ := DataW.trod_int Try.underlying3 h1
  obtain ⟨n2, e2, _, _⟩ := DataW.trod_int Try.underlying3 h2
  simp at e0 e1 e2
  subst e0 e1 e2
  exact ⟨⟨n0, n1, n2⟩, rfl⟩
theorem road_none {H : Type} {enc : TypeId × Value → H} {W : World} {N : Int} {a : Option Addr} {m c : Nat} {d : DataW H} {p : List MemPlace} (h : DataW.Trod enc Try.prog W 0 (fun _ => true) true 24 (.agg #[.int .i64 N, .slice a m c]) d p) (ha : a = none) : m = 0 ∧ c = 0 := by
  obtain ⟨fuel, hf⟩ := h
  obtain ⟨y0, y1, n, _, _, h0, h1⟩ := trod_struct2 Try.underlying24 hf
  have e3 : Try.prog.cellsOf 3 = 1 := by kernel_rfl
  have e22 : Try.prog.cellsOf 22 = 1 := by kernel_rfl
  simp [Value.cells, e3, e22] at h0 h1
  rcases open_slice_fields Try.underlying22 Try.underlying43 (by kernel_rfl) (by kernel_rfl) h1 with ⟨hcs, hx⟩ | ⟨a', len, cap, m', D, Pl, hcs, hb, hl, hm, hmm, hx, hi⟩
  · simp at hcs; exact ⟨hcs.2.1, hcs.2.2⟩
  · simp [ha] at hcs
def moreE (m : Nat) (E : Nat → Ed) (y : Ed) : Nat → Ed := fun i => if i < m then E i else y
theorem moreE_at {m : Nat} {E : Nat → Ed} {y : Ed} {i : Nat} (h : i < m) : moreE m E y i = E i := if_pos h
theorem roadE_more {N : Int} {m : Nat} {E : Nat → Ed} {y : Ed} (h : roadE N m E ≠ 0) : roadE N (m + 1) (moreE m E y) ≠ 0 := by
  have hs : ∀ k, k ≤ m → scan (fun i => badE N (moreE m E y i)) k = scan (fun i => badE N (E i)) k := by
    intro k hk
    induction k with
    | zero => rfl
    | succ k ih => simp only [scan, ih (by omega), moreE_at (show k < m by omega)]
  unfold roadE at *
  by_cases h1 : N < 1
  · simp [h1]
  by_cases h2 : 64 < N
  · simp [h1, h2]
  by_cases h3 : 512 < m
  · rw [if_neg h1, if_neg h2, if_pos (by omega)]; decide
  rw [if_neg h1, if_neg h2, if_neg h3] at h
  rw [if_neg h1, if_neg h2]
  split
  · decide
  · rw [scan, hs m (Nat.le_refl _), if_neg h]; exact h
theorem times_more {N : Int} {m : Nat} {E : Nat → Ed} {y : Ed} {src : Int} (h : (timesV N m E src).2.2 ≠ 0) : (timesV N (m + 1) (moreE m E y) src).2.2 ≠ 0 := fun h' => by
  obtain ⟨h1, h2⟩ := timesV_err.1 h'
  refine h (timesV_err.2 ⟨Classical.byContradiction fun h3 => roadE_more h3 h1, h2⟩)
theorem sec_more {n m : Nat} {E : Nat → Ed} {y : Ed} {a v : Int} (hr : Right n m E) (hr' : Right n (m + 1) (moreE m E y)) (ha : 0 ≤ a ∧ a < n) (h : 0 ≤ sec (gr Ed.frm Ed.til n m E) a v) :
    0 ≤ sec (gr Ed.frm Ed.til n (m + 1) (moreE m E y)) a v ∧ sec (gr Ed.frm Ed.til n (m + 1) (moreE m E y)) a v ≤ sec (gr Ed.frm Ed.til n m E) a v := by
  have c1 : Rd.Can (gr Ed.frm Ed.til n m E) a v := Classical.byContradiction fun hc => by have := (sec_range hr ha).2 hc; omega
  have h3 := Rc.more (E' := moreE m E y) (fun i hi => moreE_at hi) c1.best.1
  have c3 : Rd.Can (gr Ed.frm Ed.til n (m + 1) (moreE m E y)) a v := h3.best hr'.fwd
  have h4 := c3.best.2 _ _ h3
  have := ((sec_range hr' ha).1 c3).1
  unfold leL at h4; omega
end Go.Proofs.Ytbmlnjdfnjjjhaa
