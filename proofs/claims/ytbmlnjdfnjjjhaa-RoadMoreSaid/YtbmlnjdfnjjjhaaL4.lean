/- The law RoadFastest. -/
import Derived.Test.YtbmlnjdfnjjjhaaL0
import Derived.Test.YtbmlnjdfnjjjhaaV1
import Derived.Laws.IdiomArrays
import Derived.BigRegion
namespace Go.Proofs.Ytbmlnjdfnjjjhaa
open Go.RowKit Go.ChangeShapes Go.WideShapes Go.Deep
set_option linter.unusedVariables false
set_option linter.unusedSimpArgs false
open Rd
theorem open_three {H : Type} {enc : TypeId × Value → H} {W : World} {base : Nat} {v : Value} {d : DataW H} {p : List MemPlace} (hv : Value.okWide Try.prog W .any base 41 v) (h : DataW.Trod enc Try.prog W 0 (fun _ => true) true 41 v d p) :
    ∃ a b c : Int, v = .agg #[.int .i64 a, .int .i64 b, .int .i64 c] := by
  have hv' : ∃ cs, v = .agg cs ∧ cs.size = Try.prog.cellsOf 41 := by
    simp only [Value.okWide, Try.underlying41] at hv
    obtain ⟨cs, h1, h2, _⟩ := hv
    exact ⟨cs, h1, h2⟩
  obtain ⟨cs, rfl, hsz⟩ := hv'
  obtain ⟨fuel, hf⟩ := h
  rw [show Try.prog.cellsOf 41 = 3 by kernel_rfl] at hsz
  obtain ⟨c0, c1, c2, rfl⟩ : ∃ c0 c1 c2, cs = #[c0, c1, c2] := by
    obtain ⟨l⟩ := cs
    match l, hsz with
    | [a, b, c], _ => exact ⟨a, b, c, rfl⟩
  obtain ⟨y0, y1, y2, n, _, h0, h1, h2⟩ := trod_array3 Try.underlying41 (by kernel_rfl) hf
  obtain ⟨n0, e0, _, _⟩ := DataW.trod_int Try.underlying3 h0
  obtain ⟨n1, e1, _, _⟩ := DataW.trod_int Try.underlying3 h1
  obtain ⟨n2, e2, _, _⟩ := DataW.trod_int Try.underlying3 h2
  simp at e0 e1 e2
  subst e0 e1 e2
  exact ⟨n0, n1, n2, rfl⟩
theorem timesV_bad {N : Int} {m : Nat} {E : Nat → Ed} {src : Int} (h : (timesV N m E src).2.2 ≠ 0) : (timesV N m E src).1 = 0 := by
  unfold timesV at *
  split
  · rfl
  · split
    · rfl
    · rename_i h1 h2; rw [if_neg h1, if_neg h2] at h; exact absurd rfl h
theorem timesV_ok {N : Int} {m : Nat} {E : Nat → Ed} {src : Int} (h : (timesV N m E src).2.2 = 0) : ∃ n s : Nat, N = n ∧ src = s ∧ s < n ∧ Right n m E ∧ roadE N m E = 0 ∧ timesV N m E src = (n, fun i : Nat => sec (gr Ed.frm Ed.til n m E) s i, 0) := by
  by_cases h1 : roadE N m E ≠ 0
  · exfalso
    rw [show timesV N m E src = (0, fun _ => 0, roadE N m E) from if_pos h1] at h; exact h1 h
  · by_cases h2 : nodeB N src = false
    · exfalso
      rw [show timesV N m E src = (0, fun _ => 0, 7) by unfold timesV; rw [if_neg h1, if_pos h2]] at h; simp at h
    · have h1' : roadE N m E = 0 := by simpa using h1
      obtain ⟨n, hn, hr⟩ := right_of h1'
      have h3 : nodeB N src = true := by cases h : nodeB N src; exact absurd h h2; rfl
      simp [nodeB] at h3
      refine ⟨n, src.toNat, hn, by omega, by omega, hr, h1', ?_⟩
      unfold timesV
      rw [if_neg h1, if_neg h2]
      subst hn
      rw [Int.toNat_natCast, Int.toNat_of_nonneg h3.1]
theorem wayV_bad {N : Int} {m : Nat} {E : Nat → Ed} {src dst : Int} (h : (wayV N m E src dst).2 ≠ 0) : (wayV N m E src dst).1 = [] := by
  unfold wayV at *
  split
  · rfl
  · rename_i h1
    rw [if_neg h1] at h
    split
    · rfl
    · rename_i h2
      rw [if_neg h2] at h
      split
      · rename_i h3; rw [if_pos h3] at h; exact absurd rfl h
      · rfl
theorem wayV_nodes {N : Int} {m : Nat} {E : Nat → Ed} {src dst : Int} (h : (wayV N m E src dst).2 = 0) : roadE N m E = 0 ∧ nodeB N src = true ∧ nodeB N dst = true := by
  unfold wayV at h
  split at h
  · rename_i h1; exact absurd h h1
  · rename_i h1
    split at h
    · simp at h
    · rename_i h2
      refine ⟨by simpa using h1, ?_⟩
      cases e1 : nodeB N src <;> cases e2 : nodeB N dst <;> simp_all
theorem wayV_ok {n m : Nat} {E : Nat → Ed} {s t : Nat} (hr : roadE n m E = 0) (hs : s < n) (ht : t < n) :
    (Rd.Can (gr Ed.til Ed.frm n m E) t s → wayV n m E s t = (wayL n m E t (edg (gr Ed.til Ed.frm n m E) t s).toNat s, 0)) ∧ (¬ Rd.Can (gr Ed.til Ed.frm n m E) t s → wayV n m E s t = ([], 15)) := by
  have hnd : ¬ (nodeB n s && nodeB n t) = false := by simp [nodeB]; omega
  constructor
  · intro hc; unfold wayV; rw [if_neg (by simp [hr]), if_neg hnd, if_pos (by rw [Int.toNat_natCast]; exact hc), Int.toNat_natCast]
  · intro hc; unfold wayV; rw [if_neg (by simp [hr]), if_neg hnd, if_neg (by rw [Int.toNat_natCast]; exact hc)]
theorem timesV_err {N : Int} {m : Nat} {E : Nat → Ed} {src : Int} : (timesV N m E src).2.2 = 0 ↔ roadE N m E = 0 ∧ nodeB N src = true := by
  constructor
  · intro h
    obtain ⟨n, s, rfl, rfl, hs, _, h1, _⟩ := timesV_ok h
    exact ⟨h1, by simp [nodeB]; omega⟩
  · rintro ⟨h1, h2⟩
    unfold timesV; rw [if_neg (by simp [h1]), if_neg (by simp [h2])]
/-- Travel times: attained, or -1; at most 64000. -/
theorem sec_range {n m : Nat} {E : Nat → Ed} {a v : Int} (hr : Right n m E) (ha : 0 ≤ a ∧ a < n) : (Rd.Can (gr Ed.frm Ed.til n m E) a v → 0 ≤ sec (gr Ed.frm Ed.til n m E) a v ∧ sec (gr Ed.frm Ed.til n m E) a v ≤ 64000) ∧ (¬ Rd.Can (gr Ed.frm Ed.til n m E) a v → sec (gr Ed.frm Ed.til n m E) a v = -1) := by
  refine ⟨fun h => ?_, fun h => (not_can h).1⟩
  have h1 := h.best.1.nonneg hr.fwd
  have h2 : edg (gr Ed.frm Ed.til n m E) a v < (n : Int) := h.best.few hr.fwd ha
  have := hr.n2
  omega
theorem triangle {n m : Nat} {E : Nat → Ed} {a b c : Int} (hr : Right n m E) (ha : 0 ≤ a ∧ a < n) (hb : 0 ≤ b ∧ b < n) (h1 : 0 ≤ sec (gr Ed.frm Ed.til n m E) a b) (h2 : 0 ≤ sec (gr Ed.frm Ed.til n m E) b c) :
    0 ≤ sec (gr Ed.frm Ed.til n m E) a c ∧ sec (gr Ed.frm Ed.til n m E) a c ≤ sec (gr Ed.frm Ed.til n m E) a b + sec (gr Ed.frm Ed.til n m E) b c := by
  have c1 : Rd.Can (gr Ed.frm Ed.til n m E) a b := Classical.byContradiction fun h => by have := (sec_range hr ha).2 h; omega
  have c2 : Rd.Can (gr Ed.frm Ed.til n m E) b c := Classical.byContradiction fun h => by have := (sec_range hr hb).2 h; omega
  have h3 := Rc.join c1.best.1 c2.best.1
  have c3 : Rd.Can (gr Ed.frm Ed.til n m E) a c := h3.best hr.fwd
  have h4 := c3.best.2 _ _ h3
  have := ((sec_range hr ha).1 c3).1
  unfold leL at h4; omega
theorem edge_ok {n m : Nat} {E : Nat → Ed} {a : Int} (hr : Right n m E) (ha : 0 ≤ a ∧ a < n) {i : Nat} (hi : i < m) (h1 : 0 ≤ sec (gr Ed.frm Ed.til n m E) a (E i).frm) :
    0 ≤ sec (gr Ed.frm Ed.til n m E) a (E i).til ∧ sec (gr Ed.frm Ed.til n m E) a (E i).til ≤ sec (gr Ed.frm Ed.til n m E) a (E i).frm + (E i).sec := by
  have c1 : Rd.Can (gr Ed.frm Ed.til n m E) a (E i).frm := Classical.byContradiction fun h => by have := (sec_range hr ha).2 h; omega
  have h3 := Rc.snoc (g := gr Ed.frm Ed.til n m E) i c1.best.1 hi
  have c3 : Rd.Can (gr Ed.frm Ed.til n m E) a (E i).til := h3.best hr.fwd
  have h4 := c3.best.2 _ _ h3
  have := ((sec_range hr ha).1 c3).1
  have ec : (gr Ed.frm Ed.til n m E).c i = (E i).sec := rfl
  rw [ec] at h4
  unfold leL at h4; omega
end Go.Proofs.Ytbmlnjdfnjjjhaa
