/- Arguments opened: a slice of structs of one-cell fields. Plain theorems over any program. -/
import Derived.Test.YtanpefjbmpohdaaK
import Derived.Deep.Slices
import Derived.Deep.Fields
import Derived.ChangeSame
import Derived.ProofKit
namespace Go.Proofs.Ytanpefjbmpohdaa
open Go.RowKit Go.ChangeShapes Go.WideShapes Go.Deep
set_option linter.unusedVariables false
section
variable {H : Type} {enc : TypeId × Value → H} {P : Program} {w : World} {base : Nat} {spare : Nat → Bool} {held : Bool}
theorem open_slice_fields {t e : TypeId} {fs : Array Field} {fuel : Nat} {cs : List Value} {x : DataW H × List MemPlace} (ht : P.underlying t = some (.slice e)) (he : P.underlying e = some (.struct fs))
    (hone : oneCellFields P fs = true) (hC : P.cellsOf e = fs.size) (h : DataW.trod enc P w base spare held fuel t cs = some x) :
    (cs = [.slice none 0 0] ∧ x = (.nil, [])) ∨
    ∃ (a : Addr) (len cap m : Nat) (D : Nat → DataW H) (Pl : Nat → List MemPlace), cs = [.slice (some a) len cap] ∧ base ≤ a.block ∧ len ≤ cap ∧ cap ≤ maxLen ∧ m = (if spare a.block then cap else len) ∧
      x = (.slice ((List.range len).map D) ((List.range (m - len)).map fun j => D (len + j)), MemPlace.row a (m * fs.size) ++ (List.range m).flatMap Pl) ∧
      ∀ i, i < m → ∃ (ys : List (DataW H × List MemPlace)) (n : Nat), D i = .agg (ys.map (·.1)) ∧ Pl i = ys.flatMap (·.2) ∧ ys.length = fs.size ∧
        ∀ (j : Nat) (f : Field), fs[j]? = some f → ∃ (v : Value) (y : DataW H × List MemPlace), w.cell? (a.add (i * fs.size + j)) = some v ∧ ys[j]? = some y ∧ DataW.trod enc P w base spare held n f.type [v] = some y := by
  rcases open_slice ht h with h0 | ⟨a, len, cap, m, n, D, Pl, hcs, hb, hl, hm, hmm, hx, hi⟩
  · exact .inl h0
  · refine .inr ⟨a, len, cap, m, D, Pl, hcs, hb, hl, hm, hmm, by rw [hC] at hx; exact hx, fun i him => ?_⟩
    obtain ⟨cs', hc, ht'⟩ := hi i him
    rw [hC] at hc
    obtain ⟨ys, n', hn', hy, hlen, hyl, hf⟩ := DataW.trod_struct he ht'
    obtain ⟨_, hcl, hat⟩ := World.cells?_some hc
    simp only [Prod.mk.injEq] at hy
    refine ⟨ys, n', hy.1, hy.2, hyl, fun j f hj => ?_⟩
    obtain ⟨ho, hk⟩ := hone_of hone j f hj
    have hjl : j < fs.size := (Array.getElem?_eq_some_iff.1 hj).1
    have hcell := hat j hjl
    have hv : cs'[j]? = some (cs'[j]'(by omega)) := List.getElem?_eq_getElem (by omega)
    have h1 := hf j f hj
    rw [ho, hk] at h1
    have hone' : (cs'.drop j).take 1 = [cs'[j]'(by omega)] := by
      rw [List.drop_eq_getElem_cons (by omega)]
      rfl
    rw [hone'] at h1
    have hys : ys[j]? = some (ys[j]'(by omega)) := List.getElem?_eq_getElem (by omega)
    refine ⟨_, _, ?_, hys, h1.trans hys⟩
    rw [← Go.Deep.add_add, hcell, hv]
end

/-- An address that leads to a cell is no spot within one. -/
theorem addr_of_cell {w : World} {a : Addr} {v : Value} (h : w.cell? a = some v) : a = ⟨a.block, a.off, none⟩ := by
  obtain ⟨b, off, spot⟩ := a
  have := World.cell?_spot h
  simp at this
  subst this
  rfl
theorem add_flat (b off n : Nat) : (⟨b, off, none⟩ : Addr).add n = ⟨b, off + n, none⟩ := by
  unfold Addr.add
  split
  · subst n; rfl
  · rfl

/-- The cells of n elements, one behind the other. -/
def flat (f : Nat → List Value) : Nat → List Value
  | 0 => []
  | n + 1 => flat f n ++ f n
theorem flat_succ (f : Nat → List Value) (n : Nat) : flat f (n + 1) = flat f n ++ f n := rfl
theorem flat_len {f : Nat → List Value} {s : Nat} (hs : ∀ i, (f i).length = s) : ∀ n, (flat f n).length = n * s
  | 0 => by simp [flat]
  | n + 1 => by rw [flat, List.length_append, flat_len hs n, hs, Nat.succ_mul]
theorem flat_get {f : Nat → List Value} {s : Nat} (hs : ∀ i, (f i).length = s) {j : Nat} (hj : j < s) : ∀ {n i : Nat}, i < n → (flat f n)[i * s + j]? = (f i)[j]?
  | 0, i, hi => absurd hi (by omega)
  | n + 1, i, hi => by
    rw [flat]
    by_cases h : i < n
    · have h1 : i * s + j < (flat f n).length := by
        rw [flat_len hs]
        have : (i + 1) * s ≤ n * s := Nat.mul_le_mul_right s (by omega)
        rw [Nat.succ_mul] at this
        omega
      rw [List.getElem?_append_left h1]
      exact flat_get hs hj h
    · obtain rfl : i = n := by omega
      rw [List.getElem?_append_right (by rw [flat_len hs]; omega), flat_len hs]
      congr 1
      omega
/-- What an owned row says of its slice. -/
theorem owns_shape {w : World} {base : Nat} {e : TypeId} {size n : Nat} {v : Value} {f : Nat → List Value} (hs : ∀ i, (f i).length = size) (h : w.ownsRow base e size v n (flat f n)) :
    ∃ (a : Option Addr) (cap : Nat), v = .slice a n cap ∧ n ≤ cap ∧ cap ≤ maxLen ∧ ∀ i, i < n → ∃ g, a = some ⟨g, 0, none⟩ ∧ ∀ j, j < size → w.cell? ⟨g, i * size + j, none⟩ = (f i)[j]? := by
  rcases h.2 with ⟨rfl, rfl⟩ | ⟨g, cap, cur, rfl, hb, hg, hn, hm, hsz, ht⟩
  · exact ⟨none, 0, rfl, by omega, by unfold maxLen; omega, fun i hi => absurd hi (by omega)⟩
  · refine ⟨_, cap, rfl, hn, hm, fun i hi => ⟨g, rfl, fun j hj => ?_⟩⟩
    have h1 := flat_get hs hj hi
    rw [← h1]
    have h2 : i * size + j < (flat f n).length := by
      rw [flat_len hs]
      have : (i + 1) * size ≤ n * size := Nat.mul_le_mul_right size (by omega)
      rw [Nat.succ_mul] at this
      omega
    have h3 := h.cells (g := g) rfl (i * size + j) _ (List.getElem?_eq_getElem h2)
    rw [add_flat, Nat.zero_add] at h3
    rw [h3, List.getElem?_eq_getElem h2]
end Go.Proofs.Ytanpefjbmpohdaa
