/- Arguments opened: a slice of structs whose fields are ints. Plain theorems over any program. -/
import Derived.Test.YtanpefjbmpohdaaH4
import Derived.Test.YtanpefjbmpohdaaO
import Derived.ProofKit
namespace Go.Proofs.Ytanpefjbmpohdaa
open Go.RowKit Go.ChangeShapes Go.WideShapes Go.Deep
set_option linter.unusedVariables false
set_option linter.unusedSimpArgs false
def inI (n : Int) : Prop := -9223372036854775808 ≤ n ∧ n ≤ 9223372036854775807
/-- s ints. -/
def irow (s : Nat) (F : Nat → Int) : List Value := (List.range s).map fun j => .int .i64 (F j)
theorem irow_len (s : Nat) (F : Nat → Int) : (irow s F).length = s := by simp [irow]
/-- A slice of rows in memory. -/
structure Sl (w : World) (s : Nat) (ao : Option Addr) (m c : Nat) (f : Nat → List Value) : Prop where
  hm : m ≤ c
  hc : c ≤ 9223372036854775807
  hno : ao = none → m = 0 ∧ c = 0
  len : ∀ i, (f i).length = s
  sl : SlE w s ao m f
theorem Sl.below {w w' : World} {s : Nat} {ao : Option Addr} {m c : Nat} {f : Nat → List Value} (h : Sl w s ao m c f) (hb : Below w.heap.size w w') : Sl w' s ao m c f := ⟨h.hm, h.hc, h.hno, h.len, h.sl.below h.len hb⟩
theorem Sl.off {X : Nat → Prop} {w w' : World} {s : Nat} {ao : Option Addr} {m c : Nat} {f : Nat → List Value} (h : Sl w s ao m c f) (ho : Off X w w') (hX : ∀ a, ao = some a → ¬ X a.block) : Sl w' s ao m c f := ⟨h.hm, h.hc, h.hno, h.len, h.sl.off h.len ho hX⟩
theorem Sl.congr {w : World} {s : Nat} {ao : Option Addr} {m c : Nat} {f f' : Nat → List Value} (h : Sl w s ao m c f) (hf : ∀ i, f i = f' i) : Sl w s ao m c f' := by rw [← show f = f' from funext hf]; exact h
theorem Row.toSl {w : World} {base : Nat} {e : TypeId} {s n : Nat} {v : Value} {f : Nat → List Value} (h : Row w base e s v n f) (hf : ∀ i, (f i).length = s) : ∃ ao c, v = .slice ao n c ∧ Sl w s ao n c f := by
  obtain ⟨ao, c, rfl, h1, h2, h3, h4⟩ := h.sl hf
  exact ⟨ao, c, rfl, h1, h2, h4, hf, h3⟩
theorem Sl.cell {w : World} {s : Nat} {ao : Option Addr} {m c : Nat} {f : Nat → List Value} (h : Sl w s ao m c f) {i : Nat} (hi : i < m) : ∃ g o, ao = some ⟨g, o, none⟩ ∧ ∀ j, j < s → w.cell? ⟨g, o + i * s + j, none⟩ = (f i)[j]? := h.sl i hi
section
variable {H : Type} {enc : TypeId × Value → H} {P : Program} {W : World}
theorem open_rows {t e : TypeId} {fs : Array Field} {fuel : Nat} {cs : List Value} {x : DataW H × List MemPlace} (ht : P.underlying t = some (.slice e)) (he : P.underlying e = some (.struct fs))
    (hone : oneCellFields P fs = true) (hC : P.cellsOf e = fs.size) (h0 : 0 < fs.size) (hint : ∀ (j : Nat) (f : Field), fs[j]? = some f → P.underlying f.type = some (.int .i64)) (h : DataW.trod enc P W 0 (fun _ => true) true fuel t cs = some x) :
    ∃ (a : Option Addr) (m c : Nat) (F : Nat → Nat → Int), cs = [.slice a m c] ∧ Sl W fs.size a m c (fun i => irow fs.size (F i)) ∧ ∀ i, i < m → ∀ j, j < fs.size → inI (F i j) := by
  rcases open_slice_fields ht he hone hC h with ⟨hcs, hx⟩ | ⟨a, len, cap, m, D, Pl, hcs, hb, hl, hm, hmm, hx, hi⟩
  · exact ⟨none, 0, 0, fun _ _ => 0, hcs, ⟨by omega, by omega, fun _ => ⟨rfl, rfl⟩, fun i => irow_len _ _, fun i hi => absurd hi (by omega)⟩, fun i hi => absurd hi (by omega)⟩
  · have hml : len ≤ m := by rw [hmm]; split <;> omega
    have key : ∀ i j, ∃ y : Int, i < len → j < fs.size → W.cell? (a.add (i * fs.size + j)) = some (.int .i64 y) ∧ inI y := by
      intro i j
      by_cases hil : i < len
      · by_cases hj : j < fs.size
        · obtain ⟨ys, n, _, _, hlen, hf'⟩ := hi i (by omega)
          obtain ⟨v0, y0, hc0, _, ht0⟩ := hf' j _ (Array.getElem?_eq_getElem hj)
          obtain ⟨n0, e0, _, w0⟩ := DataW.trod_int (hint j _ (Array.getElem?_eq_getElem hj)) ht0
          simp at e0
          subst e0
          exact ⟨n0, fun _ _ => ⟨hc0, bounds_i64 w0⟩⟩
        · exact ⟨0, fun _ h => absurd h hj⟩
      · exact ⟨0, fun h => absurd h hil⟩
    obtain ⟨F, hF⟩ := Classical.axiomOfChoice fun i => Classical.axiomOfChoice (key i)
    refine ⟨some a, len, cap, F, hcs, ⟨hl, by (unfold maxLen at hm; omega), fun h => (by cases h), fun i => irow_len _ _, fun i hil => ?_⟩, fun i hil j hj => (hF i j hil hj).2⟩
    have ha : a = ⟨a.block, a.off, none⟩ := by
      have h00 := (hF 0 0 (by omega) h0).1
      simp [Addr.add] at h00
      exact addr_of_cell h00
    rw [ha]
    refine ⟨a.block, a.off, rfl, fun j hj => ?_⟩
    have := (hF i j hil hj).1
    rw [ha, add_flat] at this
    rw [Nat.add_assoc, this]
    simp [irow, hj]
end
end Go.Proofs.Ytanpefjbmpohdaa
