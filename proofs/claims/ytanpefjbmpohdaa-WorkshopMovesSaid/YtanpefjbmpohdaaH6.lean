/- A made row known by its block. Plain theorems over any program. -/
import Derived.Test.YtanpefjbmpohdaaH4
import Derived.Laws.OwnMore
namespace Go.Proofs.Ytanpefjbmpohdaa
open Go.RowKit
set_option linter.unusedVariables false
theorem made_flat {z : Array Value} {s : Nat} (hz : z.size = s) (h0 : 0 < s) (n : Nat) : (madeCells z (n * s)).toList = flat (fun _ => z.toList) n := by
  have hl : ∀ i : Nat, ((fun _ : Nat => z.toList) i).length = s := fun _ => by simpa using hz
  apply List.ext_getElem?
  intro t
  by_cases ht : t < n * s
  · have h1 : t / s < n := by rw [Nat.div_lt_iff_lt_mul h0]; exact ht
    have h2 : t % s < s := Nat.mod_lt _ h0
    have e : t = t / s * s + t % s := by rw [Nat.mul_comm]; exact (Nat.div_add_mod t s).symm
    have h3 := flat_get hl h2 h1
    rw [← e] at h3
    rw [h3]
    simp [madeCells, ht, hz, h2]
  · have h1 : (flat (fun _ : Nat => z.toList) n)[t]? = none := by rw [List.getElem?_eq_none]; rw [flat_len hl]; omega
    rw [h1, List.getElem?_eq_none]
    simp [size_madeCells]; omega
/-- A block that holds a row's cells and no more. -/
theorem Row.of_block {w : World} {base b : Nat} {e : TypeId} {s n : Nat} {cs : Array Value} {f : Nat → List Value} (h : w.heap[b]? = some (.cells cs e (0, 0))) (hb : base ≤ b) (hf : ∀ i, (f i).length = s) (hc : cs.toList = flat f n) (hn : n ≤ maxLen) :
    Row w base e s (.slice (some ⟨b, 0, none⟩) n n) n f := by
  have hs : cs.size = n * s := by rw [← Array.length_toList, hc, flat_len hf]
  refine ⟨flat_len hf n, .inr ⟨b, n, cs, rfl, hb, h, Nat.le_refl _, hn, hs, ?_⟩⟩
  rw [hc, List.take_of_length_le (by rw [flat_len hf]; omega)]
theorem Row.of_made {w : World} {base b : Nat} {e : TypeId} {s n : Nat} {z : Array Value} (hz : z.size = s) (h0 : 0 < s) (h : w.heap[b]? = some (.cells (madeCells z (n * s)) e (0, 0))) (hb : base ≤ b) (hn : n ≤ maxLen) :
    Row w base e s (.slice (some ⟨b, 0, none⟩) n n) n (fun _ => z.toList) :=
  Row.of_block h hb (fun _ => by simpa using hz) (made_flat hz h0 n) hn
end Go.Proofs.Ytanpefjbmpohdaa
