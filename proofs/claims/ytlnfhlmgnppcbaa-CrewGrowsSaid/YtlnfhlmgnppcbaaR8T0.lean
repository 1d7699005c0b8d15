/- Two rows of numbers side by side. -/
import Derived.Test.YtlnfhlmgnppcbaaR8P0
namespace Go.Proofs.Ytlnfhlmgnppcbaa
open Go.RowKit
set_option linter.unusedVariables false
set_option linter.unusedSimpArgs false
set_option maxRecDepth 8000
open Rd
def vf (f : Int → Int) : Nat → List Value := fun i => [.int .i64 (f i)]
theorem vf_len (f : Int → Int) (i : Nat) : (vf f i).length = 1 := rfl
theorem vf_up (f : Int → Int) (v : Nat) (x : Int) (j : Nat) : upd (vf f) v [.int .i64 x] j = vf (upz f v x) j := by
  by_cases e : j = v
  · subst e; rw [upd_same]; simp [vf, upz_same]
  · rw [upd_ne e]; simp [vf, upz_ne (show (j : Int) ≠ (v : Int) by omega)]
/-- A row of numbers. -/
def Nums (w : World) (base b n : Nat) (f : Int → Int) : Prop := Row w base 3 1 (.slice (some ⟨b, 0, none⟩) n n) n (vf f)
theorem Nums.off {X : Nat → Prop} {w w' : World} {base b n : Nat} {f : Int → Int} (h : Nums w base b n f) (ho : Off X w w') (hX : ¬ X b) : Nums w' base b n f := Row.off h ho (fun g hg e => by cases hg; exact hX e)
theorem Nums.below {w w' : World} {base b n : Nat} {f : Int → Int} (h : Nums w base b n f) (hb : Below w.heap.size w w') : Nums w' base b n f := h.off (X := fun _ => False) (Off.of_below hb) (fun h => h)
theorem Nums.set {w : World} {base b n : Nat} {f : Int → Int} (h : Nums w base b n f) {i : Nat} (hi : i < n) (x : Int) : Nums (w.setCell ⟨b, i, none⟩ (.int .i64 x)) base b n (upz f i x) := by
  have a1 := Row.put h (vf_len f) hi [.int .i64 x] rfl
  have := Row.congr a1 (fun j _ => vf_up f i x j)
  unfold Nums
  simpa [putCells] using this
theorem Nums.cell {w : World} {base b n : Nat} {f : Int → Int} (h : Nums w base b n f) {i : Nat} (hi : i < n) : w.cell? ⟨b, i, none⟩ = some (.int .i64 (f i)) := by
  have := Row.cell h (vf_len f) hi (by decide : 0 < 1); simpa [vf] using this
theorem Nums.lt {w : World} {base b n : Nat} {f : Int → Int} (h : Nums w base b n f) : base ≤ b ∧ b < w.heap.size := World.ownsRow.lt h b rfl
theorem Nums.free {w : World} {base b n : Nat} {f : Int → Int} (h : Nums w base b n f) (j : Nat) : w.frozen? ⟨b, j, none⟩ = false := Row.free h j
theorem Nums.congr {w : World} {base b n : Nat} {f f' : Int → Int} (h : Nums w base b n f) (hf : ∀ i : Nat, i < n → f i = f' i) : Nums w base b n f' := Row.congr h (fun i hi => by unfold vf; rw [hf i hi])
theorem Nums.base_mono {w : World} {B base b n : Nat} {f : Int → Int} (h : Nums w B b n f) (hb : base ≤ B) : Nums w base b n f := Row.base_mono h hb
/-- Two rows of numbers, made since. -/
structure Two (W0 wr : World) (b1 b2 n : Nat) (sv ev : Int → Int) : Prop where
  h1 : Nums wr W0.heap.size b1 n sv
  h2 : Nums wr W0.heap.size b2 n ev
  hb : Below W0.heap.size W0 wr
theorem Two.below {W0 w w' : World} {b1 b2 n : Nat} {sv ev : Int → Int} (h : Two W0 w b1 b2 n sv ev) (hb : Below w.heap.size w w') : Two W0 w' b1 b2 n sv ev := ⟨h.h1.below hb, h.h2.below hb, h.hb.trans (hb.mono h.hb.size)⟩
theorem Two.set {W0 w : World} {b1 b2 n : Nat} {sv ev : Int → Int} (h : Two W0 w b1 b2 n sv ev) (hne : b1 ≠ b2) {i : Nat} (hi : i < n) (x y : Int) :
    Two W0 ((w.setCell ⟨b1, i, none⟩ (.int .i64 x)).setCell ⟨b2, i, none⟩ (.int .i64 y)) b1 b2 n (upz sv i x) (upz ev i y) := by
  have o1 : Off (fun b => b = b1) w (w.setCell ⟨b1, i, none⟩ (.int .i64 x)) := (Off.refl (fun b => b = b1) w).setCell (fun _ => rfl) _
  have o2 : Off (fun b => b = b2) (w.setCell ⟨b1, i, none⟩ (.int .i64 x)) ((w.setCell ⟨b1, i, none⟩ (.int .i64 x)).setCell ⟨b2, i, none⟩ (.int .i64 y)) := (Off.refl (fun b => b = b2) _).setCell (fun _ => rfl) _
  refine ⟨(h.h1.set hi x).off o2 hne, (h.h2.off o1 (fun e => hne e.symm)).set hi y, ?_⟩
  have l1 := h.h1.lt.1
  have l2 := h.h2.lt.1
  have s := h.hb.size
  exact (h.hb.trans (o1.toBelow s (fun k hk e => by omega))).trans (o2.toBelow (by have := o1.size; omega) (fun k hk e => by omega))
/-- What the rounds leave. -/
def Far (w : World) (n : Nat) (g : Gr) (src : Int) (e : Ending) (w' : World) : Prop :=
  ∃ (b1 b2 : Nat) (sv ev : Int → Int), e = .returned (.tuple #[.slice (some ⟨b1, 0, none⟩) n n, .slice (some ⟨b2, 0, none⟩) n n]) ∧ b1 ≠ b2 ∧ Two w w' b1 b2 n sv ev ∧
    ∀ v : Int, 0 ≤ v → v < n → (Rd.Can g src v → sv v = sec g src v ∧ ev v = edg g src v) ∧ (¬ Rd.Can g src v → sv v = 1099511627776 ∧ ev v = 1099511627776)
end Go.Proofs.Ytlnfhlmgnppcbaa
