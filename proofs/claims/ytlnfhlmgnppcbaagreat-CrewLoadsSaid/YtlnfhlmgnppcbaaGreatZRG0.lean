/- The reference's custody: a state as two slices, of spots and of trips. -/
import Derived.Test.YtlnfhlmgnppcbaaGreatZCMA
namespace Go.Proofs.YtlnfhlmgnppcbaaGreat
open Go.RowKit Go.ChangeShapes Go.WideShapes Go.Deep
set_option linter.unusedVariables false
set_option linter.unusedSimpArgs false
def trv (x : Tr) : List Value := [.int .i64 x.id, .int .i64 x.rider, .int .i64 x.bike, .bool x.opn]
def spf (F : Nat → Sp) : Nat → List Value := fun i => spv (F i)
def trf (G : Nat → Tr) : Nat → List Value := fun i => trv (G i)
theorem spf_len (F : Nat → Sp) (i : Nat) : (spf F i).length = 4 := rfl
theorem trf_len (G : Nat → Tr) (i : Nat) : (trf G i).length = 4 := rfl
structure RIn (w : World) (n : Nat) (s : CSt) (sa : Option Addr) (sc : Nat) (ta : Option Addr) (tc : Nat) : Prop where
  sp : Sl w 4 sa n sc (spf s.F)
  tr : Sl w 4 ta s.k tc (trf s.G)
theorem RIn.below {w w' : World} {n : Nat} {s : CSt} {sa ta : Option Addr} {sc tc : Nat} (h : RIn w n s sa sc ta tc) (hb : Below w.heap.size w w') : RIn w' n s sa sc ta tc := ⟨h.sp.below hb, h.tr.below hb⟩
theorem Sl.spot {w : World} {ao : Option Addr} {n c : Nat} {F : Nat → Sp} (h : Sl w 4 ao n c (spf F)) {i : Nat} (hi : i < n) :
    ∃ g o, ao = some ⟨g, o, none⟩ ∧ g < w.heap.size ∧ w.cell? ⟨g, o + i * 4, none⟩ = some (.int .i64 (F i).wh) ∧ w.cell? ⟨g, o + i * 4 + 1, none⟩ = some (.int .i64 (F i).pl) ∧ w.cell? ⟨g, o + i * 4 + 2, none⟩ = some (.int .i64 (F i).rd) ∧ w.cell? ⟨g, o + i * 4 + 3, none⟩ = some (.bool (F i).ps) := by
  obtain ⟨g, o, e, hc⟩ := h.cell hi
  have h0 : w.cell? ⟨g, o + i * 4, none⟩ = some (.int .i64 (F i).wh) := hc 0 (by decide)
  exact ⟨g, o, e, cell_lt h0, h0, hc 1 (by decide), hc 2 (by decide), hc 3 (by decide)⟩
theorem Sl.trip {w : World} {ao : Option Addr} {n c : Nat} {G : Nat → Tr} (h : Sl w 4 ao n c (trf G)) {i : Nat} (hi : i < n) :
    ∃ g o, ao = some ⟨g, o, none⟩ ∧ g < w.heap.size ∧ w.cell? ⟨g, o + i * 4, none⟩ = some (.int .i64 (G i).id) ∧ w.cell? ⟨g, o + i * 4 + 1, none⟩ = some (.int .i64 (G i).rider) ∧ w.cell? ⟨g, o + i * 4 + 2, none⟩ = some (.int .i64 (G i).bike) ∧ w.cell? ⟨g, o + i * 4 + 3, none⟩ = some (.bool (G i).opn) := by
  obtain ⟨g, o, e, hc⟩ := h.cell hi
  have h0 : w.cell? ⟨g, o + i * 4, none⟩ = some (.int .i64 (G i).id) := hc 0 (by decide)
  exact ⟨g, o, e, cell_lt h0, h0, hc 1 (by decide), hc 2 (by decide), hc 3 (by decide)⟩
end Go.Proofs.YtlnfhlmgnppcbaaGreat
