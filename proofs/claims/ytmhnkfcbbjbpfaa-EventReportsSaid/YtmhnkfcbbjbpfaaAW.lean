/- The examples of the chapter hold: the memory they begin with, the values they ask. -/
import Derived.Test.YtmhnkfcbbjbpfaaTO
import Derived.Test.YtmhnkfcbbjbpfaaOPF
import Derived.Test.YtmhnkfcbbjbpfaaBA
import Derived.Test.YtmhnkfcbbjbpfaaBB
namespace Go.Proofs.Ytmhnkfcbbjbpfaa
open Go.RowKit Go.ChangeShapes Go.WideShapes Go.Deep
set_option linter.unusedVariables false
set_option linter.unusedSimpArgs false
theorem alloc_heap (w : World) (o : Obj) : (w.alloc o).heap = w.heap.push o := rfl
/-- The world in which the examples ask their first question. -/
def awW (w : World) : World :=
  ((((((w.alloc (.cells #[.int .i64 5, .int .i64 2] 3)).alloc (.cells #[.int .i64 10] 3)).alloc (.cells #[.int .i64 3, .int .i64 2, .int .i64 4, .slice (some ⟨w.heap.size, 0, none⟩) 2 2, .slice (some ⟨w.heap.size + 1, 0, none⟩) 1 1] 24)).alloc
    (.cells #[.int .i64 1, .int .i64 2, .int .i64 100, .int .i64 100, .int .i64 1, .int .i64 2, .int .i64 33, .int .i64 0, .int .i64 0] 26)).alloc
    (.cells #[.int .i64 1, .int .i64 2, .int .i64 100, .int .i64 100, .int .i64 1, .int .i64 2, .int .i64 34, .int .i64 0, .int .i64 0] 26)).alloc
    (.cells #[.int .i64 0, .int .i64 1, .int .i64 7, .int .i64 0, .int .i64 0, .int .i64 0, .int .i64 0, .int .i64 0, .int .i64 0, .int .i64 1, .int .i64 1, .int .i64 6, .int .i64 0, .int .i64 0, .int .i64 0, .int .i64 0, .int .i64 0, .int .i64 0, .int .i64 0, .int .i64 1, .int .i64 5, .int .i64 0, .int .i64 0, .int .i64 0, .int .i64 0, .int .i64 0, .int .i64 0] 26))
def evA : Ev := ⟨1, 2, 100, 100, 1, 2, 33, 0, 0⟩
def evB : Ev := ⟨1, 2, 100, 100, 1, 2, 34, 0, 0⟩
/-- The blocks of the examples. -/
structure AwM (w w1 : World) : Prop where
  x0 : w1.heap[w.heap.size]? = some (.cells #[.int .i64 5, .int .i64 2] 3 (0, 0))
  x1 : w1.heap[w.heap.size + 1]? = some (.cells #[.int .i64 10] 3 (0, 0))
  x2 : w1.heap[w.heap.size + 1 + 1]? = some (.cells #[.int .i64 3, .int .i64 2, .int .i64 4, .slice (some ⟨w.heap.size, 0, none⟩) 2 2, .slice (some ⟨w.heap.size + 1, 0, none⟩) 1 1] 24 (0, 0))
  x3 : w1.heap[w.heap.size + 1 + 1 + 1]? = some (.cells (eC evA) 26 (0, 0))
  x4 : w1.heap[w.heap.size + 1 + 1 + 1 + 1]? = some (.cells (eC evB) 26 (0, 0))
  bel : Below w.heap.size w w1
theorem AwM.below {w w1 w2 : World} (h : AwM w w1) (hb : Below w1.heap.size w1 w2) : AwM w w2 :=
  ⟨(hb.block _ (block_lt h.x0)).trans h.x0, (hb.block _ (block_lt h.x1)).trans h.x1, (hb.block _ (block_lt h.x2)).trans h.x2, (hb.block _ (block_lt h.x3)).trans h.x3, (hb.block _ (block_lt h.x4)).trans h.x4, h.bel.trans (hb.mono h.bel.size)⟩
theorem AwM.start (w : World) : AwM w (awW w) := by
  unfold awW
  refine ⟨?_, ?_, ?_, ?_, ?_, by (repeat' (first | (with_reducible exact Below.refl _ _) | (with_reducible assumption) | (with_reducible refine Below.drew ?_) | (with_reducible refine below_drewN ?_ _) | (with_reducible refine Below.alloc ?_ ?_ _) | (with_reducible refine Below.setCell ?_ ?_ _) | go_size))⟩ <;> (simp only [alloc_heap, Array.getElem?_push, Array.size_push]; (repeat rw [if_neg (by omega)]); (first | rw [if_pos trivial] | rw [if_pos (by omega)]); try rfl)
def evL (i : Nat) : Ev := if i = 0 then ⟨0, 1, 7, 0, 0, 0, 0, 0, 0⟩ else if i = 1 then ⟨1, 1, 6, 0, 0, 0, 0, 0, 0⟩ else ⟨0, 1, 5, 0, 0, 0, 0, 0, 0⟩
theorem evSl_of_block {w : World} {b n : Nat} {F : Nat → Ev} {cs : Array Value} (h : w.heap[b]? = some (.cells cs 26 (0, 0))) (hc : cs.toList = flat (fun i => evs (F i)) n) (hn : n ≤ maxLen) : EvSl w (some ⟨b, 0, none⟩) n n F := by
  have hr : Row w 0 26 9 (.slice (some ⟨b, 0, none⟩) n n) n (fun i => evs (F i)) := Row.of_block h (Nat.zero_le _) (fun i => evs_len _) hc hn
  obtain ⟨ao, c, e, hs⟩ := Row.toSl hr (fun i => evs_len _)
  cases e
  exact hs
theorem awW_events (w : World) : EvSl (awW w) (some ⟨w.heap.size + 1 + 1 + 1 + 1 + 1, 0, none⟩) 3 3 evL := by
  refine evSl_of_block (cs := #[.int .i64 0, .int .i64 1, .int .i64 7, .int .i64 0, .int .i64 0, .int .i64 0, .int .i64 0, .int .i64 0, .int .i64 0, .int .i64 1, .int .i64 1, .int .i64 6, .int .i64 0, .int .i64 0, .int .i64 0, .int .i64 0, .int .i64 0, .int .i64 0, .int .i64 0, .int .i64 1, .int .i64 5, .int .i64 0, .int .i64 0, .int .i64 0, .int .i64 0, .int .i64 0, .int .i64 0]) ?_ rfl (by decide)
  unfold awW
  simp only [alloc_heap, Array.getElem?_push, Array.size_push]
  rw [if_pos trivial]
theorem setE_evL : setE (ents evL 3) = [⟨0, 1, 5, 0, 0, 0, 0, 0, 0⟩, ⟨1, 1, 6, 0, 0, 0, 0, 0, 0⟩] := by decide
/-- The fleet of the examples. -/
def awF (w : World) : Fl := ⟨3, 2, 4, some ⟨w.heap.size, 0, none⟩, 2, 2, fun i => if i = 0 then 5 else 2, some ⟨w.heap.size + 1, 0, none⟩, 1, 1, fun _ => 10⟩
theorem numSl_of_block {w : World} {b n : Nat} {F : Nat → Int} {cs : Array Value} (h : w.heap[b]? = some (.cells cs 3 (0, 0))) (hc : cs.toList = flat (nf F) n) (hn : n ≤ maxLen) : Sl w 1 (some ⟨b, 0, none⟩) n n (nf F) := by
  have hr : Row w 0 3 1 (.slice (some ⟨b, 0, none⟩) n n) n (nf F) := Row.of_block h (Nat.zero_le _) (nf_len F) hc hn
  obtain ⟨ao, c, e, hs⟩ := Row.toSl hr (nf_len F)
  cases e
  exact hs
theorem AwM.fleet {w w1 : World} (h : AwM w w1) : (awF w).In w1 := ⟨numSl_of_block h.x0 rfl (by show 2 ≤ maxLen; decide), numSl_of_block h.x1 rfl (by show 1 ≤ maxLen; decide)⟩
theorem check_evA (w : World) : checkE (awF w) evA = 0 := rfl
theorem check_evB (w : World) : checkE (awF w) evB = 7 := rfl
def awR : Rp := ⟨7, 1580, 2, 9, 0, 0⟩
def awS : Nat → Sy := fun _ => ⟨980, 1000, 1000⟩
theorem rep_aw : repE 3 2 awR 1 awS 1000 = (⟨3, 7, 1599, 1601, 2, 2, 9, 0, 0⟩, 0) := by
  have h0 : syncE 1 awS = 0 := syncE_ok (by decide) (by decide) (fun i hi => by show badS ⟨980, 1000, 1000⟩ = false; decide) (fun i hi => by omega)
  have hb : bdR 1 awS 1000 1580 = (1599, 1601, 0) := by
    unfold bdR
    rw [h0, if_neg (by simp), if_neg (by decide), show bHi awS 1000 1580 1 = 1601 by decide, show bLo awS 1000 1580 1 = 1599 by decide]
    rfl
  unfold repE
  rw [show awR.loc = 1580 from rfl, hb]
  rfl
end Go.Proofs.Ytmhnkfcbbjbpfaa
