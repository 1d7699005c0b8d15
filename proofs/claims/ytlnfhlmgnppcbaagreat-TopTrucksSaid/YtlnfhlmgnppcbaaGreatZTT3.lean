/- The best route with exactly these needs. -/
import Derived.Test.YtlnfhlmgnppcbaaGreatZTT2
import Derived.BigQuiet
import Derived.BigRegion
namespace Go.Proofs.YtlnfhlmgnppcbaaGreat
open Go.RowKit Go.ChangeShapes Go.WideShapes Go.Deep
set_option linter.unusedVariables false
set_option linter.unusedSimpArgs false
open Rd
theorem eachBest (g : Ng) (r : Int) (w0 wb : World) (bN bA O : Nat) (hg : g.In w0) (hw0 : Below w0.heap.size w0 wb) (hO : w0.heap.size ≤ O) (hN : wb.heap[bN]? = some (.cells g.cells 32 (0, 0))) (hA : wb.heap[bA]? = some (.cells #[.int .i64 r] 3 (0, 0))) (hNO : bN ≠ O) (hAO : bA ≠ O) :
    EachB bN bA O (fun B w => FoundB g r wb O B w) where
  off h ho := h.offB ho
  ne h := by have h1 := h.lo; have h2 := h.o; omega
  call h hR hv hm _ := best138 g r w0 wb bN bA O hg hw0 hO hN hA hNO hAO h hR hv hm
def foundZ : Obj := .cells #[.slice none 0 0, .int .i64 0, .int .i64 0, .bool false] 188
def BestW (g : Ng) (r : Int) (w : World) (e : Ending) (w' : World) : Prop :=
  ∃ (a : Option Addr) (n c : Nat) (R : Nat → Int) (q d : Int) (ok : Bool), e = .returned (.agg #[.slice a n c, .int .i64 q, .int .i64 d, .bool ok]) ∧ Below w.heap.size w w' ∧ FoundIs g r w.heap.size (fun _ => False) w' a n c R ok
set_option maxRecDepth 8000 in
set_option maxHeartbeats 8000000 in
theorem best117 (g : Ng) (r : Int) (V : Nat → Int) (n : Nat) (a : Option Addr) (c : Nat) (w : World) (hg : g.In w) (hs : Sl w 1 a n c (nf V)) (hn : n ≤ 6) (hb : ∀ i, i < n → 0 ≤ V i ∧ V i < 16) :
    Calls Tryz.prog 117 #[.agg g.cells, .int .i64 r, .slice a n c] w (BestW g r w) := by
  have BB : Hid (Below w.heap.size w ((((w.alloc (.cells g.cells 32)).alloc (.cells #[.int .i64 r] 3)).alloc (.cells #[.slice none 0 0, .int .i64 0, .int .i64 0, .bool false] 188)).alloc (.cells #[.slice none 0 0, .int .i64 0, .int .i64 0, .bool false] 188))) := Lib.hid (by (repeat' (first | (with_reducible exact Below.refl _ _) | (with_reducible assumption) | (with_reducible refine Below.drew ?_) | (with_reducible refine below_drewN ?_ _) | (with_reducible refine Below.alloc ?_ ?_ _) | (with_reducible refine Below.setCell ?_ ?_ _) | go_size)))
  have XN := Lib.hid (al_keep (al_keep (al_keep (al_at w (.cells g.cells 32) rfl) (.cells #[.int .i64 r] 3)) (.cells #[.slice none 0 0, .int .i64 0, .int .i64 0, .bool false] 188)) (.cells #[.slice none 0 0, .int .i64 0, .int .i64 0, .bool false] 188))
  have XA := Lib.hid (al_keep (al_keep (al_at (w.alloc (.cells g.cells 32)) (.cells #[.int .i64 r] 3) (k := w.heap.size + 1) (by simp)) (.cells #[.slice none 0 0, .int .i64 0, .int .i64 0, .bool false] 188)) (.cells #[.slice none 0 0, .int .i64 0, .int .i64 0, .bool false] 188))
  have XR := Lib.hid (al_keep (al_at ((w.alloc (.cells g.cells 32)).alloc (.cells #[.int .i64 r] 3)) (.cells #[.slice none 0 0, .int .i64 0, .int .i64 0, .bool false] 188) (k := w.heap.size + 1 + 1) (by simp)) (.cells #[.slice none 0 0, .int .i64 0, .int .i64 0, .bool false] 188))
  have XO := Lib.hid (al_at (((w.alloc (.cells g.cells 32)).alloc (.cells #[.int .i64 r] 3)).alloc (.cells #[.slice none 0 0, .int .i64 0, .int .i64 0, .bool false] 188)) (.cells #[.slice none 0 0, .int .i64 0, .int .i64 0, .bool false] 188) (k := w.heap.size + 1 + 1 + 1) (by simp))
  obtain ⟨w1, hw1⟩ : ∃ w1, w1 = (((w.alloc (.cells g.cells 32)).alloc (.cells #[.int .i64 r] 3)).alloc (.cells #[.slice none 0 0, .int .i64 0, .int .i64 0, .bool false] 188)).alloc (.cells #[.slice none 0 0, .int .i64 0, .int .i64 0, .bool false] 188) := ⟨_, rfl⟩
  rw [← hw1] at BB XN XA XR XO
  have HW1 := Lib.hid hw1
  have HSZ : Hid (w.heap.size + 1 + 1 + 1 < w1.heap.size) := Lib.hid (block_lt XO.out)
  have OR := Lib.hid (orders137 w.heap.size (w.heap.size + 1) (w.heap.size + 1 + 1 + 1) (fun B w' => FoundB g r w1 (w.heap.size + 1 + 1 + 1) B w') (eachBest g r w w1 w.heap.size (w.heap.size + 1) (w.heap.size + 1 + 1 + 1) hg BB.out (by omega) XN.out XA.out (by omega) (by omega)) a n c V w1 (hs.below BB.out) hn hb
    (fun B w' h1 h2 h3 => ⟨Off.of_below h3, h1, HSZ.out, h2, none, 0, 0, fun _ => 0, 0, 0, false, (h3.block _ HSZ.out).trans XO.out, Sl.none (nf_len _), fun h => (by cases h), fun _ => ⟨rfl, rfl, rfl⟩, fun gb e => (by cases e)⟩))
  have HCC : Hid (g.cells = #[.int .i64 g.N, .slice g.ea g.em g.ec, .slice g.ta g.tn g.tc, .slice g.na g.nn g.nc, .int .i64 g.h]) := Lib.hid rfl
  rw [HCC.out] at HW1 ⊢
  clear hw1 hg hs hb XN XA XO
  go_enter Tryz.func117, Tryz.ntmps117
  go_wp2_with fail
  rw [← HW1.out]
  refine OR.out.mono ?_
  rintro e w2 ⟨rfl, B, hB, hJ⟩
  obtain ⟨fa, fn, fc, FR, fq, fd, ok, hbx, hfi⟩ := hJ.box
  have XR2 := Lib.hid ((hJ.off.block _ (block_lt XR.out) (by omega)).trans XR.out)
  have B2 : Hid (Below w.heap.size w w2) := Lib.hid (BB.out.trans (hJ.off.toBelow BB.out.size (fun q hq h => by have h : q = w.heap.size + 1 + 1 + 1 := h; omega)))
  have HFI := Lib.hid hfi
  have o0 := cell_at hbx 0
  have o1 := cell_at hbx 1
  have o2 := cell_at hbx 2
  have o3 := cell_at hbx 3
  have zo := szs (block_lt hbx)
  have r0 := cell_at XR2.out 0
  have r1 := cell_at XR2.out 1
  have r2 := cell_at XR2.out 2
  have r3 := cell_at XR2.out 3
  have rf := fun j => free_at XR2.out j
  have zr := szs (block_lt XR2.out)
  clear OR hbx hfi hJ XR hB
  go_wp2_with fail
  have hlt := block_lt XR2.out
  rw [setCell_at XR2.out, setAt_setCell hlt, setAt_setCell hlt, setAt_setCell hlt]
  have E4 : (setAt w2 (w.heap.size + 1 + 1) (.cells #[.slice fa fn fc, .int .i64 fq, .int .i64 fd, .bool ok] 188)).heap[w.heap.size + 1 + 1]? = some (.cells #[.slice fa fn fc, .int .i64 fq, .int .i64 fd, .bool ok] 188) := setAt_same hlt
  have e0 := cell_at E4 0
  have e1 := cell_at E4 1
  have e2 := cell_at E4 2
  have e3 := cell_at E4 3
  have os : Off (fun q => q = w.heap.size + 1 + 1) w2 (setAt w2 (w.heap.size + 1 + 1) (.cells #[.slice fa fn fc, .int .i64 fq, .int .i64 fd, .bool ok] 188)) := ⟨rfl, rfl, rfl, by simp [setAt], fun i hi hx => by
    show (w2.heap.setIfInBounds _ _)[i]? = _
    rw [Array.getElem?_setIfInBounds_ne (fun e => hx e.symm)]⟩
  refine bodyPost_ret (v := .agg #[.slice fa fn fc, .int .i64 fq, .int .i64 fd, .bool ok]) (by simp [results, Tryz.results117, go_sem, e0, e1, e2, e3]) rfl ⟨fa, fn, fc, FR, fq, fd, ok, rfl, below_setAt (by omega) B2.out, HFI.out.1.off os (fun gb e h => ?_), HFI.out.2.1, HFI.out.2.2.1, fun gb e => ⟨?_, fun h => h⟩⟩
  · have h : gb.block = w.heap.size + 1 + 1 := h
    have := (HFI.out.2.2.2 gb e).1
    have := HSZ.out
    omega
  · have := (HFI.out.2.2.2 gb e).1
    have := BB.out.size
    omega
end Go.Proofs.YtlnfhlmgnppcbaaGreat
