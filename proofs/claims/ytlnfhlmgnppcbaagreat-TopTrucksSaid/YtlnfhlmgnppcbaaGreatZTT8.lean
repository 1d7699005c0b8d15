/- The planner's exact way: the best route of what is left. -/
import Derived.Test.YtlnfhlmgnppcbaaGreatZTT6
import Derived.BigQuiet
import Derived.BigRegion
namespace Go.Proofs.YtlnfhlmgnppcbaaGreat
open Go.RowKit Go.ChangeShapes Go.WideShapes Go.Deep
set_option linter.unusedVariables false
set_option linter.unusedSimpArgs false
open Rd
def ExactW (g : Ng) (r : Int) (w : World) (e : Ending) (w' : World) : Prop :=
  Below w.heap.size w w' ∧ ∃ (a : Option Addr) (n c : Nat) (R : Nat → Int), e = .returned (.agg #[.int .i64 r, .slice a n c]) ∧ Sl w' 1 a n c (nf R) ∧ (∀ gb, a = some gb → w.heap.size ≤ gb.block) ∧ (0 < n → walkE g r R n = 0)
set_option maxRecDepth 8000 in
set_option maxHeartbeats 8000000 in
theorem exact43 (g : Ng) (r : Int) (V : Nat → Int) (n : Nat) (a : Option Addr) (c b : Nat) (f : Value) (w : World) (hg : g.In w) (hs : Sl w 1 a n c (nf V)) (hn : n ≤ 1000) (hnn : g.nn ≤ 16)
    (hp : w.heap[b]? = some (.cells #[.int .i64 g.N, .slice g.ea g.em g.ec, .slice g.ta g.tn g.tc, .slice g.na g.nn g.nc, .int .i64 g.h, f] 97 (0, 0))) :
    Calls Tryz.prog 43 #[.pointer (some ⟨b, 0, none⟩), .int .i64 r, .slice a n c] w (ExactW g r w) := by
  have BB : Hid (Below w.heap.size w (w.alloc (.cells #[.int .i64 0, .slice none 0 0] 51))) := Lib.hid (by (repeat' (first | (with_reducible exact Below.refl _ _) | (with_reducible assumption) | (with_reducible refine Below.drew ?_) | (with_reducible refine below_drewN ?_ _) | (with_reducible refine Below.alloc ?_ ?_ _) | (with_reducible refine Below.setCell ?_ ?_ _) | go_size)))
  have XR := Lib.hid (al_at w (.cells #[.int .i64 0, .slice none 0 0] 51) rfl)
  have XP := Lib.hid (al_keep hp (.cells #[.int .i64 0, .slice none 0 0] 51))
  obtain ⟨w1, hw1⟩ : ∃ w1, w1 = w.alloc (.cells #[.int .i64 0, .slice none 0 0] 51) := ⟨_, rfl⟩
  rw [← hw1] at BB XR XP
  have HW1 := Lib.hid hw1
  have MO := Lib.hid (most79 g r V n a c w1 (hg.below BB.out) (hs.below BB.out) hn hnn)
  have HCC : Hid (g.cells = #[.int .i64 g.N, .slice g.ea g.em g.ec, .slice g.ta g.tn g.tc, .slice g.na g.nn g.nc, .int .i64 g.h]) := Lib.hid rfl
  have hmc := hs.hm
  have hcc := hs.hc
  rw [HCC.out] at MO
  have HS := Lib.hid hs
  have HG := Lib.hid hg
  have x0 := cell_at XP.out 0
  have x1 := cell_at XP.out 1
  have x2 := cell_at XP.out 2
  have x3 := cell_at XP.out 3
  have x4 := cell_at XP.out 4
  have zx := szs (block_lt XP.out)
  clear hw1 hg hs hp
  unfold MostW at MO
  go_enter Tryz.func43, Tryz.ntmps43
  go_simp
  iterate 8 go_step
  rw [← HW1.out]
  go_wp2_with fail
  refine MO.out.mono ?_
  rintro e w2 ⟨b2, a', n', c', R, r', x, rfl, h2, hlo, hr, hd⟩
  have B2 := Lib.hid (BB.out.trans (b2.mono BB.out.size))
  have XR2 := Lib.hid ((b2.block _ (block_lt XR.out)).trans XR.out)
  have H2 := Lib.hid h2
  have HLO := Lib.hid hlo
  have HR := Lib.hid hr
  have HD := Lib.hid hd
  have hs1 := BB.out.size
  have HS1 : Hid (w.heap.size ≤ w1.heap.size) := Lib.hid hs1
  clear x0 x1 x2 x3 x4 zx MO b2 h2 hlo hr hd hs1
  by_cases hx : x = 0
  · have te : (x != 0) = false := by simpa using hx
    have HX := Lib.hid hx
    clear hx
    have r0 := cell_at XR2.out 0
    have r1 := cell_at XR2.out 1
    have rf := fun j => free_at XR2.out j
    have zr := szs (block_lt XR2.out)
    go_wp2_with fail
    have hlt' := block_lt XR2.out
    rw [setCell_at XR2.out, setAt_setCell hlt']
    have b4 : Below w.heap.size w (setAt w2 w.heap.size (.cells #[.int .i64 r', .slice a' n' c'] 51)) := below_setAt (Nat.le_refl _) B2.out
    have E4 := al_keep (setAt_same (w := w2) (o := .cells #[.int .i64 r', .slice a' n' c'] 51) hlt') (.cells #[.int .i64 r', .slice a' n' c'] 51)
    have ba : Below (setAt w2 w.heap.size (.cells #[.int .i64 r', .slice a' n' c'] 51)).heap.size (setAt w2 w.heap.size (.cells #[.int .i64 r', .slice a' n' c'] 51)) ((setAt w2 w.heap.size (.cells #[.int .i64 r', .slice a' n' c'] 51)).alloc (.cells #[.int .i64 r', .slice a' n' c'] 51)) := by (repeat' (first | (with_reducible exact Below.refl _ _) | (with_reducible assumption) | (with_reducible refine Below.drew ?_) | (with_reducible refine below_drewN ?_ _) | (with_reducible refine Below.alloc ?_ ?_ _) | (with_reducible refine Below.setCell ?_ ?_ _) | go_size))
    have b5 := b4.trans (ba.mono b4.size)
    have e0 := cell_at E4 0
    have e1 := cell_at E4 1
    have hs4 := (H2.out.off (off_setAt (w := w2) (b := w.heap.size) (o := .cells #[.int .i64 r', .slice a' n' c'] 51)) (fun gb e h => by
      have h : gb.block = w.heap.size := h
      have h1 := HLO.out gb e
      have h2 := block_lt XR.out
      omega)).below ba
    have hr9 : r' = r := HR.out HX.out
    exact bodyPost_ret (v := .agg #[.int .i64 r', .slice a' n' c']) (by simp [results, Tryz.results43, go_sem, e0, e1]) rfl ⟨b5, a', n', c', R, by rw [hr9], hs4, fun gb e => Nat.le_trans HS1.out (HLO.out gb e), fun hp => (HD.out hp).2⟩
  · have te : (x != 0) = true := by simpa using hx
    have HX := Lib.hid hx
    clear hx
    have r0 := cell_at XR2.out 0
    have r1 := cell_at XR2.out 1
    have rf := fun j => free_at XR2.out j
    have zr := szs (block_lt XR2.out)
    go_wp2_with fail
    have hlt' := block_lt XR2.out
    rw [setCell_at XR2.out, setAt_setCell hlt']
    have b4 : Below w.heap.size w (setAt w2 w.heap.size (.cells #[.int .i64 r, .slice none 0 0] 51)) := below_setAt (Nat.le_refl _) B2.out
    have E4 := al_keep (setAt_same (w := w2) (o := .cells #[.int .i64 r, .slice none 0 0] 51) hlt') (.cells #[.int .i64 r', .slice a' n' c'] 51)
    have ba : Below (setAt w2 w.heap.size (.cells #[.int .i64 r, .slice none 0 0] 51)).heap.size (setAt w2 w.heap.size (.cells #[.int .i64 r, .slice none 0 0] 51)) ((setAt w2 w.heap.size (.cells #[.int .i64 r, .slice none 0 0] 51)).alloc (.cells #[.int .i64 r', .slice a' n' c'] 51)) := by (repeat' (first | (with_reducible exact Below.refl _ _) | (with_reducible assumption) | (with_reducible refine Below.drew ?_) | (with_reducible refine below_drewN ?_ _) | (with_reducible refine Below.alloc ?_ ?_ _) | (with_reducible refine Below.setCell ?_ ?_ _) | go_size))
    have b5 := b4.trans (ba.mono b4.size)
    have e0 := cell_at E4 0
    have e1 := cell_at E4 1
    exact bodyPost_ret (v := .agg #[.int .i64 r, .slice none 0 0]) (by simp [results, Tryz.results43, go_sem, e0, e1]) rfl ⟨b5, none, 0, 0, fun _ => 0, rfl, Sl.none (nf_len _), fun gb e => (by cases e), fun h => absurd h (by omega)⟩
end Go.Proofs.YtlnfhlmgnppcbaaGreat
