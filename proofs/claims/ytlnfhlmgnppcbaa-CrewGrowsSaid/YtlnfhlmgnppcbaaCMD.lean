/- Custody: the events that have an effect. -/
import Derived.Test.YtlnfhlmgnppcbaaCMC
import Derived.Test.YtlnfhlmgnppcbaaCRTA
namespace Go.Proofs.Ytlnfhlmgnppcbaa
open Go.RowKit Go.ChangeShapes Go.WideShapes Go.Deep Go.Maps
set_option linter.unusedVariables false
set_option linter.unusedSimpArgs false
theorem lookA (f : Fl) (O : Nat) : Look f 72 O (.slice none 0 0) 30 (Noted O) where
  off h ho h1 h2 := h.off ho h1 h2
  row h hg := by
    obtain ⟨R, r1, r2⟩ := h.row
    exact World.ownsRow.lt r1 _ hg
  start h hl := ⟨Noted.start h hl, rfl⟩
  seen x err hC hs hJ hl hc := by
    exact note72 _ O _ _ _ x err _ hJ hC.hi (by omega)
/-- What Accepted returns. -/
def AccE (f : Fl) (l : List Ev) (w : World) (e : Ending) (w' : World) : Prop :=
  Below w.heap.size w w' ∧ ((fleetE f ≠ 0 ∧ e = .returned (.tuple #[.slice none 0 0, .int .i64 (fleetE f)])) ∨
    (fleetE f = 0 ∧ ∃ (v : Value) (m : Nat) (R : Nat → Ev), e = .returned (.tuple #[v, .int .i64 0]) ∧ EvRow w' w.heap.size v m R ∧ ents R m = (runE f l).2))
set_option maxRecDepth 8000 in
set_option maxHeartbeats 4000000 in
theorem accepted51 (f : Fl) (ao : Option Addr) (n c : Nat) (F : Nat → Ev) (w : World) (hf : f.In w) (hs : EvSl w ao n c F) (hn : n ≤ 1000) (hin : ∀ e ∈ ents F n, inN e) :
    Calls Try.prog 51 #[.agg f.cells, .slice ao n c] w (AccE f (ents F n) w) := by
  have B0 : Hid (Below w.heap.size w ((w.alloc (.cells f.cells 44)).alloc (.cells #[.slice none 0 0] 30))) := Lib.hid (by (repeat' (first | (with_reducible exact Below.refl _ _) | (with_reducible assumption) | (with_reducible refine Below.drew ?_) | (with_reducible refine below_drewN ?_ _) | (with_reducible refine Below.alloc ?_ ?_ _) | (with_reducible refine Below.setCell ?_ ?_ _) | go_size)))
  have XO : Hid (((w.alloc (.cells f.cells 44)).alloc (.cells #[.slice none 0 0] 30)).heap[w.heap.size + 1]? = some (.cells #[.slice none 0 0] 30 (0, 0))) := Lib.hid (by
    have h0 := heap_alloc_new (w.alloc (.cells f.cells 44)) (.cells #[.slice none 0 0] 30)
    rwa [show (w.alloc (.cells f.cells 44)).heap.size = w.heap.size + 1 by simp] at h0)
  have HSZ : Hid (((w.alloc (.cells f.cells 44)).alloc (.cells #[.slice none 0 0] 30)).heap.size = w.heap.size + 2) := Lib.hid (by simp)
  obtain ⟨w1, hw1⟩ : ∃ w1, w1 = (w.alloc (.cells f.cells 44)).alloc (.cells #[.slice none 0 0] 30) := ⟨_, rfl⟩
  rw [← hw1] at B0 XO HSZ
  have HW1 := Lib.hid hw1
  have RN := Lib.hid (runTellA f (lookA f (w.heap.size + 1)) ao n c F w w1 hf hs hn hin B0.out (by omega) (by rw [HSZ.out]; omega) XO.out)
  have HFC : Hid (f.cells = #[.int .i64 f.bikes, .int .i64 f.riders, .int .i64 f.devs, .slice f.ad f.nd f.cd, .slice f.a2 f.nt f.ct]) := Lib.hid rfl
  rw [HFC.out] at HW1 RN ⊢
  clear hw1 hf hs hin
  go_enter Try.func51, Try.ntmps51
  go_wp2_with fail
  rw [← HW1.out]
  go_wp2_with fail
  refine RN.out.mono ?_
  rintro e w2 ⟨b2, ⟨h1, rfl, hx⟩ | ⟨h1, sb, lo, v, rfl, hJ⟩⟩
  · have BE := Lib.hid b2
    have H1 := Lib.hid h1
    have o0 := cell_at hx 0
    have zo := szs (block_lt hx)
    clear RN h1 b2 hx
    go_wp2_with fail
    go_returns
    exact ⟨BE.out, .inl ⟨H1.out, rfl⟩⟩
  · have BE := Lib.hid b2
    have H1 := Lib.hid h1
    have o0 := cell_at hJ.box 0
    have zo := szs (block_lt hJ.box)
    have HJ := Lib.hid hJ
    clear RN h1 b2 hJ
    go_wp2_with fail
    go_returns
    obtain ⟨R, r1, r2⟩ := HJ.out.row
    exact ⟨BE.out, .inr ⟨H1.out, v, _, R, rfl, Row.base_mono r1 (by have := HJ.out.apart; omega), r2⟩⟩
end Go.Proofs.Ytlnfhlmgnppcbaa
