/- The reference's custody: the events that have an effect. -/
import Derived.Test.YtlnfhlmgnppcbaaGreatZRG6
import Derived.Test.YtlnfhlmgnppcbaaGreatZCMZ
import Derived.BigQuiet
import Derived.BigRegion
namespace Go.Proofs.YtlnfhlmgnppcbaaGreat
open Go.RowKit Go.ChangeShapes Go.WideShapes Go.Deep
set_option linter.unusedVariables false
set_option linter.unusedSimpArgs false
set_option maxRecDepth 8000
set_option maxHeartbeats 8000000 in
theorem acceptedR56 (f : Fl) (ao : Option Addr) (n c : Nat) (F : Nat → Ev) (w : World) (hf : f.In w) (hs : EvSl w ao n c F) (hn : n ≤ 1000) (hin : ∀ e ∈ ents F n, inN e) :
    Calls Tryz.prog 56 #[.agg f.cells, .slice ao n c] w (AccE f (ents F n) w) := by
  have BB : Hid (Below w.heap.size w (w.alloc (.cells f.cells 24))) := Lib.hid (by (repeat' (first | (with_reducible exact Below.refl _ _) | (with_reducible assumption) | (with_reducible refine Below.drew ?_) | (with_reducible refine below_drewN ?_ _) | (with_reducible refine Below.alloc ?_ ?_ _) | (with_reducible refine Below.setCell ?_ ?_ _) | go_size)))
  have X0 := Lib.hid (al_at w (.cells f.cells 24) rfl)
  obtain ⟨w1, hw1⟩ : ∃ w1, w1 = w.alloc (.cells f.cells 24) := ⟨_, rfl⟩
  rw [← hw1] at BB X0
  have HW1 := Lib.hid hw1
  have HF := Lib.hid (hf.below BB.out)
  have HS := Lib.hid (hs.below BB.out)
  have HIN := Lib.hid hin
  have FT := Lib.hid (fleet64 f w1 HF.out)
  have HFC : Hid (f.cells = #[.int .i64 f.bikes, .int .i64 f.riders, .int .i64 f.devs, .slice f.ad f.nd f.cd, .slice f.a2 f.nt f.ct]) := Lib.hid rfl
  obtain ⟨x, hx⟩ : ∃ x, x = fleetE f := ⟨_, rfl⟩
  rw [← hx] at FT
  have HX := Lib.hid hx
  rw [HFC.out] at X0 HW1 FT ⊢
  clear hw1 hf hs hin hx
  have x0 := cell_at X0.out 0
  have x1 := cell_at X0.out 1
  have x2 := cell_at X0.out 2
  have x3 := cell_at X0.out 3
  have x4 := cell_at X0.out 4
  have zx := szs (block_lt X0.out)
  go_enter Tryz.func56, Tryz.ntmps56
  go_wp2_with fail
  rw [← HW1.out]
  refine FT.out.mono ?_
  rintro e w2 ⟨rfl, b2⟩
  have B2 := Lib.hid (BB.out.trans (b2.mono BB.out.size))
  by_cases h0 : x = 0
  · subst h0
    have RU := Lib.hid (runR65 f ao n c F w2 (HF.out.below b2) (HS.out.below b2) hn HIN.out HX.out.symm)
    rw [HFC.out] at RU
    replace x0 := cell_kept b2 x0
    replace x1 := cell_kept b2 x1
    replace x2 := cell_kept b2 x2
    replace x3 := cell_kept b2 x3
    replace x4 := cell_kept b2 x4
    clear zx FT b2
    have zx := szs (cell_lt x0)
    dsimp only at zx
    go_wp2_with fail
    refine RU.out.mono ?_
    rintro e w3 ⟨b3, sa, n1, sc, ta, n2, tc, ra, rn, rc, av, m, R, rfl, hrow, hR⟩
    have B3 := Lib.hid (B2.out.trans (b3.mono B2.out.size))
    have HRW := Lib.hid (Row.base_mono hrow B2.out.size)
    have HRR := Lib.hid hR
    have BA : Hid (Below w3.heap.size w3 (w3.alloc (.cells #[.slice sa n1 sc, .slice ta n2 tc] 122))) := Lib.hid (by (repeat' (first | (with_reducible exact Below.refl _ _) | (with_reducible assumption) | (with_reducible refine Below.drew ?_) | (with_reducible refine below_drewN ?_ _) | (with_reducible refine Below.alloc ?_ ?_ _) | (with_reducible refine Below.setCell ?_ ?_ _) | go_size)))
    clear x0 x1 x2 x3 x4 zx RU b3 hrow hR
    go_wp2_with fail
    go_returns
    exact ⟨B3.out.trans (BA.out.mono B3.out.size), .inr ⟨HX.out.symm, av, m, R, rfl, Row.off (X := fun _ => False) HRW.out (Off.of_below BA.out) (fun _ _ h => h), HRR.out⟩⟩
  · have tx : (x != 0) = true := by simpa using h0
    have H0 := Lib.hid h0
    clear x0 x1 x2 x3 x4 zx FT b2 h0
    go_wp2_with fail
    go_returns
    exact ⟨B2.out, .inl ⟨by rw [← HX.out]; exact H0.out, by rw [← HX.out]; rfl⟩⟩
end Go.Proofs.YtlnfhlmgnppcbaaGreat
