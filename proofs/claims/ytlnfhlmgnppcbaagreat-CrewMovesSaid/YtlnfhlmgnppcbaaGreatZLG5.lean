/- The law CrewMoves. -/
import Derived.Test.YtlnfhlmgnppcbaaGreatZRG8
import Derived.Test.YtlnfhlmgnppcbaaGreatZOPL
import Derived.Test.YtlnfhlmgnppcbaaGreatZFEW
import Derived.Test.YtlnfhlmgnppcbaaGreatZCSA
import Derived.BigQuiet
namespace Go.Proofs.YtlnfhlmgnppcbaaGreat
open Go.RowKit Go.ChangeShapes Go.WideShapes Go.Deep
set_option linter.unusedVariables false
set_option linter.unusedSimpArgs false
set_option maxRecDepth 8000 in
set_option maxHeartbeats 8000000 in
theorem run_crewMoves {H : Type} {enc : TypeId × Value → H} (W : World) (base : Nat) (v0 : Value) (d0 : DataW H) (p0 : List MemPlace) (hv0 : Value.okWide Tryz.prog W .any base 24 v0) (h0 : DataW.Trod enc Tryz.prog W 0 (fun _ => true) true 24 v0 d0 p0)
    (v1 : Value) (d1 : DataW H) (p1 : List MemPlace) (hv1 : Value.okWide Tryz.prog W .any base 25 v1) (h1 : DataW.Trod enc Tryz.prog W 0 (fun _ => true) true 25 v1 d1 p1)
    (v2 : Value) (d2 : DataW H) (p2 : List MemPlace) (hv2 : Value.okWide Tryz.prog W .any base 3 v2) (h2 : DataW.Trod enc Tryz.prog W 0 (fun _ => true) true 3 v2 d2 p2)
    (v3 : Value) (d3 : DataW H) (p3 : List MemPlace) (hv3 : Value.okWide Tryz.prog W .any base 3 v3) (h3 : DataW.Trod enc Tryz.prog W 0 (fun _ => true) true 3 v3 d3 p3) :
    Calls Tryz.prog 6 #[v0, v1, v2, v3] W fun e w' => e = .returned (.bool true) ∧ Below W.heap.size W w' := by
  obtain ⟨f, rfl, hf, _⟩ := open_fleet hv0 h0
  obtain ⟨ao, n, c, F, rfl, hs, hF⟩ := open_events hv1 h1
  obtain ⟨num, rfl, rfl, rfl, _⟩ := open_int Tryz.underlying3 hv2 h2
  obtain ⟨tm, rfl, rfl, rfl, _⟩ := open_int Tryz.underlying3 hv3 h3
  clear hv0 h0 hv1 h1 hv2 h2 hv3 h3
  have AW := Lib.hid (fun w' => awakeC19 w')
  have hmc := hs.hm
  have hcc := hs.hc
  have B0 : Hid (Below W.heap.size W (W.alloc (.cells f.cells 24))) := Lib.hid (by (repeat' (first | (with_reducible exact Below.refl _ _) | (with_reducible assumption) | (with_reducible refine Below.drew ?_) | (with_reducible refine below_drewN ?_ _) | (with_reducible refine Below.alloc ?_ ?_ _) | (with_reducible refine Below.setCell ?_ ?_ _) | go_size)))
  have X0 := Lib.hid (al_at W (.cells f.cells 24) rfl)
  obtain ⟨w0, hw0⟩ : ∃ w0, w0 = W.alloc (.cells f.cells 24) := ⟨_, rfl⟩
  rw [← hw0] at B0 X0
  have HW0 := Lib.hid hw0
  have HF0 := Lib.hid (hf.below B0.out)
  have HS := Lib.hid (hs.below B0.out)
  have HFI : Hid (∀ e ∈ ents F n, inN e) := Lib.hid (fun e he => by
    obtain ⟨i, hi, rfl⟩ := mem_ents.1 he
    exact hF i hi)
  have FEW := Lib.hid (few26 f w0 HF0.out)
  obtain ⟨q, hq⟩ : ∃ q, q = (decide (f.nd ≤ 100) && decide (f.nt ≤ 100)) := ⟨_, rfl⟩
  rw [← hq] at FEW
  have HFC : Hid (f.cells = #[.int .i64 f.bikes, .int .i64 f.riders, .int .i64 f.devs, .slice f.ad f.nd f.cd, .slice f.a2 f.nt f.ct]) := Lib.hid rfl
  rw [HFC.out] at X0 HW0 FEW ⊢
  clear hw0 hf hs hF hq
  go_enter Tryz.func6, Tryz.ntmps6
  go_wp2_with fail
  rw [← HW0.out]
  have x0 := cell_kept (Below.refl w0.heap.size w0) (cell_at X0.out 0)
  have x1 := cell_kept (Below.refl w0.heap.size w0) (cell_at X0.out 1)
  have x2 := cell_kept (Below.refl w0.heap.size w0) (cell_at X0.out 2)
  have x3 := cell_kept (Below.refl w0.heap.size w0) (cell_at X0.out 3)
  have x4 := cell_kept (Below.refl w0.heap.size w0) (cell_at X0.out 4)
  try dsimp only at x0 x1 x2 x3 x4
  have zx := szs (cell_lt x0)
  dsimp only at zx
  by_cases hn : 60 < n
  · have tn : decide ((60 : Int) < (n : Int)) = true := decide_eq_true (by omega)
    go_wp2_with fail
    refine FEW.out.mono ?_
    rintro e wf ⟨rfl, bf⟩
    have BF := Lib.hid (B0.out.trans (bf.mono B0.out.size))
    clear FEW bf
    clear x0 x1 x2 x3 x4 zx
    cases q with
    | false =>
      go_wp2_with fail
      refine (AW.out _).mono ?_
      rintro e wz ⟨rfl, bz⟩
      have BZ := Lib.hid (BF.out.trans (bz.mono BF.out.size))
      clear bz
      go_wp2_with fail
      go_returns
      exact ⟨rfl, BZ.out⟩
    | true =>
      go_wp2_with fail
      refine (AW.out _).mono ?_
      rintro e wz ⟨rfl, bz⟩
      have BZ := Lib.hid (BF.out.trans (bz.mono BF.out.size))
      clear bz
      go_wp2_with fail
      go_returns
      exact ⟨rfl, BZ.out⟩
  have tn : decide ((60 : Int) < (n : Int)) = false := decide_eq_false (by omega)
  have hnl : (n : Int) ≤ 60 := by omega
  go_wp2_with fail
  refine FEW.out.mono ?_
  rintro e wf ⟨rfl, bf⟩
  have BF := Lib.hid (B0.out.trans (bf.mono B0.out.size))
  cases q with
  | false =>
    clear FEW bf
    clear x0 x1 x2 x3 x4 zx
    go_wp2_with fail
    refine (AW.out _).mono ?_
    rintro e wz ⟨rfl, bz⟩
    have BZ := Lib.hid (BF.out.trans (bz.mono BF.out.size))
    clear bz
    go_wp2_with fail
    go_returns
    exact ⟨rfl, BZ.out⟩
  | true =>
    clear x0 x1 x2 x3 x4 zx
    have x0 := cell_kept bf (cell_at X0.out 0)
    have x1 := cell_kept bf (cell_at X0.out 1)
    have x2 := cell_kept bf (cell_at X0.out 2)
    have x3 := cell_kept bf (cell_at X0.out 3)
    have x4 := cell_kept bf (cell_at X0.out 4)
    try dsimp only at x0 x1 x2 x3 x4
    have zx := szs (cell_lt x0)
    dsimp only at zx
    have bF := Lib.hid bf
    have M1 := Lib.hid (moved13 f ao n c F num tm wf (HF0.out.below bf) (HS.out.below bf) (by omega) HFI.out)
    have M2 := Lib.hid (fun w' (hb : Below wf.heap.size wf w') => movedR27 f ao n c F num tm w' ((HF0.out.below bf).below hb) ((HS.out.below bf).below hb) (by omega) HFI.out)
    rw [HFC.out] at M1 M2
    generalize movedV f (ents F n) num tm = X at *
    obtain ⟨a1, a2, a3⟩ := X
    dsimp only at M1 M2
    clear FEW bf
    go_wp2_with fail
    refine M1.out.mono ?_
    rintro e w4 ⟨rfl, b4⟩
    have BF4 := Lib.hid (BF.out.trans (b4.mono BF.out.size))
    have B34 := Lib.hid b4
    clear x0 x1 x2 x3 x4 zx
    have b04 := bF.out.trans (b4.mono bF.out.size)
    have x0 := cell_kept b04 (cell_at X0.out 0)
    have x1 := cell_kept b04 (cell_at X0.out 1)
    have x2 := cell_kept b04 (cell_at X0.out 2)
    have x3 := cell_kept b04 (cell_at X0.out 3)
    have x4 := cell_kept b04 (cell_at X0.out 4)
    try dsimp only at x0 x1 x2 x3 x4
    have zx := szs (cell_lt x0)
    dsimp only at zx
    clear M1 b4 b04
    go_wp2_with fail
    refine (M2.out w4 B34.out).mono ?_
    rintro e w5 ⟨rfl, b5⟩
    have BF5 := Lib.hid (BF4.out.trans (b5.mono BF4.out.size))
    clear x0 x1 x2 x3 x4 zx
    clear M2 b5 B34
    go_wp2_with fail
    refine (AW.out _).mono ?_
    rintro e wz ⟨rfl, bz⟩
    have BZ := Lib.hid (BF5.out.trans (bz.mono BF5.out.size))
    clear bz
    go_wp2_with fail
    go_returns
    exact ⟨rfl, BZ.out⟩
end Go.Proofs.YtlnfhlmgnppcbaaGreat
