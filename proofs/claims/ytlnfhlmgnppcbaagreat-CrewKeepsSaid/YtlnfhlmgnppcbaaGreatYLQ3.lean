/- The law CrewKeeps. -/
import Derived.Test.YtlnfhlmgnppcbaaGreatRF8
import Derived.Test.YtlnfhlmgnppcbaaGreatYLQ1
import Derived.Test.YtlnfhlmgnppcbaaGreatYOPS
import Derived.Test.YtlnfhlmgnppcbaaGreatYAWS
import Derived.BigQuiet
namespace Go.Proofs.YtlnfhlmgnppcbaaGreat
open Go.RowKit Go.ChangeShapes Go.WideShapes Go.Deep
set_option linter.unusedVariables false
set_option linter.unusedSimpArgs false
open Rd
set_option maxRecDepth 8000 in
set_option maxHeartbeats 8000000 in
theorem run_crewKeeps {H : Type} {enc : TypeId × Value → H} (W : World) (base : Nat) (v0 : Value) (d0 : DataW H) (p0 : List MemPlace) (hv0 : Value.okWide Tryz.prog W .any base 32 v0) (h0 : DataW.Trod enc Tryz.prog W 0 (fun _ => true) true 32 v0 d0 p0)
    (v1 : Value) (d1 : DataW H) (p1 : List MemPlace) (hv1 : Value.okWide Tryz.prog W .any base 51 v1) (h1 : DataW.Trod enc Tryz.prog W 0 (fun _ => true) true 51 v1 d1 p1)
    (v2 : Value) (d2 : DataW H) (p2 : List MemPlace) (hv2 : Value.okWide Tryz.prog W .any base 3 v2) (h2 : DataW.Trod enc Tryz.prog W 0 (fun _ => true) true 3 v2 d2 p2)
    (v3 : Value) (d3 : DataW H) (p3 : List MemPlace) (hv3 : Value.okWide Tryz.prog W .any base 3 v3) (h3 : DataW.Trod enc Tryz.prog W 0 (fun _ => true) true 3 v3 d3 p3) :
    Calls Tryz.prog 5 #[v0, v1, v2, v3] W fun e w' => e = .returned (.bool true) ∧ Below W.heap.size W w' := by
  obtain ⟨g, rfl, hg⟩ := open_night hv0 h0
  obtain ⟨r, ra, k, rc, R, rfl, hR⟩ := open_route hv1 h1
  obtain ⟨done, rfl, rfl, rfl, _⟩ := open_int Tryz.underlying3 hv2 h2
  obtain ⟨now, rfl, rfl, rfl, _⟩ := open_int Tryz.underlying3 hv3 h3
  clear hv0 h0 hv1 h1 hv2 h2 hv3 h3
  have AW := Lib.hid (fun w' => awakeC19 w')
  have htm := hR.hm
  have htc := hR.hc
  have B0 : Hid (Below W.heap.size W ((W.alloc (.cells g.cells 32)).alloc (.cells #[.int .i64 r, .slice ra k rc] 51))) := Lib.hid (by (repeat' (first | (with_reducible exact Below.refl _ _) | (with_reducible assumption) | (with_reducible refine Below.drew ?_) | (with_reducible refine below_drewN ?_ _) | (with_reducible refine Below.alloc ?_ ?_ _) | (with_reducible refine Below.setCell ?_ ?_ _) | go_size)))
  have X0 := Lib.hid (al_keep (al_at W (.cells g.cells 32) rfl) (.cells #[.int .i64 r, .slice ra k rc] 51))
  have X1 := Lib.hid (al_at (W.alloc (.cells g.cells 32)) (.cells #[.int .i64 r, .slice ra k rc] 51) (k := W.heap.size + 1) (by simp))
  obtain ⟨w0, hw0⟩ : ∃ w0, w0 = (W.alloc (.cells g.cells 32)).alloc (.cells #[.int .i64 r, .slice ra k rc] 51) := ⟨_, rfl⟩
  rw [← hw0] at B0 X0 X1
  have HW0 := Lib.hid hw0
  have HG0 := Lib.hid (hg.below B0.out)
  have HR0 := Lib.hid (hR.below B0.out)
  have FEW := Lib.hid (few18 g w0 HG0.out)
  obtain ⟨q, hq⟩ : ∃ q, q = (decide (g.em ≤ 600) && decide (g.tn ≤ 20) && decide (g.nn ≤ 30)) := ⟨_, rfl⟩
  rw [← hq] at FEW
  have HCC : Hid (g.cells = #[.int .i64 g.N, .slice g.ea g.em g.ec, .slice g.ta g.tn g.tc, .slice g.na g.nn g.nc, .int .i64 g.h]) := Lib.hid rfl
  rw [HCC.out] at X0 HW0 FEW ⊢
  clear hw0 hg hR hq
  go_enter Tryz.func5, Tryz.ntmps5
  go_wp2_with fail
  rw [← HW0.out]
  have x0 := cell_kept (Below.refl w0.heap.size w0) (cell_at X0.out 0)
  have x1 := cell_kept (Below.refl w0.heap.size w0) (cell_at X0.out 1)
  have x2 := cell_kept (Below.refl w0.heap.size w0) (cell_at X0.out 2)
  have x3 := cell_kept (Below.refl w0.heap.size w0) (cell_at X0.out 3)
  have x4 := cell_kept (Below.refl w0.heap.size w0) (cell_at X0.out 4)
  have y0 := cell_kept (Below.refl w0.heap.size w0) (cell_at X1.out 0)
  have y1 := cell_kept (Below.refl w0.heap.size w0) (cell_at X1.out 1)
  try dsimp only at x0 x1 x2 x3 x4 y0 y1
  have zx := szs (cell_lt x0)
  have zy := szs (cell_lt y0)
  dsimp only at zx zy
  by_cases hn : 30 < k
  · have tn : decide ((30 : Int) < (k : Int)) = true := decide_eq_true (by omega)
    go_wp2_with fail
    refine FEW.out.mono ?_
    rintro e wf ⟨rfl, bf⟩
    have BF := Lib.hid (B0.out.trans (bf.mono B0.out.size))
    clear x0 x1 x2 x3 x4 zx y0 y1 zy
    have x0 := cell_kept bf (cell_at X0.out 0)
    have x1 := cell_kept bf (cell_at X0.out 1)
    have x2 := cell_kept bf (cell_at X0.out 2)
    have x3 := cell_kept bf (cell_at X0.out 3)
    have x4 := cell_kept bf (cell_at X0.out 4)
    have y0 := cell_kept bf (cell_at X1.out 0)
    have y1 := cell_kept bf (cell_at X1.out 1)
    try dsimp only at x0 x1 x2 x3 x4 y0 y1
    have zx := szs (cell_lt x0)
    have zy := szs (cell_lt y0)
    dsimp only at zx zy
    clear FEW bf
    cases q with
    | false =>
      go_wp2_with fail
      refine (AW.out _).mono ?_
      rintro e wz ⟨rfl, bz⟩
      have BZ := Lib.hid (BF.out.trans (bz.mono BF.out.size))
      clear bz
      go_wp2_with fail
      go_returns
      exact ⟨rfl, BZ.out⟩
    | true =>
      go_wp2_with fail
      refine (AW.out _).mono ?_
      rintro e wz ⟨rfl, bz⟩
      have BZ := Lib.hid (BF.out.trans (bz.mono BF.out.size))
      clear bz
      go_wp2_with fail
      go_returns
      exact ⟨rfl, BZ.out⟩
  have tn : decide ((30 : Int) < (k : Int)) = false := decide_eq_false (by omega)
  have hk : k ≤ 30 := by omega
  go_wp2_with fail
  refine FEW.out.mono ?_
  rintro e wf ⟨rfl, bf⟩
  have BF := Lib.hid (B0.out.trans (bf.mono B0.out.size))
  clear x0 x1 x2 x3 x4 zx y0 y1 zy
  have x0 := cell_kept bf (cell_at X0.out 0)
  have x1 := cell_kept bf (cell_at X0.out 1)
  have x2 := cell_kept bf (cell_at X0.out 2)
  have x3 := cell_kept bf (cell_at X0.out 3)
  have x4 := cell_kept bf (cell_at X0.out 4)
  have y0 := cell_kept bf (cell_at X1.out 0)
  have y1 := cell_kept bf (cell_at X1.out 1)
  try dsimp only at x0 x1 x2 x3 x4 y0 y1
  have zx := szs (cell_lt x0)
  have zy := szs (cell_lt y0)
  dsimp only at zx zy
  cases q with
  | false =>
    clear FEW bf
    go_wp2_with fail
    refine (AW.out _).mono ?_
    rintro e wz ⟨rfl, bz⟩
    have BZ := Lib.hid (BF.out.trans (bz.mono BF.out.size))
    clear bz
    go_wp2_with fail
    go_returns
    exact ⟨rfl, BZ.out⟩
  | true =>
    clear FEW
    have bF := Lib.hid bf
    have M1 := Lib.hid (cut23 g r R k ra rc done now wf (HG0.out.below bf) (HR0.out.below bf) (by omega))
    have M2 := Lib.hid (fun w' (hb : Below wf.heap.size wf w') => cutR24 g r R k ra rc done now w' ((HG0.out.below bf).below hb) ((HR0.out.below bf).below hb) (by omega))
    rw [HCC.out] at M1 M2
    unfold CutW at M1 M2
    generalize cutE g r R k done now = E at M1 M2
    generalize cutL g r R k done now = L at M1 M2
    obtain ⟨V, hV⟩ : ∃ V : Nat → Int, V = fun i => L.getD i 0 := ⟨_, rfl⟩
    rw [← hV] at M1 M2
    generalize L.length = m at M1 M2
    clear bf HR0 HG0 hV
    go_wp2_with fail
    refine M1.out.mono ?_
    rintro e w2 ⟨b2, h2⟩
    have B2 := Lib.hid (BF.out.trans (b2.mono BF.out.size))
    have bF2 := Lib.hid (bF.out.trans (b2.mono bF.out.size))
    have b2' := Lib.hid b2
    clear x0 x1 x2 x3 x4 zx y0 y1 zy
    have x0 := cell_kept bF2.out (cell_at X0.out 0)
    have x1 := cell_kept bF2.out (cell_at X0.out 1)
    have x2 := cell_kept bF2.out (cell_at X0.out 2)
    have x3 := cell_kept bF2.out (cell_at X0.out 3)
    have x4 := cell_kept bF2.out (cell_at X0.out 4)
    have y0 := cell_kept bF2.out (cell_at X1.out 0)
    have y1 := cell_kept bF2.out (cell_at X1.out 1)
    try dsimp only at x0 x1 x2 x3 x4 y0 y1
    have zx := szs (cell_lt x0)
    have zy := szs (cell_lt y0)
    dsimp only at zx zy
    clear b2 M1
    rcases h2 with ⟨hne, rfl⟩ | ⟨hz, v2, rfl, r2⟩
    · have HNE := Lib.hid hne
      clear hne
      go_wp2_with fail
      obtain ⟨wa, hwa⟩ : ∃ wa, wa = w2.alloc (.cells #[.int .i64 0, .slice none 0 0] 51) := ⟨_, rfl⟩
      have ba := Lib.hid (show Below wf.heap.size wf wa by rw [hwa]; exact Below.alloc b2'.out b2'.out.size _)
      have BA := Lib.hid (show Below W.heap.size W wa by rw [hwa]; exact Below.alloc B2.out B2.out.size _)
      have C2W := Lib.hid (show Below w2.heap.size w2 wa by rw [hwa]; exact Below.alloc (Below.refl w2.heap.size w2) (Nat.le_refl _) _)
      have Z := Lib.hid (al_at w2 (.cells #[.int .i64 0, .slice none 0 0] 51) rfl)
      rw [← hwa] at Z ⊢
      clear x0 x1 x2 x3 x4 zx y0 y1 zy
      refine (M2.out wa ba.out).mono ?_
      rintro e w3 ⟨b3, h3⟩
      rcases h3 with ⟨_, rfl⟩ | ⟨hz, _⟩
      rotate_left 1
      · exact absurd hz HNE.out
      have B3 := Lib.hid (BA.out.trans (b3.mono BA.out.size))
      have z0 := cell_kept b3 (cell_at Z.out 0)
      have z1 := cell_kept b3 (cell_at Z.out 1)
      try dsimp only at z0 z1
      have zz := szs (cell_lt z0)
      dsimp only at zz
      clear hwa Z
      clear b3 HNE M2 b2'
      go_wp2_with fail
      obtain ⟨wb, hwb⟩ : ∃ wb, wb = w3.alloc (.cells #[.int .i64 0, .slice none 0 0] 51) := ⟨_, rfl⟩
      have BB := Lib.hid (show Below W.heap.size W wb by rw [hwb]; exact Below.alloc B3.out B3.out.size _)
      clear z0 z1 zz
      rw [← hwb]
      have S3 := Lib.hid (sameRoute25 0 none none 0 0 0 V V wb (Sl.nil fun _ => rfl) (Sl.nil fun _ => rfl) (fun _ _ => rfl))
      refine S3.out.mono ?_
      rintro e w4 ⟨rfl, b4⟩
      have B4 := Lib.hid (BB.out.trans (b4.mono BB.out.size))
      clear b4 S3
      go_wp2_with fail
      refine (AW.out _).mono ?_
      rintro e wz ⟨rfl, bz⟩
      have BZ := Lib.hid (B4.out.trans (bz.mono B4.out.size))
      clear bz
      go_wp2_with fail
      go_returns
      exact ⟨rfl, BZ.out⟩
    · subst hz
      obtain ⟨a2, c2, rfl, s2⟩ := Row.toSl r2 (fun _ => rfl)
      have S2 := Lib.hid s2
      clear r2 s2
      go_wp2_with fail
      obtain ⟨wa, hwa⟩ : ∃ wa, wa = w2.alloc (.cells #[.int .i64 r, .slice a2 m c2] 51) := ⟨_, rfl⟩
      have ba := Lib.hid (show Below wf.heap.size wf wa by rw [hwa]; exact Below.alloc b2'.out b2'.out.size _)
      have BA := Lib.hid (show Below W.heap.size W wa by rw [hwa]; exact Below.alloc B2.out B2.out.size _)
      have C2W := Lib.hid (show Below w2.heap.size w2 wa by rw [hwa]; exact Below.alloc (Below.refl w2.heap.size w2) (Nat.le_refl _) _)
      have Z := Lib.hid (al_at w2 (.cells #[.int .i64 r, .slice a2 m c2] 51) rfl)
      rw [← hwa] at Z ⊢
      clear x0 x1 x2 x3 x4 zx y0 y1 zy
      refine (M2.out wa ba.out).mono ?_
      rintro e w3 ⟨b3, ⟨hne, _⟩ | ⟨_, v3, rfl, r3⟩⟩
      · exact absurd rfl hne
      obtain ⟨a3, c3, rfl, s3⟩ := Row.toSl r3 (fun _ => rfl)
      have S3' := Lib.hid s3
      have B3 := Lib.hid (BA.out.trans (b3.mono BA.out.size))
      have z0 := cell_kept b3 (cell_at Z.out 0)
      have z1 := cell_kept b3 (cell_at Z.out 1)
      try dsimp only at z0 z1
      have zz := szs (cell_lt z0)
      dsimp only at zz
      clear hwa Z
      have c3w := Lib.hid (C2W.out.trans (b3.mono C2W.out.size))
      clear b3 M2 b2' s3 r3
      go_wp2_with fail
      obtain ⟨wb, hwb⟩ : ∃ wb, wb = w3.alloc (.cells #[.int .i64 r, .slice a3 m c3] 51) := ⟨_, rfl⟩
      have BB := Lib.hid (show Below W.heap.size W wb by rw [hwb]; exact Below.alloc B3.out B3.out.size _)
      clear z0 z1 zz
      rw [← hwb]
      have c3b := Lib.hid (show Below w2.heap.size w2 wb by rw [hwb]; exact Below.alloc c3w.out c3w.out.size _)
      have c3s := Lib.hid (show Below w3.heap.size w3 wb by rw [hwb]; exact Below.alloc (Below.refl w3.heap.size w3) (Nat.le_refl _) _)
      have S3 := Lib.hid (sameRoute25 r a2 a3 m c2 c3 V V wb (S2.out.below c3b.out) (S3'.out.below c3s.out) (fun _ _ => rfl))
      refine S3.out.mono ?_
      rintro e w4 ⟨rfl, b4⟩
      have B4 := Lib.hid (BB.out.trans (b4.mono BB.out.size))
      clear b4 S3
      go_wp2_with fail
      refine (AW.out _).mono ?_
      rintro e wz ⟨rfl, bz⟩
      have BZ := Lib.hid (B4.out.trans (bz.mono B4.out.size))
      clear bz
      go_wp2_with fail
      go_returns
      exact ⟨rfl, BZ.out⟩
end Go.Proofs.YtlnfhlmgnppcbaaGreat
