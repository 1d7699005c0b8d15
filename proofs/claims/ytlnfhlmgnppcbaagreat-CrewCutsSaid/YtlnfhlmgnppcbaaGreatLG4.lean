/- The law CrewCuts. -/
import Derived.Test.YtlnfhlmgnppcbaaGreatRF9
import Derived.Test.YtlnfhlmgnppcbaaGreatCWS
import Derived.Test.YtlnfhlmgnppcbaaGreatYLQ1
import Derived.Test.YtlnfhlmgnppcbaaGreatYOPS
import Derived.Test.YtlnfhlmgnppcbaaGreatYAWS
import Derived.BigQuiet
namespace Go.Proofs.YtlnfhlmgnppcbaaGreat
open Go.RowKit Go.ChangeShapes Go.WideShapes Go.Deep
set_option linter.unusedVariables false
set_option linter.unusedSimpArgs false
open Rd
set_option maxRecDepth 8000 in
set_option maxHeartbeats 8000000 in
theorem run_crewCuts {H : Type} {enc : TypeId × Value → H} (W : World) (base : Nat) (v0 : Value) (d0 : DataW H) (p0 : List MemPlace) (hv0 : Value.okWide Tryz.prog W .any base 32 v0) (h0 : DataW.Trod enc Tryz.prog W 0 (fun _ => true) true 32 v0 d0 p0)
    (v1 : Value) (d1 : DataW H) (p1 : List MemPlace) (hv1 : Value.okWide Tryz.prog W .any base 51 v1) (h1 : DataW.Trod enc Tryz.prog W 0 (fun _ => true) true 51 v1 d1 p1)
    (v2 : Value) (d2 : DataW H) (p2 : List MemPlace) (hv2 : Value.okWide Tryz.prog W .any base 3 v2) (h2 : DataW.Trod enc Tryz.prog W 0 (fun _ => true) true 3 v2 d2 p2)
    (v3 : Value) (d3 : DataW H) (p3 : List MemPlace) (hv3 : Value.okWide Tryz.prog W .any base 3 v3) (h3 : DataW.Trod enc Tryz.prog W 0 (fun _ => true) true 3 v3 d3 p3) :
    Calls Tryz.prog 8 #[v0, v1, v2, v3] W fun e w' => e = .returned (.bool true) ∧ Below W.heap.size W w' := by
  obtain ⟨g, rfl, hg⟩ := open_night hv0 h0
  obtain ⟨r, ra, k, rc, R, rfl, hR⟩ := open_route hv1 h1
  obtain ⟨done, rfl, rfl, rfl, _⟩ := open_int Tryz.underlying3 hv2 h2
  obtain ⟨now, rfl, rfl, rfl, _⟩ := open_int Tryz.underlying3 hv3 h3
  clear hv0 h0 hv1 h1 hv2 h2 hv3 h3
  have AW := Lib.hid (fun w' => awakeC19 w')
  have htm := hR.hm
  have htc := hR.hc
  have B0 : Hid (Below W.heap.size W ((W.alloc (.cells g.cells 32)).alloc (.cells #[.int .i64 r, .slice ra k rc] 51))) := Lib.hid (by (repeat' (first | (with_reducible exact Below.refl _ _) | (with_reducible assumption) | (with_reducible refine Below.drew ?_) | (with_reducible refine below_drewN ?_ _) | (with_reducible refine Below.alloc ?_ ?_ _) | (with_reducible refine Below.setCell ?_ ?_ _) | go_size)))
  have X0 := Lib.hid (al_keep (al_at W (.cells g.cells 32) rfl) (.cells #[.int .i64 r, .slice ra k rc] 51))
  have X1 := Lib.hid (al_at (W.alloc (.cells g.cells 32)) (.cells #[.int .i64 r, .slice ra k rc] 51) (k := W.heap.size + 1) (by simp))
  obtain ⟨w0, hw0⟩ : ∃ w0, w0 = (W.alloc (.cells g.cells 32)).alloc (.cells #[.int .i64 r, .slice ra k rc] 51) := ⟨_, rfl⟩
  rw [← hw0] at B0 X0 X1
  have HW0 := Lib.hid hw0
  have HG0 := Lib.hid (hg.below B0.out)
  have HR0 := Lib.hid (hR.below B0.out)
  have FEW := Lib.hid (few18 g w0 HG0.out)
  obtain ⟨qf, hq⟩ : ∃ q, q = (decide (g.em ≤ 600) && decide (g.tn ≤ 20) && decide (g.nn ≤ 30)) := ⟨_, rfl⟩
  rw [← hq] at FEW
  have HCC : Hid (g.cells = #[.int .i64 g.N, .slice g.ea g.em g.ec, .slice g.ta g.tn g.tc, .slice g.na g.nn g.nc, .int .i64 g.h]) := Lib.hid rfl
  rw [HCC.out] at X0 HW0 FEW ⊢
  have HGW := Lib.hid hg
  have HRW := Lib.hid hR
  clear hw0 hg hR hq
  go_enter Tryz.func8, Tryz.ntmps8
  go_wp2_with fail
  rw [← HW0.out]
  have x0 := cell_kept (Below.refl w0.heap.size w0) (cell_at X0.out 0)
  have x1 := cell_kept (Below.refl w0.heap.size w0) (cell_at X0.out 1)
  have x2 := cell_kept (Below.refl w0.heap.size w0) (cell_at X0.out 2)
  have x3 := cell_kept (Below.refl w0.heap.size w0) (cell_at X0.out 3)
  have x4 := cell_kept (Below.refl w0.heap.size w0) (cell_at X0.out 4)
  have y0 := cell_kept (Below.refl w0.heap.size w0) (cell_at X1.out 0)
  have y1 := cell_kept (Below.refl w0.heap.size w0) (cell_at X1.out 1)
  try dsimp only at x0 x1 x2 x3 x4 y0 y1
  have zx := szs (cell_lt x0)
  have zy := szs (cell_lt y0)
  dsimp only at zx zy
  by_cases hn : 30 < k
  · have tn : decide ((30 : Int) < (k : Int)) = true := decide_eq_true (by omega)
    go_wp2_with fail
    refine FEW.out.mono ?_
    rintro e wf ⟨rfl, bf⟩
    have BF := Lib.hid (B0.out.trans (bf.mono B0.out.size))
    clear x0 x1 x2 x3 x4 zx y0 y1 zy
    have x0 := cell_kept bf (cell_at X0.out 0)
    have x1 := cell_kept bf (cell_at X0.out 1)
    have x2 := cell_kept bf (cell_at X0.out 2)
    have x3 := cell_kept bf (cell_at X0.out 3)
    have x4 := cell_kept bf (cell_at X0.out 4)
    have y0 := cell_kept bf (cell_at X1.out 0)
    have y1 := cell_kept bf (cell_at X1.out 1)
    try dsimp only at x0 x1 x2 x3 x4 y0 y1
    have zx := szs (cell_lt x0)
    have zy := szs (cell_lt y0)
    dsimp only at zx zy
    clear FEW bf
    cases qf with
    | false =>
      go_wp2_with fail
      refine (AW.out _).mono ?_
      rintro e wz ⟨rfl, bz⟩
      have BZ := Lib.hid (BF.out.trans (bz.mono BF.out.size))
      clear bz
      go_wp2_with fail
      go_returns
      exact ⟨rfl, BZ.out⟩
    | true =>
      go_wp2_with fail
      refine (AW.out _).mono ?_
      rintro e wz ⟨rfl, bz⟩
      have BZ := Lib.hid (BF.out.trans (bz.mono BF.out.size))
      clear bz
      go_wp2_with fail
      go_returns
      exact ⟨rfl, BZ.out⟩
  have tn : decide ((30 : Int) < (k : Int)) = false := decide_eq_false (by omega)
  have hk : k ≤ 30 := by omega
  go_wp2_with fail
  refine FEW.out.mono ?_
  rintro e wf ⟨rfl, bf⟩
  have BF := Lib.hid (B0.out.trans (bf.mono B0.out.size))
  clear x0 x1 x2 x3 x4 zx y0 y1 zy
  have x0 := cell_kept bf (cell_at X0.out 0)
  have x1 := cell_kept bf (cell_at X0.out 1)
  have x2 := cell_kept bf (cell_at X0.out 2)
  have x3 := cell_kept bf (cell_at X0.out 3)
  have x4 := cell_kept bf (cell_at X0.out 4)
  have y0 := cell_kept bf (cell_at X1.out 0)
  have y1 := cell_kept bf (cell_at X1.out 1)
  try dsimp only at x0 x1 x2 x3 x4 y0 y1
  have zx := szs (cell_lt x0)
  have zy := szs (cell_lt y0)
  dsimp only at zx zy
  cases qf with
  | false =>
    clear FEW bf
    go_wp2_with fail
    refine (AW.out _).mono ?_
    rintro e wz ⟨rfl, bz⟩
    have BZ := Lib.hid (BF.out.trans (bz.mono BF.out.size))
    clear bz
    go_wp2_with fail
    go_returns
    exact ⟨rfl, BZ.out⟩
  | true =>
    clear FEW
    have bF := Lib.hid bf
    have M1 := Lib.hid (cut23 g r R k ra rc done now wf (HG0.out.below bf) (HR0.out.below bf) (by omega))
    have M2 := Lib.hid (fun w' (hb : Below wf.heap.size wf w') => walkR28 g r R k ra rc w' ((HG0.out.below bf).below hb) ((HR0.out.below bf).below hb) (by omega))
    have HEW : Hid (walkE g r R k ≠ 0 → cutE g r R k done now = walkE g r R k) := Lib.hid (fun h => cutE_walk h)
    have HCP := Lib.hid (fun h : cutE g r R k done now = 0 => cutP_ex h)
    rw [HCC.out] at M1 M2
    unfold CutW at M1
    generalize cutE g r R k done now = E at M1 HEW HCP
    clear bf HR0 HG0
    go_wp2_with fail
    refine M1.out.mono ?_
    rintro e w2 ⟨b2, h2⟩
    have B2 := Lib.hid (BF.out.trans (b2.mono BF.out.size))
    have bF2 := Lib.hid (bF.out.trans (b2.mono bF.out.size))
    have b2' := Lib.hid b2
    clear x0 x1 x2 x3 x4 zx y0 y1 zy
    have x0 := cell_kept bF2.out (cell_at X0.out 0)
    have x1 := cell_kept bF2.out (cell_at X0.out 1)
    have x2 := cell_kept bF2.out (cell_at X0.out 2)
    have x3 := cell_kept bF2.out (cell_at X0.out 3)
    have x4 := cell_kept bF2.out (cell_at X0.out 4)
    have y0 := cell_kept bF2.out (cell_at X1.out 0)
    have y1 := cell_kept bF2.out (cell_at X1.out 1)
    try dsimp only at x0 x1 x2 x3 x4 y0 y1
    have zx := szs (cell_lt x0)
    have zy := szs (cell_lt y0)
    dsimp only at zx zy
    clear b2 M1
    rcases h2 with ⟨hne, rfl⟩ | ⟨hz, v2, rfl, r2⟩
    · have te : (E != 0) = true := by simpa using hne
      have te2 : (E == 0) = false := by simpa using hne
      clear hne HCP HGW HRW
      go_wp2_with fail
      obtain ⟨wa, hwa⟩ : ∃ wa, wa = w2.alloc (.cells #[.int .i64 0, .slice none 0 0] 51) := ⟨_, rfl⟩
      have ba := Lib.hid (show Below wf.heap.size wf wa by rw [hwa]; exact Below.alloc b2'.out b2'.out.size _)
      have BA := Lib.hid (show Below W.heap.size W wa by rw [hwa]; exact Below.alloc B2.out B2.out.size _)
      have C2W := Lib.hid (show Below w2.heap.size w2 wa by rw [hwa]; exact Below.alloc (Below.refl w2.heap.size w2) (Nat.le_refl _) _)
      have Z := Lib.hid (al_at w2 (.cells #[.int .i64 0, .slice none 0 0] 51) rfl)
      rw [← hwa] at Z ⊢
      clear x0 x1 x2 x3 x4 zx y0 y1 zy
      refine (M2.out wa ba.out).mono ?_
      rintro e w3 ⟨b3, h3⟩
      clear M2
      rcases h3 with ⟨hf, rfl⟩ | ⟨hf, v3, rfl, r3⟩
      · obtain rfl := HEW.out hf
        clear hf HEW
        have B3 := Lib.hid (BA.out.trans (b3.mono BA.out.size))
        have bF3 := Lib.hid (bF2.out.trans ((C2W.out.trans (b3.mono C2W.out.size)).mono bF2.out.size))
        have Z3 := Lib.hid ((b3.block _ (block_lt Z.out)).trans Z.out)
        clear hwa Z
        have z0 := cell_kept (Below.refl w3.heap.size w3) (cell_at Z3.out 0)
        have z1 := cell_kept (Below.refl w3.heap.size w3) (cell_at Z3.out 1)
        try dsimp only at z0 z1
        have zz := szs (cell_lt z0)
        dsimp only at zz
        clear b3 b2'
        go_wp2_with fail
        refine (AW.out _).mono ?_
        rintro e wz ⟨rfl, bz⟩
        have BZ := Lib.hid (B3.out.trans (bz.mono B3.out.size))
        clear bz
        go_wp2_with fail
        go_returns
        exact ⟨rfl, BZ.out⟩
      · clear hf HEW r3
        have B3 := Lib.hid (BA.out.trans (b3.mono BA.out.size))
        have bF3 := Lib.hid (bF2.out.trans ((C2W.out.trans (b3.mono C2W.out.size)).mono bF2.out.size))
        have Z3 := Lib.hid ((b3.block _ (block_lt Z.out)).trans Z.out)
        clear hwa Z
        have z0 := cell_kept (Below.refl w3.heap.size w3) (cell_at Z3.out 0)
        have z1 := cell_kept (Below.refl w3.heap.size w3) (cell_at Z3.out 1)
        try dsimp only at z0 z1
        have zz := szs (cell_lt z0)
        dsimp only at zz
        clear b3 b2'
        go_wp2_with fail
        refine (AW.out _).mono ?_
        rintro e wz ⟨rfl, bz⟩
        have BZ := Lib.hid (B3.out.trans (bz.mono B3.out.size))
        clear bz
        go_wp2_with fail
        go_returns
        exact ⟨rfl, BZ.out⟩
    · subst hz
      obtain ⟨n, d, q, m, KV, PP, LL, rfl, rfl, hqt, hm, hKV, hk16, hNO, hro, hwz, hn0, hn1, hre, hP, hdep, hnd, htl, hvis, hz0⟩ := HCP.out rfl
      rw [hm, hKV] at r2
      obtain ⟨a2, c2, rfl, s2⟩ := Row.toSl r2 (fun _ => rfl)
      have S2 := Lib.hid s2
      have hm2 := s2.hm
      have hc2 := s2.hc
      have hle := hP.le
      clear r2 s2 HEW HCP hm hKV
      have MR := Lib.hid (fun w' (hb : Below W.heap.size W w') => rest20 g (q : Int) R k ra rc (d : Int) now w' (HGW.out.below hb) (HRW.out.below hb) (by omega))
      unfold RestW at MR
      obtain ⟨RE, hRE⟩ : ∃ RE, RE = restE g (q : Int) R k (d : Int) now := ⟨_, rfl⟩
      rw [← hRE] at hre MR
      have HRE := Lib.hid hre
      obtain ⟨tb, to, htb, hgt, tc0, tc1, tc2, tc3⟩ := HGW.out.trucks.tk hqt
      have HD := Lib.hid hNO.D
      have HNO := Lib.hid hNO
      have HRO := Lib.hid hro
      have HNI := Lib.hid hnd
      obtain ⟨t, ht⟩ : ∃ t, t = g.T q := ⟨_, rfl⟩
      have hdq : ∃ dp : Nat, t.dep = (dp : Int) := Int.eq_ofNat_of_zero_le (by rw [ht]; exact hdep.1)
      have HTQ := Lib.hid ht.symm
      rw [← ht] at hP hdep htl hvis hz0 tc0 tc1 tc2 tc3
      obtain ⟨dp, hdp⟩ := hdq
      obtain ⟨tdep, tcap, tfrm, ttil⟩ := t
      dsimp only at hdp hdep htl tc0 tc1 tc2 tc3 hz0
      subst hdp
      have hdpn : dp < n := by omega
      have TC0 := Lib.hid tc0
      have TC1 := Lib.hid tc1
      have TC2 := Lib.hid tc2
      have TC3 := Lib.hid tc3
      have HVI := Lib.hid hvis
      have HZ0 := Lib.hid hz0
      have HP := Lib.hid hP
      have hh0 := hNO.h0
      have hh1 := hNO.h1
      have hNn := hNO.hN
      have hn2 := hNO.right.n2
      have HWZ := Lib.hid hwz
      have HNN := Lib.hid hNn
      clear hre hRE hNO hro hnd ht tc0 tc1 tc2 tc3 hvis hz0 hP hgt hwz hNn
      have tq : (q : Int) < (g.tn : Int) := by omega
      have td0 : decide ((d : Int) < 0) = false := decide_eq_false (by omega)
      have td1 : decide ((k : Int) < (d : Int)) = false := decide_eq_false (by omega)
      have td2 : decide ((m : Int) < (d : Int)) = false := decide_eq_false (by omega)
      have td3 : decide ((k : Int) < (m : Int)) = false := decide_eq_false (by omega)
      have td4 : (d : Int) ≤ (c2 : Int) := by omega
      have td5 : (d : Int) ≤ (rc : Int) := by omega
      clear x0 x1 x2 x3 x4 zx y0 y1 zy
      rw [htb] at X0 HW0 HCC
      rw [HCC.out] at MR
      have HTB := Lib.hid htb
      clear htb
      have x0 := cell_kept bF2.out (cell_at X0.out 0)
      have x1 := cell_kept bF2.out (cell_at X0.out 1)
      have x2 := cell_kept bF2.out (cell_at X0.out 2)
      have x3 := cell_kept bF2.out (cell_at X0.out 3)
      have x4 := cell_kept bF2.out (cell_at X0.out 4)
      have y0 := cell_kept bF2.out (cell_at X1.out 0)
      have y1 := cell_kept bF2.out (cell_at X1.out 1)
      try dsimp only at x0 x1 x2 x3 x4 y0 y1
      have zx := szs (cell_lt x0)
      have zy := szs (cell_lt y0)
      dsimp only at zx zy
      go_wp2_with fail
      obtain ⟨wa, hwa⟩ : ∃ wa, wa = w2.alloc (.cells #[.int .i64 (q : Int), .slice a2 m c2] 51) := ⟨_, rfl⟩
      have ba := Lib.hid (show Below wf.heap.size wf wa by rw [hwa]; exact Below.alloc b2'.out b2'.out.size _)
      have BA := Lib.hid (show Below W.heap.size W wa by rw [hwa]; exact Below.alloc B2.out B2.out.size _)
      have C2W := Lib.hid (show Below w2.heap.size w2 wa by rw [hwa]; exact Below.alloc (Below.refl w2.heap.size w2) (Nat.le_refl _) _)
      have Z := Lib.hid (al_at w2 (.cells #[.int .i64 (q : Int), .slice a2 m c2] 51) rfl)
      rw [← hwa] at Z ⊢
      clear x0 x1 x2 x3 x4 zx y0 y1 zy
      have M3 := M2.out wa ba.out
      rw [HTB.out] at M3
      refine M3.mono ?_
      rintro e w3 ⟨b3, h3⟩
      clear M2 M3
      rcases h3 with ⟨hf, _⟩ | ⟨h0w, v3, rfl, r3⟩
      · exact absurd HWZ.out hf
      clear h0w
      obtain ⟨a3, c3, rfl, s3⟩ := ViRow.toSl r3
      have S3 := Lib.hid s3
      have hm3 := s3.hm
      have hc3 := s3.hc
      have B3 := Lib.hid (BA.out.trans (b3.mono BA.out.size))
      have bF3 := Lib.hid (bF2.out.trans ((C2W.out.trans (b3.mono C2W.out.size)).mono bF2.out.size))
      have Z3 := Lib.hid ((b3.block _ (block_lt Z.out)).trans Z.out)
      clear hwa Z
      have S2' := Lib.hid ((S2.out.below C2W.out).below b3)
      clear b3 b2' r3 s3 S2 C2W
      have x0 := cell_kept bF3.out (cell_at X0.out 0)
      have x1 := cell_kept bF3.out (cell_at X0.out 1)
      have x2 := cell_kept bF3.out (cell_at X0.out 2)
      have x3 := cell_kept bF3.out (cell_at X0.out 3)
      have x4 := cell_kept bF3.out (cell_at X0.out 4)
      have y0 := cell_kept bF3.out (cell_at X1.out 0)
      have y1 := cell_kept bF3.out (cell_at X1.out 1)
      try dsimp only at x0 x1 x2 x3 x4 y0 y1
      have zx := szs (cell_lt x0)
      have zy := szs (cell_lt y0)
      dsimp only at zx zy
      have z0 := cell_kept (Below.refl w3.heap.size w3) (cell_at Z3.out 0)
      have z1 := cell_kept (Below.refl w3.heap.size w3) (cell_at Z3.out 1)
      try dsimp only at z0 z1
      have zz := szs (cell_lt z0)
      dsimp only at zz
      have p0 := cell_kept B3.out TC0.out
      have p1 := cell_kept B3.out TC1.out
      have p2 := cell_kept B3.out TC2.out
      have p3 := cell_kept B3.out TC3.out
      try dsimp only at p0 p1 p2 p3
      have zp := szs (cell_lt p0)
      dsimp only at zp
      have HVS : Hid (∀ i, d = i + 1 → (visK g ⟨(dp : Int), tcap, tfrm, ttil⟩ R i).load = loadK g R d) := Lib.hid (fun i hi => (HVI.out i hi).2)
      have eT : g.T ((q : Int)).toNat = ⟨(dp : Int), tcap, tfrm, ttil⟩ := by rw [Int.toNat_natCast, HTQ.out]
      rw [eT] at S3
      obtain ⟨VV, hVV⟩ : ∃ VV, VV = visK g ⟨(dp : Int), tcap, tfrm, ttil⟩ R := ⟨_, rfl⟩
      rw [← hVV] at S3 HVS
      generalize backK g (g.T ((q : Int)).toNat) R k = bk
      clear hVV eT
      by_cases hd0 : d = 0
      · have tp : decide ((0 : Int) < (d : Int)) = false := decide_eq_false (by omega)
        have tp2 : decide (0 < d) = false := decide_eq_false (by omega)
        have HD0 := Lib.hid hd0
        clear hd0
        go_wp2_with fail
        obtain ⟨wt, hwt⟩ : ∃ wt, wt = w3.alloc (.cells #[.int .i64 (dp : Int), .int .i64 tcap, .int .i64 tfrm, .int .i64 ttil] 62) := ⟨_, rfl⟩
        have XT := Lib.hid (heap_alloc_new w3 (.cells #[.int .i64 (dp : Int), .int .i64 tcap, .int .i64 tfrm, .int .i64 ttil] 62))
        have b3t : Below w3.heap.size w3 (w3.alloc (.cells #[.int .i64 (dp : Int), .int .i64 tcap, .int .i64 tfrm, .int .i64 ttil] 62)) := by (repeat' (first | (with_reducible exact Below.refl _ _) | (with_reducible assumption) | (with_reducible refine Below.drew ?_) | (with_reducible refine below_drewN ?_ _) | (with_reducible refine Below.alloc ?_ ?_ _) | (with_reducible refine Below.setCell ?_ ?_ _) | go_size))
        have szt : (w3.alloc (.cells #[.int .i64 (dp : Int), .int .i64 tcap, .int .i64 tfrm, .int .i64 ttil] 62)).heap.size = w3.heap.size + 1 := by simp
        rw [← hwt] at XT b3t szt ⊢
        have BT := Lib.hid (B3.out.trans (b3t.mono B3.out.size))
        have bFT := Lib.hid (bF3.out.trans (b3t.mono bF3.out.size))
        have ZT := Lib.hid ((b3t.block _ (block_lt Z3.out)).trans Z3.out)
        have S2T := Lib.hid (S2'.out.below b3t)
        have S3T := Lib.hid (S3.out.below b3t)
        have HSZT := Lib.hid szt
        obtain ⟨wp, hwp⟩ : ∃ wp, wp = wt.alloc (.cells #[.int .i64 (dp : Int), .int .i64 now, .int .i64 0] 74) := ⟨_, rfl⟩
        have XP := heap_alloc_new wt (.cells #[.int .i64 (dp : Int), .int .i64 now, .int .i64 0] 74)
        have bpp : Below wt.heap.size wt (wt.alloc (.cells #[.int .i64 (dp : Int), .int .i64 now, .int .i64 0] 74)) := by (repeat' (first | (with_reducible exact Below.refl _ _) | (with_reducible assumption) | (with_reducible refine Below.drew ?_) | (with_reducible refine below_drewN ?_ _) | (with_reducible refine Below.alloc ?_ ?_ _) | (with_reducible refine Below.setCell ?_ ?_ _) | go_size))
        rw [HSZT.out] at XP
        rw [← hwp] at XP bpp ⊢
        replace XP := Lib.hid XP
        have BP := Lib.hid bpp
        clear bpp hwp szt b3t hwt Z3 S2' S3 B3 bF3 x0 x1 x2 x3 x4 zx y0 y1 zy z0 z1 zz p0 p1 p2 p3 zp
        have BX := BP
        have XPX : Hid (wp.heap[w3.heap.size + 1]? = some (.cells #[.int .i64 (PP 0).at', .int .i64 (PP 0).now, .int .i64 (PP 0).load] 74 (0, 0))) := Lib.hid (by
          rw [HP.out.p0]
          obtain ⟨h1, h2⟩ := HZ0.out HD0.out
          dsimp only
          rw [h1, h2]; exact XP.out)
        clear XP BP
        generalize wp = wx at *
        have SM := Lib.hid (fun w' (hb : Below wx.heap.size wx w') => same29 _ _ d c2 rc KV R w' (((S2T.out.below BX.out).below hb).cut hle.1) ((HRW.out.below ((BT.out.trans (BX.out.mono BT.out.size)).trans (hb.mono (BT.out.trans (BX.out.mono BT.out.size)).size))).cut hle.2.2) (fun i hi => HP.out.same i hi))
        have x0 := cell_kept BX.out (cell_kept bFT.out (cell_at X0.out 0))
        have x1 := cell_kept BX.out (cell_kept bFT.out (cell_at X0.out 1))
        have x2 := cell_kept BX.out (cell_kept bFT.out (cell_at X0.out 2))
        have x3 := cell_kept BX.out (cell_kept bFT.out (cell_at X0.out 3))
        have x4 := cell_kept BX.out (cell_kept bFT.out (cell_at X0.out 4))
        have y0 := cell_kept BX.out (cell_kept bFT.out (cell_at X1.out 0))
        have y1 := cell_kept BX.out (cell_kept bFT.out (cell_at X1.out 1))
        have z0 := cell_kept BX.out (cell_at ZT.out 0)
        have z1 := cell_kept BX.out (cell_at ZT.out 1)
        have t0 := cell_kept BX.out (cell_at XT.out 0)
        have t1 := cell_kept BX.out (cell_at XT.out 1)
        have t2 := cell_kept BX.out (cell_at XT.out 2)
        have t3 := cell_kept BX.out (cell_at XT.out 3)
        have zx := szs (cell_lt x0)
        have zy := szs (cell_lt y0)
        have zz := szs (cell_lt z0)
        have zt := szs (cell_lt t0)
        dsimp only at zx zy zz zt
        (refine region_order (fun i : Nat => World.drewN _ i) [] [0, 1, 2, 3, 4, 5, 6, 7] 8 [9] mixed (by kernel_rfl) ⟨1, rfl⟩ ?_; simp only [List.map_cons, List.map_nil, Array.getD_eq_getD_getElem?, List.getElem?_toArray, List.getElem?_cons_zero, List.getElem?_cons_succ, Option.getD_some]; (repeat (refine wpPure_cons _ rfl (fun w' => by go_simp; try rfl) ?_; dsimp only [Act.put])); refine wpPure_nil ?_; (repeat (any_goals (first | go_big_quiet_step (fail) | quiet_step (fail) | (refine wpQuiet_step (fun K hK => ?_); go_simp; split <;> (refine hK _ ?_; clear hK K))))); (all_goals (refine wpQuiet_nil (fun nq => ?_))))
        go_wp2_with fail
        refine (SM.out _ (below_drewN (Below.refl _ _) nq)).mono ?_
        rintro e w8 ⟨rfl, b8⟩
        have bd8 : Below wx.heap.size wx w8 := (below_drewN (Below.refl wx.heap.size wx) nq).trans (b8.mono (below_drewN (Below.refl wx.heap.size wx) nq).size)
        have BL := Lib.hid (BX.out.trans (bd8.mono BX.out.size))
        have XL := Lib.hid ((bd8.block _ (block_lt XPX.out)).trans XPX.out)
        clear x0 x1 x2 x3 x4 y0 y1 z0 z1 t0 t1 t2 t3 zx zy zz zt
        clear SM b8 bd8 BX XPX
        have x0 := cell_kept BL.out (cell_kept bFT.out (cell_at X0.out 0))
        have x1 := cell_kept BL.out (cell_kept bFT.out (cell_at X0.out 1))
        have x2 := cell_kept BL.out (cell_kept bFT.out (cell_at X0.out 2))
        have x3 := cell_kept BL.out (cell_kept bFT.out (cell_at X0.out 3))
        have x4 := cell_kept BL.out (cell_kept bFT.out (cell_at X0.out 4))
        have y0 := cell_kept BL.out (cell_kept bFT.out (cell_at X1.out 0))
        have y1 := cell_kept BL.out (cell_kept bFT.out (cell_at X1.out 1))
        have z0 := cell_kept BL.out (cell_at ZT.out 0)
        have z1 := cell_kept BL.out (cell_at ZT.out 1)
        have t0 := cell_kept BL.out (cell_at XT.out 0)
        have t1 := cell_kept BL.out (cell_at XT.out 1)
        have t2 := cell_kept BL.out (cell_at XT.out 2)
        have t3 := cell_kept BL.out (cell_at XT.out 3)
        have zx := szs (cell_lt x0)
        have zy := szs (cell_lt y0)
        have zz := szs (cell_lt z0)
        have zt := szs (cell_lt t0)
        dsimp only at zx zy zz zt
        go_wp2_with fail
        refine onlyN_intro ?_
        go_wp2_with fail
        clear x0 x1 x2 x3 x4 y0 y1 z0 z1 t0 t1 t2 t3 zx zy zz zt
        go_loopw [16, 17] (fun s16 s17 wr => ∃ i j x : Nat, s17 = .int .i64 (i : Int) ∧ s16 = .int .i64 (x : Int) ∧ i ≤ k ∧ Hid (i = d + j ∧ x = LL j) ∧ Hid (Below wt.heap.size wt wr) ∧ Hid (wr.heap[w3.heap.size + 1]? = some (.cells #[.int .i64 (PP j).at', .int .i64 (PP j).now, .int .i64 (PP j).load] 74 (0, 0)))) (fun _ s17 _ => k - (intOf s17).toNat)
        case atStart => exact ⟨d, 0, d, rfl, rfl, hle.2.2, Lib.hid ⟨rfl, HP.out.l0.symm⟩, BL, XL⟩
        case round =>
          obtain ⟨i, j, x, rfl, rfl, hik, hij, hB, hX⟩ := hrel
          have HIJ := hij
          have BR := hB
          have XR := hX
          clear hij hB hX BL XL
          have BW := Lib.hid (BT.out.trans (BR.out.mono BT.out.size))
          by_cases hlt : i < k
          · have ti : (i : Int) < (k : Int) := by omega
            obtain ⟨rb, ro, hra, hrb, cr⟩ := (HRW.out.below BW.out).num hlt
            cases hra
            obtain ⟨y, hy⟩ := Int.eq_ofNat_of_zero_le (HNI.out i hlt).1
            have hyn : y < g.nn := by have := (HNI.out i hlt).2; omega
            have bdj := HP.out.bd j (by have := HIJ.out; omega)
            have hlk := HP.out.look j (by have := HIJ.out; omega)
            have hys := HP.out.yes j (by have := HIJ.out; omega)
            have hns := HP.out.no j (by have := HIJ.out; omega)
            have SV := fun w' (hb : Below wr.heap.size wr w') => serveL30 HNO.out HRO.out ⟨(dp : Int), tcap, tfrm, ttil⟩ (PP j) y hyn w' ((HGW.out.below BW.out).below hb) bdj.1 bdj.2.1 bdj.2.2.1 hdep
            rw [← HIJ.out.1, hy, ← HIJ.out.2] at hlk hys hns
            rw [hy] at cr
            rw [HCC.out] at SV
            dsimp only at SV
            obtain ⟨ok, hok⟩ : ∃ ok, ok = okB g ⟨(dp : Int), tcap, tfrm, ttil⟩ (PP j) (y : Int) := ⟨_, rfl⟩
            obtain ⟨ns, hnse⟩ : ∃ ns, ns = servO g (PP j) (y : Int) := ⟨_, rfl⟩
            rw [← hok] at hlk hys hns SV
            rw [← hnse] at hys SV
            obtain ⟨n1, n2, n3⟩ := ns
            dsimp only at SV
            have HYS := Lib.hid hys
            have HNS := Lib.hid hns
            have HLK := Lib.hid hlk
            have HXS := Lib.hid (show wr.heap[w3.heap.size + 1]? = some (.cells #[.int .i64 (PP j).at', .int .i64 (PP j).now, .int .i64 (PP j).load] 74 (0, 0)) from XR.out)
            generalize (PP j).at' = a1 at XR SV
            generalize (PP j).now = a3 at XR SV
            generalize (PP j).load = a2' at XR SV
            have SV := Lib.hid SV
            have u0 := cell_at XR.out 0
            have u1 := cell_at XR.out 1
            have u2 := cell_at XR.out 2
            have zr := szs hrb
            clear hok hnse hys hns hlk bdj hy
            have x0 := cell_kept BR.out (cell_kept bFT.out (cell_at X0.out 0))
            have x1 := cell_kept BR.out (cell_kept bFT.out (cell_at X0.out 1))
            have x2 := cell_kept BR.out (cell_kept bFT.out (cell_at X0.out 2))
            have x3 := cell_kept BR.out (cell_kept bFT.out (cell_at X0.out 3))
            have x4 := cell_kept BR.out (cell_kept bFT.out (cell_at X0.out 4))
            have y0 := cell_kept BR.out (cell_kept bFT.out (cell_at X1.out 0))
            have y1 := cell_kept BR.out (cell_kept bFT.out (cell_at X1.out 1))
            have z0 := cell_kept BR.out (cell_at ZT.out 0)
            have z1 := cell_kept BR.out (cell_at ZT.out 1)
            have t0 := cell_kept BR.out (cell_at XT.out 0)
            have t1 := cell_kept BR.out (cell_at XT.out 1)
            have t2 := cell_kept BR.out (cell_at XT.out 2)
            have t3 := cell_kept BR.out (cell_at XT.out 3)
            have zx := szs (cell_lt x0)
            have zy := szs (cell_lt y0)
            have zz := szs (cell_lt z0)
            have zt := szs (cell_lt t0)
            dsimp only at zx zy zz zt
            go_wp2_with fail
            (obtain ⟨ι, hne, Fw, fb, hF⟩ := grow_family wr); have hF : ∀ w', (sPlan wr (fun s => s = [.tuple #[.agg #[.int .i64 n1, .int .i64 n3, .int .i64 n2], .bool ok]]) [8] [(12, fun b => .pointer (some ⟨b, 0, none⟩), .cells #[.int .i64 0, .int .i64 0, .int .i64 0] 74)] [(13, 12)]).D [] w' → ∃ i, w' = Fw i := hF
            have fx0 := fun i => cell_kept (fb i) x0
            have fx1 := fun i => cell_kept (fb i) x1
            have fx2 := fun i => cell_kept (fb i) x2
            have fx3 := fun i => cell_kept (fb i) x3
            have fx4 := fun i => cell_kept (fb i) x4
            have fy1 := fun i => cell_kept (fb i) y1
            have ft0 := fun i => cell_kept (fb i) t0
            have ft1 := fun i => cell_kept (fb i) t1
            have ft2 := fun i => cell_kept (fb i) t2
            have ft3 := fun i => cell_kept (fb i) t3
            have fu0 := fun i => cell_kept (fb i) u0
            have fu1 := fun i => cell_kept (fb i) u1
            have fu2 := fun i => cell_kept (fb i) u2
            have fcr := fun i => cell_kept (fb i) cr
            clear x0 x1 x2 x3 x4 y0 y1 z0 z1 t0 t1 t2 t3 zx zy zz zt
            clear u0 u1 u2
            replace cr := Lib.hid cr
            (refine region_chainO (sPlan wr (fun s => s = [.tuple #[.agg #[.int .i64 n1, .int .i64 n3, .int .i64 n2], .bool ok]]) [8] [(12, fun b => .pointer (some ⟨b, 0, none⟩), .cells #[.int .i64 0, .int .i64 0, .int .i64 0] 74)] [(13, 12)]) [] [] [0, 1, 2, 3, 4, 5, 6, 7, 12, 8, 9, 10, 11, 13, 14] [] mixed (by kernel_rfl) (by kernel_rfl) (fun _ _ h => nomatch h) (sPlan_ok (by simp) (by simp)) sPlan_start ?_; refine wpPure_nil ?_; simp only [List.map_cons, List.map_nil, Array.getD_eq_getD_getElem?, List.getElem?_toArray, List.getElem?_cons_zero, List.getElem?_cons_succ, Option.getD_some])
            (repeat (first | (refine wpChainO_skip rfl ?_; simp only [Act.put, List.setIfInBounds_toArray, List.set_cons_succ, List.set_cons_zero]) | (refine wpChainO_quiet hF rfl rfl rfl ?_; intro K hK; go_big_quiet_op; go_big_quiet_on) | (refine wpChainO_pure _ rfl rfl (fun w' _ => by go_simp; try rfl) ?_; simp only [Act.put, List.setIfInBounds_toArray, List.set_cons_succ, List.set_cons_zero])))
            (refine wpChainO_alloc _ _ rfl (List.mem_cons_self ..) rfl (fun w' => by go_simp) (fun b18 hb18 => ?_); simp only [Act.put, List.setIfInBounds_toArray, List.set_cons_succ, List.set_cons_zero])
            refine wpChainO_scall 30 #[.agg #[.int .i64 g.N, .slice g.ea g.em g.ec, .slice (some ⟨tb, to, none⟩) g.tn g.tc, .slice g.na g.nn g.nc, .int .i64 g.h], .agg #[.int .i64 (dp : Int), .int .i64 tcap, .int .i64 tfrm, .int .i64 ttil], .agg #[.int .i64 a1, .int .i64 a3, .int .i64 a2'], .int .i64 (y : Int)] rfl rfl (fun w' => by go_simp) (fun w' hb => ?_) ?_
            · refine (SV.out w' hb).mono ?_
              rintro e w5 ⟨rfl, hb5⟩
              exact ⟨_, rfl, rfl, hb5⟩
            rintro u9 hu9
            cases hu9
            simp only [Act.put, List.setIfInBounds_toArray, List.set_cons_succ, List.set_cons_zero]
            (repeat (first | (refine wpChainO_skip rfl ?_; simp only [Act.put, List.setIfInBounds_toArray, List.set_cons_succ, List.set_cons_zero]) | (refine wpChainO_quiet hF rfl rfl rfl ?_; intro K hK; go_big_quiet_op; go_big_quiet_on) | (refine wpChainO_pure _ rfl rfl (fun w' _ => by go_simp; try rfl) ?_; simp only [Act.put, List.setIfInBounds_toArray, List.set_cons_succ, List.set_cons_zero])))
            (refine wpChainO_store 12 b18 (.cells #[.int .i64 0, .int .i64 0, .int .i64 0] 74) (.cells #[.int .i64 n1, .int .i64 n3, .int .i64 n2] 74) rfl (by simp [sPlan]) (by simp [setB]) (by simp [setB]) rfl (fun w' hw' => by have c0 := cell_at hw' 0; have c1 := cell_at hw' 1; have c2 := cell_at hw' 2; have g0 := free_at hw'; have hlt := block_lt hw'; go_simp; rw [setCell_at hw', setAt_setCell hlt, setAt_setCell hlt]; rfl) ?_; simp only [Act.put, List.setIfInBounds_toArray, List.set_cons_succ, List.set_cons_zero])
            (repeat (first | (refine wpChainO_skip rfl ?_; simp only [Act.put, List.setIfInBounds_toArray, List.set_cons_succ, List.set_cons_zero]) | (refine wpChainO_quiet hF rfl rfl rfl ?_; intro K hK; go_big_quiet_op; go_big_quiet_on) | (refine wpChainO_pure _ rfl rfl (fun w' _ => by go_simp; try rfl) ?_; simp only [Act.put, List.setIfInBounds_toArray, List.set_cons_succ, List.set_cons_zero])))
            refine wpChainO_nil (fun w9 hb9 hl9 => ?_)
            have b9 : Below wr.heap.size wr w9 := hb9
            have X18 := Lib.hid (hl9.1.2 (12, b18, .cells #[.int .i64 n1, .int .i64 n3, .int .i64 n2] 74) (by simp [setB])).2
            have BR9 := Lib.hid (BR.out.trans (b9.mono BR.out.size))
            have XR9 := Lib.hid ((b9.block _ (block_lt HXS.out)).trans HXS.out)
            have cr9 := Lib.hid (cell_kept b9 cr.out)
            clear hb9 hl9 hF fb hne b9 fx0 fx1 fx2 fx3 fx4 fy1 ft0 ft1 ft2 ft3 fu0 fu1 fu2 fcr XR HXS SV BR cr hb18
            refine onlyN_intro ?_
            rcases HLK.out with ⟨hxm, hokv⟩ | ⟨hmx, hokv⟩
            · have tb1 : decide ((x : Int) < (m : Int)) = true := decide_eq_true (by omega)
              have tx : (x : Int) < (m : Int) := by omega
              obtain ⟨kb, ko, rfl, hkb, ck⟩ := (S2T.out.below BR9.out).num hxm
              have zk := szs hkb
              cases ok with
              | true =>
                have te : (KV x == (y : Int)) = true := hokv.symm
                obtain ⟨hP1, hL1⟩ := HYS.out rfl
                have HP1 := Lib.hid hP1
                have HL1 := Lib.hid hL1
                clear hokv hP1 hL1
                generalize KV x = kv at ck te
                have cr := cr9.out
                have x0 := cell_kept BR9.out (cell_kept bFT.out (cell_at X0.out 0))
                have x1 := cell_kept BR9.out (cell_kept bFT.out (cell_at X0.out 1))
                have x2 := cell_kept BR9.out (cell_kept bFT.out (cell_at X0.out 2))
                have x3 := cell_kept BR9.out (cell_kept bFT.out (cell_at X0.out 3))
                have x4 := cell_kept BR9.out (cell_kept bFT.out (cell_at X0.out 4))
                have y0 := cell_kept BR9.out (cell_kept bFT.out (cell_at X1.out 0))
                have y1 := cell_kept BR9.out (cell_kept bFT.out (cell_at X1.out 1))
                have z0 := cell_kept BR9.out (cell_at ZT.out 0)
                have z1 := cell_kept BR9.out (cell_at ZT.out 1)
                have t0 := cell_kept BR9.out (cell_at XT.out 0)
                have t1 := cell_kept BR9.out (cell_at XT.out 1)
                have t2 := cell_kept BR9.out (cell_at XT.out 2)
                have t3 := cell_kept BR9.out (cell_at XT.out 3)
                have zx := szs (cell_lt x0)
                have zy := szs (cell_lt y0)
                have zz := szs (cell_lt z0)
                have zt := szs (cell_lt t0)
                dsimp only at zx zy zz zt
                go_wp2_with fail
                (refine region_all (fun i : Nat => World.drewN _ i) mixed (by kernel_rfl) ⟨1, rfl⟩ ?_; (repeat (any_goals (first | go_big_quiet_step (fail) | quiet_step (fail) | (refine wpQuiet_step (fun K hK => ?_); go_simp; split <;> (refine hK _ ?_; clear hK K))))); (all_goals (refine wpQuiet_nil (fun nq => ?_))))
                clear x0 x1 x2 x3 x4 y0 y1 z0 z1 t0 t1 t2 t3 zx zy zz zt
                have BQ := below_drewN (Below.refl w9.heap.size w9) nq
                have BRQ := Lib.hid (BR9.out.trans (BQ.mono BR9.out.size))
                have X18q := (BQ.block _ (block_lt X18.out)).trans X18.out
                have XRq := (BQ.block _ (block_lt XR9.out)).trans XR9.out
                have v0 := cell_at X18q 0
                have v1 := cell_at X18q 1
                have v2 := cell_at X18q 2
                have zv := szs (block_lt X18q)
                have u0 := cell_at XRq 0
                have u1 := cell_at XRq 1
                have u2 := cell_at XRq 2
                have uf := fun j => free_at XRq j
                have zu := szs (block_lt XRq)
                have HXQ := Lib.hid XRq
                clear BQ X18q XRq X18 XR9 BR9 cr cr9 ck te
                generalize w9.drewN nq = w10 at *
                go_wp2_with fail
                go_roundw
                case rel =>
                  have hlt' := block_lt HXQ.out
                  refine ⟨i + 1, j + 1, x + 1, by go_num, by go_num, by omega, Lib.hid ⟨by have := HIJ.out; omega, HL1.out.symm⟩, Lib.hid ?_, Lib.hid ?_⟩
                  · have hge : wt.heap.size ≤ w3.heap.size + 1 := by rw [HSZT.out]; omega
                    exact ((BRQ.out.setCell (p := ⟨w3.heap.size + 1, 0, none⟩) hge _).setCell (p := ⟨w3.heap.size + 1, 1, none⟩) hge _).setCell (p := ⟨w3.heap.size + 1, 2, none⟩) hge _
                  · rw [setCell_at HXQ.out, setAt_setCell hlt', setAt_setCell hlt', setAt_same hlt', HP1.out]; rfl
                case measure => simp [intOf]; omega
              | false =>
                have te : (KV x == (y : Int)) = false := hokv.symm
                obtain ⟨hP1, hL1⟩ := HNS.out rfl
                have HP1 := Lib.hid hP1
                have HL1 := Lib.hid hL1
                clear hokv hP1 hL1
                generalize KV x = kv at ck te
                have cr := cr9.out
                have x0 := cell_kept BR9.out (cell_kept bFT.out (cell_at X0.out 0))
                have x1 := cell_kept BR9.out (cell_kept bFT.out (cell_at X0.out 1))
                have x2 := cell_kept BR9.out (cell_kept bFT.out (cell_at X0.out 2))
                have x3 := cell_kept BR9.out (cell_kept bFT.out (cell_at X0.out 3))
                have x4 := cell_kept BR9.out (cell_kept bFT.out (cell_at X0.out 4))
                have y0 := cell_kept BR9.out (cell_kept bFT.out (cell_at X1.out 0))
                have y1 := cell_kept BR9.out (cell_kept bFT.out (cell_at X1.out 1))
                have z0 := cell_kept BR9.out (cell_at ZT.out 0)
                have z1 := cell_kept BR9.out (cell_at ZT.out 1)
                have t0 := cell_kept BR9.out (cell_at XT.out 0)
                have t1 := cell_kept BR9.out (cell_at XT.out 1)
                have t2 := cell_kept BR9.out (cell_at XT.out 2)
                have t3 := cell_kept BR9.out (cell_at XT.out 3)
                have zx := szs (cell_lt x0)
                have zy := szs (cell_lt y0)
                have zz := szs (cell_lt z0)
                have zt := szs (cell_lt t0)
                dsimp only at zx zy zz zt
                go_wp2_with fail
                (refine region_all (fun i : Nat => World.drewN _ i) mixed (by kernel_rfl) ⟨1, rfl⟩ ?_; (repeat (any_goals (first | go_big_quiet_step (fail) | quiet_step (fail) | (refine wpQuiet_step (fun K hK => ?_); go_simp; split <;> (refine hK _ ?_; clear hK K))))); (all_goals (refine wpQuiet_nil (fun nq => ?_))))
                clear x0 x1 x2 x3 x4 y0 y1 z0 z1 t0 t1 t2 t3 zx zy zz zt
                clear ck cr te
                go_wp2_with fail
                go_roundw
                case rel => exact ⟨i + 1, j + 1, x, by go_num, rfl, by omega, Lib.hid ⟨by have := HIJ.out; omega, by rw [HL1.out]⟩, Lib.hid (BR9.out.trans (below_drewN (Below.refl _ _) nq)), Lib.hid (by rw [HP1.out]; exact ((below_drewN (Below.refl w9.heap.size w9) nq).block _ (block_lt XR9.out)).trans XR9.out)⟩
                case measure => simp [intOf]; omega
            · subst hokv
              have tb1 : decide ((x : Int) < (m : Int)) = false := decide_eq_false (by omega)
              have tb2 : decide (x < m) = false := decide_eq_false (by omega)
              obtain ⟨hP1, hL1⟩ := HNS.out rfl
              have HP1 := Lib.hid hP1
              have HL1 := Lib.hid hL1
              clear hP1 hL1
              have x0 := cell_kept BR9.out (cell_kept bFT.out (cell_at X0.out 0))
              have x1 := cell_kept BR9.out (cell_kept bFT.out (cell_at X0.out 1))
              have x2 := cell_kept BR9.out (cell_kept bFT.out (cell_at X0.out 2))
              have x3 := cell_kept BR9.out (cell_kept bFT.out (cell_at X0.out 3))
              have x4 := cell_kept BR9.out (cell_kept bFT.out (cell_at X0.out 4))
              have y0 := cell_kept BR9.out (cell_kept bFT.out (cell_at X1.out 0))
              have y1 := cell_kept BR9.out (cell_kept bFT.out (cell_at X1.out 1))
              have z0 := cell_kept BR9.out (cell_at ZT.out 0)
              have z1 := cell_kept BR9.out (cell_at ZT.out 1)
              have t0 := cell_kept BR9.out (cell_at XT.out 0)
              have t1 := cell_kept BR9.out (cell_at XT.out 1)
              have t2 := cell_kept BR9.out (cell_at XT.out 2)
              have t3 := cell_kept BR9.out (cell_at XT.out 3)
              have zx := szs (cell_lt x0)
              have zy := szs (cell_lt y0)
              have zz := szs (cell_lt z0)
              have zt := szs (cell_lt t0)
              dsimp only at zx zy zz zt
              go_wp2_with fail
              (refine region_all (fun i : Nat => World.drewN _ i) mixed (by kernel_rfl) ⟨1, rfl⟩ ?_; (repeat (any_goals (first | go_big_quiet_step (fail) | quiet_step (fail) | (refine wpQuiet_step (fun K hK => ?_); go_simp; split <;> (refine hK _ ?_; clear hK K))))); (all_goals (refine wpQuiet_nil (fun nq => ?_))))
              clear x0 x1 x2 x3 x4 y0 y1 z0 z1 t0 t1 t2 t3 zx zy zz zt
              go_wp2_with fail
              go_roundw
              case rel => exact ⟨i + 1, j + 1, x, by go_num, rfl, by omega, Lib.hid ⟨by have := HIJ.out; omega, by rw [HL1.out]⟩, Lib.hid (BR9.out.trans (below_drewN (Below.refl _ _) nq)), Lib.hid (by rw [HP1.out]; exact ((below_drewN (Below.refl w9.heap.size w9) nq).block _ (block_lt XR9.out)).trans XR9.out)⟩
              case measure => simp [intOf]; omega
          · obtain rfl : i = k := by omega
            have hj : j = i - d := by have := HIJ.out; omega
            have hxm : x = m := by have h1 := HIJ.out.2; have h2 := HP.out.fin; rw [hj] at h1; omega
            have bdj := HP.out.bd j (by have := HIJ.out; omega)
            have hh := HP.out.home
            rw [← hj] at hh
            have TM := timesR_ok HNO.out HRO.out wr ((HGW.out.below BW.out).net) bdj.1
            have hS := HNO.out.S_bd bdj.1 (dp : Int)
            have hlh := Int.mul_le_mul bdj.2.1.2 hh1 hh0 (by decide)
            have hlh0 := Int.mul_nonneg bdj.2.1.1 hh0
            dsimp only at hh
            have HXS := XR
            obtain ⟨sv, hsv⟩ : ∃ sv, sv = g.S (PP j).at' (dp : Int) := ⟨_, rfl⟩
            rw [← hsv] at hh hS
            have HSV : Hid (sv = g.S (PP j).at' (dp : Int)) := Lib.hid hsv
            obtain ⟨hb1, ⟨hb2, hb3⟩, ⟨hb4, hb5⟩, _⟩ := bdj
            clear hsv hb1
            generalize (PP j).at' = a1 at XR TM HSV HXS
            generalize (PP j).now = a3 at *
            generalize (PP j).load = a2' at *
            obtain ⟨lh, hlhe⟩ : ∃ lh, lh = a2' * g.h := ⟨_, rfl⟩
            have TM := Lib.hid TM
            have tl : decide (ttil < a3 + sv + a2' * g.h) = false := decide_eq_false (by omega)
            subst hxm
            have u0 := cell_at XR.out 0
            have u1 := cell_at XR.out 1
            have u2 := cell_at XR.out 2
            have zu := szs (block_lt XR.out)
            clear hj hlhe
            have x0 := cell_kept BR.out (cell_kept bFT.out (cell_at X0.out 0))
            have x1 := cell_kept BR.out (cell_kept bFT.out (cell_at X0.out 1))
            have x2 := cell_kept BR.out (cell_kept bFT.out (cell_at X0.out 2))
            have x3 := cell_kept BR.out (cell_kept bFT.out (cell_at X0.out 3))
            have x4 := cell_kept BR.out (cell_kept bFT.out (cell_at X0.out 4))
            have y0 := cell_kept BR.out (cell_kept bFT.out (cell_at X1.out 0))
            have y1 := cell_kept BR.out (cell_kept bFT.out (cell_at X1.out 1))
            have z0 := cell_kept BR.out (cell_at ZT.out 0)
            have z1 := cell_kept BR.out (cell_at ZT.out 1)
            have t0 := cell_kept BR.out (cell_at XT.out 0)
            have t1 := cell_kept BR.out (cell_at XT.out 1)
            have t2 := cell_kept BR.out (cell_at XT.out 2)
            have t3 := cell_kept BR.out (cell_at XT.out 3)
            have zx := szs (cell_lt x0)
            have zy := szs (cell_lt y0)
            have zz := szs (cell_lt z0)
            have zt := szs (cell_lt t0)
            dsimp only at zx zy zz zt
            go_wp2_with fail
            refine TM.out.mono ?_
            rintro e w11 ⟨bt, rfl, N11, b11⟩
            have r11 := N11.cell hdpn
            rw [← HSV.out] at r11
            have z11 := szs (cell_lt r11)
            dsimp only at z11
            have BR11 := Lib.hid (BR.out.trans (b11.mono BR.out.size))
            have XR11 := Lib.hid ((b11.block _ (block_lt XR.out)).trans XR.out)
            clear x0 x1 x2 x3 x4 y0 y1 z0 z1 t0 t1 t2 t3 zx zy zz zt
            clear u0 u1 u2 zu TM N11 b11 XR BR HXS
            have u0 := cell_at XR11.out 0
            have u1 := cell_at XR11.out 1
            have u2 := cell_at XR11.out 2
            have zu := szs (block_lt XR11.out)
            have tdn : (dp : Int) < (n : Int) := by omega
            have hn63 : n ≤ 9223372036854775807 := by omega
            have x0 := cell_kept BR11.out (cell_kept bFT.out (cell_at X0.out 0))
            have x1 := cell_kept BR11.out (cell_kept bFT.out (cell_at X0.out 1))
            have x2 := cell_kept BR11.out (cell_kept bFT.out (cell_at X0.out 2))
            have x3 := cell_kept BR11.out (cell_kept bFT.out (cell_at X0.out 3))
            have x4 := cell_kept BR11.out (cell_kept bFT.out (cell_at X0.out 4))
            have y0 := cell_kept BR11.out (cell_kept bFT.out (cell_at X1.out 0))
            have y1 := cell_kept BR11.out (cell_kept bFT.out (cell_at X1.out 1))
            have z0 := cell_kept BR11.out (cell_at ZT.out 0)
            have z1 := cell_kept BR11.out (cell_at ZT.out 1)
            have t0 := cell_kept BR11.out (cell_at XT.out 0)
            have t1 := cell_kept BR11.out (cell_at XT.out 1)
            have t2 := cell_kept BR11.out (cell_at XT.out 2)
            have t3 := cell_kept BR11.out (cell_at XT.out 3)
            have zx := szs (cell_lt x0)
            have zy := szs (cell_lt y0)
            have zz := szs (cell_lt z0)
            have zt := szs (cell_lt t0)
            dsimp only at zx zy zz zt
            go_wp2_with fail
            (refine region_all (fun i : Nat => World.drewN _ i) mixed (by kernel_rfl) ⟨1, rfl⟩ ?_; (repeat (any_goals (first | go_big_quiet_step (fail) | quiet_step (fail) | (refine wpQuiet_step (fun K hK => ?_); go_simp; split <;> (refine hK _ ?_; clear hK K))))); (all_goals (refine wpQuiet_nil (fun nq => ?_))))
            have BQ := below_drewN (Below.refl w11.heap.size w11) nq
            have BRQ := Lib.hid (BR11.out.trans (BQ.mono BR11.out.size))
            have BWQ := Lib.hid (BT.out.trans (BRQ.out.mono BT.out.size))
            clear x0 x1 x2 x3 x4 y0 y1 z0 z1 t0 t1 t2 t3 zx zy zz zt
            clear BQ u0 u1 u2 zu r11 z11 XR11 BR11
            generalize w11.drewN nq = w12 at *
            have M5 := Lib.hid (MR.out w12 BWQ.out)
            have x0 := cell_kept BRQ.out (cell_kept bFT.out (cell_at X0.out 0))
            have x1 := cell_kept BRQ.out (cell_kept bFT.out (cell_at X0.out 1))
            have x2 := cell_kept BRQ.out (cell_kept bFT.out (cell_at X0.out 2))
            have x3 := cell_kept BRQ.out (cell_kept bFT.out (cell_at X0.out 3))
            have x4 := cell_kept BRQ.out (cell_kept bFT.out (cell_at X0.out 4))
            have y0 := cell_kept BRQ.out (cell_kept bFT.out (cell_at X1.out 0))
            have y1 := cell_kept BRQ.out (cell_kept bFT.out (cell_at X1.out 1))
            have z0 := cell_kept BRQ.out (cell_at ZT.out 0)
            have z1 := cell_kept BRQ.out (cell_at ZT.out 1)
            have t0 := cell_kept BRQ.out (cell_at XT.out 0)
            have t1 := cell_kept BRQ.out (cell_at XT.out 1)
            have t2 := cell_kept BRQ.out (cell_at XT.out 2)
            have t3 := cell_kept BRQ.out (cell_at XT.out 3)
            have zx := szs (cell_lt x0)
            have zy := szs (cell_lt y0)
            have zz := szs (cell_lt z0)
            have zt := szs (cell_lt t0)
            dsimp only at zx zy zz zt
            go_wp2_with fail
            refine M5.out.mono ?_
            rintro e w13 ⟨b13, h13⟩
            have BR13 := Lib.hid (BRQ.out.trans (b13.mono BRQ.out.size))
            have BW13 := Lib.hid (BWQ.out.trans (b13.mono BWQ.out.size))
            clear x0 x1 x2 x3 x4 y0 y1 z0 z1 t0 t1 t2 t3 zx zy zz zt
            clear b13 M5
            rcases h13 with ⟨hne, rfl⟩ | ⟨hze, v5, rfl, _⟩
            · have te1 : (RE == 0) = false := by simpa using hne
              have tm : ((x : Int) == (i : Int)) = false := by
                have h : ¬ (x = i) := fun e => hne (HRE.out.2 e)
                exact beq_eq_false_iff_ne.2 (by omega)
              clear hne
              have x0 := cell_kept BR13.out (cell_kept bFT.out (cell_at X0.out 0))
              have x1 := cell_kept BR13.out (cell_kept bFT.out (cell_at X0.out 1))
              have x2 := cell_kept BR13.out (cell_kept bFT.out (cell_at X0.out 2))
              have x3 := cell_kept BR13.out (cell_kept bFT.out (cell_at X0.out 3))
              have x4 := cell_kept BR13.out (cell_kept bFT.out (cell_at X0.out 4))
              have y0 := cell_kept BR13.out (cell_kept bFT.out (cell_at X1.out 0))
              have y1 := cell_kept BR13.out (cell_kept bFT.out (cell_at X1.out 1))
              have z0 := cell_kept BR13.out (cell_at ZT.out 0)
              have z1 := cell_kept BR13.out (cell_at ZT.out 1)
              have t0 := cell_kept BR13.out (cell_at XT.out 0)
              have t1 := cell_kept BR13.out (cell_at XT.out 1)
              have t2 := cell_kept BR13.out (cell_at XT.out 2)
              have t3 := cell_kept BR13.out (cell_at XT.out 3)
              have zx := szs (cell_lt x0)
              have zy := szs (cell_lt y0)
              have zz := szs (cell_lt z0)
              have zt := szs (cell_lt t0)
              dsimp only at zx zy zz zt
              go_wp2_with fail
              clear x0 x1 x2 x3 x4 y0 y1 z0 z1 t0 t1 t2 t3 zx zy zz zt
              refine (AW.out _).mono ?_
              rintro e wz ⟨rfl, bz⟩
              have BZ := Lib.hid (BW13.out.trans (bz.mono BW13.out.size))
              clear bz
              go_wp2_with fail
              go_returns
              exact ⟨rfl, BZ.out⟩
            · have tm : ((x : Int) == (i : Int)) = true := by
                have h : x = i := HRE.out.1 hze
                exact beq_iff_eq.2 (by omega)
              clear hze
              have x0 := cell_kept BR13.out (cell_kept bFT.out (cell_at X0.out 0))
              have x1 := cell_kept BR13.out (cell_kept bFT.out (cell_at X0.out 1))
              have x2 := cell_kept BR13.out (cell_kept bFT.out (cell_at X0.out 2))
              have x3 := cell_kept BR13.out (cell_kept bFT.out (cell_at X0.out 3))
              have x4 := cell_kept BR13.out (cell_kept bFT.out (cell_at X0.out 4))
              have y0 := cell_kept BR13.out (cell_kept bFT.out (cell_at X1.out 0))
              have y1 := cell_kept BR13.out (cell_kept bFT.out (cell_at X1.out 1))
              have z0 := cell_kept BR13.out (cell_at ZT.out 0)
              have z1 := cell_kept BR13.out (cell_at ZT.out 1)
              have t0 := cell_kept BR13.out (cell_at XT.out 0)
              have t1 := cell_kept BR13.out (cell_at XT.out 1)
              have t2 := cell_kept BR13.out (cell_at XT.out 2)
              have t3 := cell_kept BR13.out (cell_at XT.out 3)
              have zx := szs (cell_lt x0)
              have zy := szs (cell_lt y0)
              have zz := szs (cell_lt z0)
              have zt := szs (cell_lt t0)
              dsimp only at zx zy zz zt
              go_wp2_with fail
              clear x0 x1 x2 x3 x4 y0 y1 z0 z1 t0 t1 t2 t3 zx zy zz zt
              refine (AW.out _).mono ?_
              rintro e wz ⟨rfl, bz⟩
              have BZ := Lib.hid (BW13.out.trans (bz.mono BW13.out.size))
              clear bz
              go_wp2_with fail
              go_returns
              exact ⟨rfl, BZ.out⟩
      · have tp : decide ((0 : Int) < (d : Int)) = true := decide_eq_true (by omega)
        have tp2 : decide (0 < d) = true := decide_eq_true (by omega)
        go_wp2_with fail
        obtain ⟨wt, hwt⟩ : ∃ wt, wt = w3.alloc (.cells #[.int .i64 (dp : Int), .int .i64 tcap, .int .i64 tfrm, .int .i64 ttil] 62) := ⟨_, rfl⟩
        have XT := Lib.hid (heap_alloc_new w3 (.cells #[.int .i64 (dp : Int), .int .i64 tcap, .int .i64 tfrm, .int .i64 ttil] 62))
        have b3t : Below w3.heap.size w3 (w3.alloc (.cells #[.int .i64 (dp : Int), .int .i64 tcap, .int .i64 tfrm, .int .i64 ttil] 62)) := by (repeat' (first | (with_reducible exact Below.refl _ _) | (with_reducible assumption) | (with_reducible refine Below.drew ?_) | (with_reducible refine below_drewN ?_ _) | (with_reducible refine Below.alloc ?_ ?_ _) | (with_reducible refine Below.setCell ?_ ?_ _) | go_size))
        have szt : (w3.alloc (.cells #[.int .i64 (dp : Int), .int .i64 tcap, .int .i64 tfrm, .int .i64 ttil] 62)).heap.size = w3.heap.size + 1 := by simp
        rw [← hwt] at XT b3t szt ⊢
        have BT := Lib.hid (B3.out.trans (b3t.mono B3.out.size))
        have bFT := Lib.hid (bF3.out.trans (b3t.mono bF3.out.size))
        have ZT := Lib.hid ((b3t.block _ (block_lt Z3.out)).trans Z3.out)
        have S2T := Lib.hid (S2'.out.below b3t)
        have S3T := Lib.hid (S3.out.below b3t)
        have HSZT := Lib.hid szt
        obtain ⟨wp, hwp⟩ : ∃ wp, wp = wt.alloc (.cells #[.int .i64 (dp : Int), .int .i64 now, .int .i64 0] 74) := ⟨_, rfl⟩
        have XP := heap_alloc_new wt (.cells #[.int .i64 (dp : Int), .int .i64 now, .int .i64 0] 74)
        have bpp : Below wt.heap.size wt (wt.alloc (.cells #[.int .i64 (dp : Int), .int .i64 now, .int .i64 0] 74)) := by (repeat' (first | (with_reducible exact Below.refl _ _) | (with_reducible assumption) | (with_reducible refine Below.drew ?_) | (with_reducible refine below_drewN ?_ _) | (with_reducible refine Below.alloc ?_ ?_ _) | (with_reducible refine Below.setCell ?_ ?_ _) | go_size))
        rw [HSZT.out] at XP
        rw [← hwp] at XP bpp ⊢
        replace XP := Lib.hid XP
        have BP := Lib.hid bpp
        clear bpp hwp szt b3t hwt Z3 S2' S3 B3 bF3 x0 x1 x2 x3 x4 zx y0 y1 zy z0 z1 zz p0 p1 p2 p3 zp
        obtain ⟨i0, hi0⟩ : ∃ i0, d = i0 + 1 := ⟨d - 1, by omega⟩
        have e1 : (d : Int) - 1 = (i0 : Int) := by omega
        have hik0 : i0 < k := by omega
        have ti0 : (i0 : Int) < (k : Int) := by omega
        have BWP := Lib.hid (BT.out.trans (BP.out.mono BT.out.size))
        obtain ⟨rb, ro, rfl, hrb, cr⟩ := (HRW.out.below BWP.out).num hik0
        obtain ⟨y, hy⟩ := Int.eq_ofNat_of_zero_le (HNI.out i0 hik0).1
        have hyn : y < g.nn := by have := (HNI.out i0 hik0).2; omega
        have tyn : (y : Int) < (g.nn : Int) := by omega
        obtain ⟨nb, no, hna, hnb, c0, c1⟩ := (HGW.out.below BWP.out).needs.nd hyn
        obtain ⟨vb, vo, rfl, hvb, v0, v1, v2, v3⟩ := S3T.out.vi hik0
        have hat := (HVI.out i0 hi0).1
        have hld := HVS.out i0 hi0
        have hnd : g.nd (R i0) = g.D y := by rw [hy]; unfold Ng.nd; rw [Int.toNat_natCast]
        rw [hnd] at hat
        rw [hy] at cr
        obtain ⟨nd, hnde⟩ : ∃ nd, nd = (g.D y).node := ⟨_, rfl⟩
        obtain ⟨ld, hlde⟩ : ∃ ld, ld = (VV i0).load := ⟨_, rfl⟩
        rw [← hnde] at hat c0
        rw [← hlde] at hld v3
        have HAT := Lib.hid hat
        have HLD := Lib.hid hld
        have V3 := Lib.hid v3
        have zr := szs hrb
        have zn := szs hnb
        have zv := szs (Nat.lt_of_lt_of_le hvb BP.out.size)
        have q0 := cell_at XP.out 0
        have q1 := cell_at XP.out 1
        have q2 := cell_at XP.out 2
        have qf := fun j => free_at XP.out j
        have zq := szs (block_lt XP.out)
        have hge : wt.heap.size ≤ w3.heap.size + 1 := by rw [HSZT.out]; omega
        have hnm := HGW.out.needs.hm
        have hnc := HGW.out.needs.hc
        clear hd0 hat hld hnd hnde hlde c1 v0 v1 v2 v3 hy hi0
        have x0 := cell_kept BP.out (cell_kept bFT.out (cell_at X0.out 0))
        have x1 := cell_kept BP.out (cell_kept bFT.out (cell_at X0.out 1))
        have x2 := cell_kept BP.out (cell_kept bFT.out (cell_at X0.out 2))
        have x3 := cell_kept BP.out (cell_kept bFT.out (cell_at X0.out 3))
        have x4 := cell_kept BP.out (cell_kept bFT.out (cell_at X0.out 4))
        have y0 := cell_kept BP.out (cell_kept bFT.out (cell_at X1.out 0))
        have y1 := cell_kept BP.out (cell_kept bFT.out (cell_at X1.out 1))
        have z0 := cell_kept BP.out (cell_at ZT.out 0)
        have z1 := cell_kept BP.out (cell_at ZT.out 1)
        have t0 := cell_kept BP.out (cell_at XT.out 0)
        have t1 := cell_kept BP.out (cell_at XT.out 1)
        have t2 := cell_kept BP.out (cell_at XT.out 2)
        have t3 := cell_kept BP.out (cell_at XT.out 3)
        have zx := szs (cell_lt x0)
        have zy := szs (cell_lt y0)
        have zz := szs (cell_lt z0)
        have zt := szs (cell_lt t0)
        dsimp only at zx zy zz zt
        rw [show (.slice g.na g.nn g.nc : Value) = .slice (some ⟨nb, no, none⟩) g.nn g.nc by rw [hna]] at x3
        clear hna
        (refine region_order (fun i : Nat => World.drewN _ i) [] [0, 1, 2, 3, 4, 5, 6, 7, 8, 9, 10, 11] 12 [] mixed (by kernel_rfl) ⟨1, rfl⟩ ?_; simp only [List.map_cons, List.map_nil, Array.getD_eq_getD_getElem?, List.getElem?_toArray, List.getElem?_cons_zero, List.getElem?_cons_succ, Option.getD_some]; (repeat (refine wpPure_cons _ rfl (fun w' => by go_simp; try rfl) ?_; dsimp only [Act.put])); refine wpPure_nil ?_; (repeat (any_goals (first | go_big_quiet_step (fail) | quiet_step (fail) | (refine wpQuiet_step (fun K hK => ?_); go_simp; split <;> (refine hK _ ?_; clear hK K))))); (all_goals (refine wpQuiet_nil (fun nq => ?_))))
        go_wp2_with fail
        have BDQ := below_drewN (Below.refl wp.heap.size wp) nq
        have XPD := (BDQ.block _ (block_lt XP.out)).trans XP.out
        have BQ0 : Below wt.heap.size wt ((wp.drewN nq).setCell ⟨w3.heap.size + 1, 0, none⟩ (.int .i64 nd)) := (BP.out.trans (BDQ.mono BP.out.size)).setCell (p := ⟨w3.heap.size + 1, 0, none⟩) hge _
        have XQ0 : ((wp.drewN nq).setCell ⟨w3.heap.size + 1, 0, none⟩ (.int .i64 nd)).heap[w3.heap.size + 1]? = some (.cells #[.int .i64 nd, .int .i64 now, .int .i64 0] 74 (0, 0)) := by
          rw [setCell_at XPD, setAt_same (block_lt XPD)]; rfl
        clear x0 x1 x2 x3 x4 y0 y1 z0 z1 t0 t1 t2 t3 zx zy zz zt
        clear q0 q1 q2 qf zq cr c0 XP BP zr zn zv BDQ XPD
        refine onlyN_intro ?_
        generalize (wp.drewN nq).setCell ⟨w3.heap.size + 1, 0, none⟩ (.int .i64 nd) = wq at *
        have BQ := Lib.hid BQ0
        have XQ := Lib.hid XQ0
        clear BQ0 XQ0
        have q0 := cell_at XQ.out 0
        have q1 := cell_at XQ.out 1
        have q2 := cell_at XQ.out 2
        have qf := fun j => free_at XQ.out j
        have zq := szs (block_lt XQ.out)
        have v3 := cell_kept BQ.out V3.out
        have zv := szs (Nat.lt_of_lt_of_le hvb BQ.out.size)
        have x0 := cell_kept BQ.out (cell_kept bFT.out (cell_at X0.out 0))
        have x1 := cell_kept BQ.out (cell_kept bFT.out (cell_at X0.out 1))
        have x2 := cell_kept BQ.out (cell_kept bFT.out (cell_at X0.out 2))
        have x3 := cell_kept BQ.out (cell_kept bFT.out (cell_at X0.out 3))
        have x4 := cell_kept BQ.out (cell_kept bFT.out (cell_at X0.out 4))
        have y0 := cell_kept BQ.out (cell_kept bFT.out (cell_at X1.out 0))
        have y1 := cell_kept BQ.out (cell_kept bFT.out (cell_at X1.out 1))
        have z0 := cell_kept BQ.out (cell_at ZT.out 0)
        have z1 := cell_kept BQ.out (cell_at ZT.out 1)
        have t0 := cell_kept BQ.out (cell_at XT.out 0)
        have t1 := cell_kept BQ.out (cell_at XT.out 1)
        have t2 := cell_kept BQ.out (cell_at XT.out 2)
        have t3 := cell_kept BQ.out (cell_at XT.out 3)
        have zx := szs (cell_lt x0)
        have zy := szs (cell_lt y0)
        have zz := szs (cell_lt z0)
        have zt := szs (cell_lt t0)
        dsimp only at zx zy zz zt
        go_wp2_with fail
        clear x0 x1 x2 x3 x4 y0 y1 z0 z1 t0 t1 t2 t3 zx zy zz zt
        have BX : Hid (Below wt.heap.size wt (wq.setCell ⟨w3.heap.size + 1, 2, none⟩ (.int .i64 ld))) := Lib.hid (BQ.out.setCell (p := ⟨w3.heap.size + 1, 2, none⟩) hge _)
        have XPX : Hid ((wq.setCell ⟨w3.heap.size + 1, 2, none⟩ (.int .i64 ld)).heap[w3.heap.size + 1]? = some (.cells #[.int .i64 (PP 0).at', .int .i64 (PP 0).now, .int .i64 (PP 0).load] 74 (0, 0))) := Lib.hid (by
          rw [HP.out.p0, setCell_at XQ.out, setAt_same (block_lt XQ.out)]
          dsimp only
          rw [HAT.out, ← HLD.out]; rfl)
        clear q0 q1 q2 qf zq v3 zv BQ XQ V3 HAT HLD e1 hnm hnc tyn hyn
        generalize wq.setCell ⟨w3.heap.size + 1, 2, none⟩ (.int .i64 ld) = wx at *
        have SM := Lib.hid (fun w' (hb : Below wx.heap.size wx w') => same29 _ _ d c2 rc KV R w' (((S2T.out.below BX.out).below hb).cut hle.1) ((HRW.out.below ((BT.out.trans (BX.out.mono BT.out.size)).trans (hb.mono (BT.out.trans (BX.out.mono BT.out.size)).size))).cut hle.2.2) (fun i hi => HP.out.same i hi))
        have x0 := cell_kept BX.out (cell_kept bFT.out (cell_at X0.out 0))
        have x1 := cell_kept BX.out (cell_kept bFT.out (cell_at X0.out 1))
        have x2 := cell_kept BX.out (cell_kept bFT.out (cell_at X0.out 2))
        have x3 := cell_kept BX.out (cell_kept bFT.out (cell_at X0.out 3))
        have x4 := cell_kept BX.out (cell_kept bFT.out (cell_at X0.out 4))
        have y0 := cell_kept BX.out (cell_kept bFT.out (cell_at X1.out 0))
        have y1 := cell_kept BX.out (cell_kept bFT.out (cell_at X1.out 1))
        have z0 := cell_kept BX.out (cell_at ZT.out 0)
        have z1 := cell_kept BX.out (cell_at ZT.out 1)
        have t0 := cell_kept BX.out (cell_at XT.out 0)
        have t1 := cell_kept BX.out (cell_at XT.out 1)
        have t2 := cell_kept BX.out (cell_at XT.out 2)
        have t3 := cell_kept BX.out (cell_at XT.out 3)
        have zx := szs (cell_lt x0)
        have zy := szs (cell_lt y0)
        have zz := szs (cell_lt z0)
        have zt := szs (cell_lt t0)
        dsimp only at zx zy zz zt
        (refine region_order (fun i : Nat => World.drewN _ i) [] [0, 1, 2, 3, 4, 5, 6, 7] 8 [9] mixed (by kernel_rfl) ⟨1, rfl⟩ ?_; simp only [List.map_cons, List.map_nil, Array.getD_eq_getD_getElem?, List.getElem?_toArray, List.getElem?_cons_zero, List.getElem?_cons_succ, Option.getD_some]; (repeat (refine wpPure_cons _ rfl (fun w' => by go_simp; try rfl) ?_; dsimp only [Act.put])); refine wpPure_nil ?_; (repeat (any_goals (first | go_big_quiet_step (fail) | quiet_step (fail) | (refine wpQuiet_step (fun K hK => ?_); go_simp; split <;> (refine hK _ ?_; clear hK K))))); (all_goals (refine wpQuiet_nil (fun nq => ?_))))
        go_wp2_with fail
        refine (SM.out _ (below_drewN (Below.refl _ _) nq)).mono ?_
        rintro e w8 ⟨rfl, b8⟩
        have bd8 : Below wx.heap.size wx w8 := (below_drewN (Below.refl wx.heap.size wx) nq).trans (b8.mono (below_drewN (Below.refl wx.heap.size wx) nq).size)
        have BL := Lib.hid (BX.out.trans (bd8.mono BX.out.size))
        have XL := Lib.hid ((bd8.block _ (block_lt XPX.out)).trans XPX.out)
        clear x0 x1 x2 x3 x4 y0 y1 z0 z1 t0 t1 t2 t3 zx zy zz zt
        clear SM b8 bd8 BX XPX
        have x0 := cell_kept BL.out (cell_kept bFT.out (cell_at X0.out 0))
        have x1 := cell_kept BL.out (cell_kept bFT.out (cell_at X0.out 1))
        have x2 := cell_kept BL.out (cell_kept bFT.out (cell_at X0.out 2))
        have x3 := cell_kept BL.out (cell_kept bFT.out (cell_at X0.out 3))
        have x4 := cell_kept BL.out (cell_kept bFT.out (cell_at X0.out 4))
        have y0 := cell_kept BL.out (cell_kept bFT.out (cell_at X1.out 0))
        have y1 := cell_kept BL.out (cell_kept bFT.out (cell_at X1.out 1))
        have z0 := cell_kept BL.out (cell_at ZT.out 0)
        have z1 := cell_kept BL.out (cell_at ZT.out 1)
        have t0 := cell_kept BL.out (cell_at XT.out 0)
        have t1 := cell_kept BL.out (cell_at XT.out 1)
        have t2 := cell_kept BL.out (cell_at XT.out 2)
        have t3 := cell_kept BL.out (cell_at XT.out 3)
        have zx := szs (cell_lt x0)
        have zy := szs (cell_lt y0)
        have zz := szs (cell_lt z0)
        have zt := szs (cell_lt t0)
        dsimp only at zx zy zz zt
        go_wp2_with fail
        refine onlyN_intro ?_
        go_wp2_with fail
        clear x0 x1 x2 x3 x4 y0 y1 z0 z1 t0 t1 t2 t3 zx zy zz zt
        go_loopw [16, 17] (fun s16 s17 wr => ∃ i j x : Nat, s17 = .int .i64 (i : Int) ∧ s16 = .int .i64 (x : Int) ∧ i ≤ k ∧ Hid (i = d + j ∧ x = LL j) ∧ Hid (Below wt.heap.size wt wr) ∧ Hid (wr.heap[w3.heap.size + 1]? = some (.cells #[.int .i64 (PP j).at', .int .i64 (PP j).now, .int .i64 (PP j).load] 74 (0, 0)))) (fun _ s17 _ => k - (intOf s17).toNat)
        case atStart => exact ⟨d, 0, d, rfl, rfl, hle.2.2, Lib.hid ⟨rfl, HP.out.l0.symm⟩, BL, XL⟩
        case round =>
          obtain ⟨i, j, x, rfl, rfl, hik, hij, hB, hX⟩ := hrel
          have HIJ := hij
          have BR := hB
          have XR := hX
          clear hij hB hX BL XL
          have BW := Lib.hid (BT.out.trans (BR.out.mono BT.out.size))
          by_cases hlt : i < k
          · have ti : (i : Int) < (k : Int) := by omega
            obtain ⟨rb, ro, hra, hrb, cr⟩ := (HRW.out.below BW.out).num hlt
            cases hra
            obtain ⟨y, hy⟩ := Int.eq_ofNat_of_zero_le (HNI.out i hlt).1
            have hyn : y < g.nn := by have := (HNI.out i hlt).2; omega
            have bdj := HP.out.bd j (by have := HIJ.out; omega)
            have hlk := HP.out.look j (by have := HIJ.out; omega)
            have hys := HP.out.yes j (by have := HIJ.out; omega)
            have hns := HP.out.no j (by have := HIJ.out; omega)
            have SV := fun w' (hb : Below wr.heap.size wr w') => serveL30 HNO.out HRO.out ⟨(dp : Int), tcap, tfrm, ttil⟩ (PP j) y hyn w' ((HGW.out.below BW.out).below hb) bdj.1 bdj.2.1 bdj.2.2.1 hdep
            rw [← HIJ.out.1, hy, ← HIJ.out.2] at hlk hys hns
            rw [hy] at cr
            rw [HCC.out] at SV
            dsimp only at SV
            obtain ⟨ok, hok⟩ : ∃ ok, ok = okB g ⟨(dp : Int), tcap, tfrm, ttil⟩ (PP j) (y : Int) := ⟨_, rfl⟩
            obtain ⟨ns, hnse⟩ : ∃ ns, ns = servO g (PP j) (y : Int) := ⟨_, rfl⟩
            rw [← hok] at hlk hys hns SV
            rw [← hnse] at hys SV
            obtain ⟨n1, n2, n3⟩ := ns
            dsimp only at SV
            have HYS := Lib.hid hys
            have HNS := Lib.hid hns
            have HLK := Lib.hid hlk
            have HXS := Lib.hid (show wr.heap[w3.heap.size + 1]? = some (.cells #[.int .i64 (PP j).at', .int .i64 (PP j).now, .int .i64 (PP j).load] 74 (0, 0)) from XR.out)
            generalize (PP j).at' = a1 at XR SV
            generalize (PP j).now = a3 at XR SV
            generalize (PP j).load = a2' at XR SV
            have SV := Lib.hid SV
            have u0 := cell_at XR.out 0
            have u1 := cell_at XR.out 1
            have u2 := cell_at XR.out 2
            have zr := szs hrb
            clear hok hnse hys hns hlk bdj hy
            have x0 := cell_kept BR.out (cell_kept bFT.out (cell_at X0.out 0))
            have x1 := cell_kept BR.out (cell_kept bFT.out (cell_at X0.out 1))
            have x2 := cell_kept BR.out (cell_kept bFT.out (cell_at X0.out 2))
            have x3 := cell_kept BR.out (cell_kept bFT.out (cell_at X0.out 3))
            have x4 := cell_kept BR.out (cell_kept bFT.out (cell_at X0.out 4))
            have y0 := cell_kept BR.out (cell_kept bFT.out (cell_at X1.out 0))
            have y1 := cell_kept BR.out (cell_kept bFT.out (cell_at X1.out 1))
            have z0 := cell_kept BR.out (cell_at ZT.out 0)
            have z1 := cell_kept BR.out (cell_at ZT.out 1)
            have t0 := cell_kept BR.out (cell_at XT.out 0)
            have t1 := cell_kept BR.out (cell_at XT.out 1)
            have t2 := cell_kept BR.out (cell_at XT.out 2)
            have t3 := cell_kept BR.out (cell_at XT.out 3)
            have zx := szs (cell_lt x0)
            have zy := szs (cell_lt y0)
            have zz := szs (cell_lt z0)
            have zt := szs (cell_lt t0)
            dsimp only at zx zy zz zt
            go_wp2_with fail
            (obtain ⟨ι, hne, Fw, fb, hF⟩ := grow_family wr); have hF : ∀ w', (sPlan wr (fun s => s = [.tuple #[.agg #[.int .i64 n1, .int .i64 n3, .int .i64 n2], .bool ok]]) [8] [(12, fun b => .pointer (some ⟨b, 0, none⟩), .cells #[.int .i64 0, .int .i64 0, .int .i64 0] 74)] [(13, 12)]).D [] w' → ∃ i, w' = Fw i := hF
            have fx0 := fun i => cell_kept (fb i) x0
            have fx1 := fun i => cell_kept (fb i) x1
            have fx2 := fun i => cell_kept (fb i) x2
            have fx3 := fun i => cell_kept (fb i) x3
            have fx4 := fun i => cell_kept (fb i) x4
            have fy1 := fun i => cell_kept (fb i) y1
            have ft0 := fun i => cell_kept (fb i) t0
            have ft1 := fun i => cell_kept (fb i) t1
            have ft2 := fun i => cell_kept (fb i) t2
            have ft3 := fun i => cell_kept (fb i) t3
            have fu0 := fun i => cell_kept (fb i) u0
            have fu1 := fun i => cell_kept (fb i) u1
            have fu2 := fun i => cell_kept (fb i) u2
            have fcr := fun i => cell_kept (fb i) cr
            clear x0 x1 x2 x3 x4 y0 y1 z0 z1 t0 t1 t2 t3 zx zy zz zt
            clear u0 u1 u2
            replace cr := Lib.hid cr
            (refine region_chainO (sPlan wr (fun s => s = [.tuple #[.agg #[.int .i64 n1, .int .i64 n3, .int .i64 n2], .bool ok]]) [8] [(12, fun b => .pointer (some ⟨b, 0, none⟩), .cells #[.int .i64 0, .int .i64 0, .int .i64 0] 74)] [(13, 12)]) [] [] [0, 1, 2, 3, 4, 5, 6, 7, 12, 8, 9, 10, 11, 13, 14] [] mixed (by kernel_rfl) (by kernel_rfl) (fun _ _ h => nomatch h) (sPlan_ok (by simp) (by simp)) sPlan_start ?_; refine wpPure_nil ?_; simp only [List.map_cons, List.map_nil, Array.getD_eq_getD_getElem?, List.getElem?_toArray, List.getElem?_cons_zero, List.getElem?_cons_succ, Option.getD_some])
            (repeat (first | (refine wpChainO_skip rfl ?_; simp only [Act.put, List.setIfInBounds_toArray, List.set_cons_succ, List.set_cons_zero]) | (refine wpChainO_quiet hF rfl rfl rfl ?_; intro K hK; go_big_quiet_op; go_big_quiet_on) | (refine wpChainO_pure _ rfl rfl (fun w' _ => by go_simp; try rfl) ?_; simp only [Act.put, List.setIfInBounds_toArray, List.set_cons_succ, List.set_cons_zero])))
            (refine wpChainO_alloc _ _ rfl (List.mem_cons_self ..) rfl (fun w' => by go_simp) (fun b18 hb18 => ?_); simp only [Act.put, List.setIfInBounds_toArray, List.set_cons_succ, List.set_cons_zero])
            refine wpChainO_scall 30 #[.agg #[.int .i64 g.N, .slice g.ea g.em g.ec, .slice (some ⟨tb, to, none⟩) g.tn g.tc, .slice g.na g.nn g.nc, .int .i64 g.h], .agg #[.int .i64 (dp : Int), .int .i64 tcap, .int .i64 tfrm, .int .i64 ttil], .agg #[.int .i64 a1, .int .i64 a3, .int .i64 a2'], .int .i64 (y : Int)] rfl rfl (fun w' => by go_simp) (fun w' hb => ?_) ?_
            · refine (SV.out w' hb).mono ?_
              rintro e w5 ⟨rfl, hb5⟩
              exact ⟨_, rfl, rfl, hb5⟩
            rintro u9 hu9
            cases hu9
            simp only [Act.put, List.setIfInBounds_toArray, List.set_cons_succ, List.set_cons_zero]
            (repeat (first | (refine wpChainO_skip rfl ?_; simp only [Act.put, List.setIfInBounds_toArray, List.set_cons_succ, List.set_cons_zero]) | (refine wpChainO_quiet hF rfl rfl rfl ?_; intro K hK; go_big_quiet_op; go_big_quiet_on) | (refine wpChainO_pure _ rfl rfl (fun w' _ => by go_simp; try rfl) ?_; simp only [Act.put, List.setIfInBounds_toArray, List.set_cons_succ, List.set_cons_zero])))
            (refine wpChainO_store 12 b18 (.cells #[.int .i64 0, .int .i64 0, .int .i64 0] 74) (.cells #[.int .i64 n1, .int .i64 n3, .int .i64 n2] 74) rfl (by simp [sPlan]) (by simp [setB]) (by simp [setB]) rfl (fun w' hw' => by have c0 := cell_at hw' 0; have c1 := cell_at hw' 1; have c2 := cell_at hw' 2; have g0 := free_at hw'; have hlt := block_lt hw'; go_simp; rw [setCell_at hw', setAt_setCell hlt, setAt_setCell hlt]; rfl) ?_; simp only [Act.put, List.setIfInBounds_toArray, List.set_cons_succ, List.set_cons_zero])
            (repeat (first | (refine wpChainO_skip rfl ?_; simp only [Act.put, List.setIfInBounds_toArray, List.set_cons_succ, List.set_cons_zero]) | (refine wpChainO_quiet hF rfl rfl rfl ?_; intro K hK; go_big_quiet_op; go_big_quiet_on) | (refine wpChainO_pure _ rfl rfl (fun w' _ => by go_simp; try rfl) ?_; simp only [Act.put, List.setIfInBounds_toArray, List.set_cons_succ, List.set_cons_zero])))
            refine wpChainO_nil (fun w9 hb9 hl9 => ?_)
            have b9 : Below wr.heap.size wr w9 := hb9
            have X18 := Lib.hid (hl9.1.2 (12, b18, .cells #[.int .i64 n1, .int .i64 n3, .int .i64 n2] 74) (by simp [setB])).2
            have BR9 := Lib.hid (BR.out.trans (b9.mono BR.out.size))
            have XR9 := Lib.hid ((b9.block _ (block_lt HXS.out)).trans HXS.out)
            have cr9 := Lib.hid (cell_kept b9 cr.out)
            clear hb9 hl9 hF fb hne b9 fx0 fx1 fx2 fx3 fx4 fy1 ft0 ft1 ft2 ft3 fu0 fu1 fu2 fcr XR HXS SV BR cr hb18
            refine onlyN_intro ?_
            rcases HLK.out with ⟨hxm, hokv⟩ | ⟨hmx, hokv⟩
            · have tb1 : decide ((x : Int) < (m : Int)) = true := decide_eq_true (by omega)
              have tx : (x : Int) < (m : Int) := by omega
              obtain ⟨kb, ko, rfl, hkb, ck⟩ := (S2T.out.below BR9.out).num hxm
              have zk := szs hkb
              cases ok with
              | true =>
                have te : (KV x == (y : Int)) = true := hokv.symm
                obtain ⟨hP1, hL1⟩ := HYS.out rfl
                have HP1 := Lib.hid hP1
                have HL1 := Lib.hid hL1
                clear hokv hP1 hL1
                generalize KV x = kv at ck te
                have cr := cr9.out
                have x0 := cell_kept BR9.out (cell_kept bFT.out (cell_at X0.out 0))
                have x1 := cell_kept BR9.out (cell_kept bFT.out (cell_at X0.out 1))
                have x2 := cell_kept BR9.out (cell_kept bFT.out (cell_at X0.out 2))
                have x3 := cell_kept BR9.out (cell_kept bFT.out (cell_at X0.out 3))
                have x4 := cell_kept BR9.out (cell_kept bFT.out (cell_at X0.out 4))
                have y0 := cell_kept BR9.out (cell_kept bFT.out (cell_at X1.out 0))
                have y1 := cell_kept BR9.out (cell_kept bFT.out (cell_at X1.out 1))
                have z0 := cell_kept BR9.out (cell_at ZT.out 0)
                have z1 := cell_kept BR9.out (cell_at ZT.out 1)
                have t0 := cell_kept BR9.out (cell_at XT.out 0)
                have t1 := cell_kept BR9.out (cell_at XT.out 1)
                have t2 := cell_kept BR9.out (cell_at XT.out 2)
                have t3 := cell_kept BR9.out (cell_at XT.out 3)
                have zx := szs (cell_lt x0)
                have zy := szs (cell_lt y0)
                have zz := szs (cell_lt z0)
                have zt := szs (cell_lt t0)
                dsimp only at zx zy zz zt
                go_wp2_with fail
                (refine region_all (fun i : Nat => World.drewN _ i) mixed (by kernel_rfl) ⟨1, rfl⟩ ?_; (repeat (any_goals (first | go_big_quiet_step (fail) | quiet_step (fail) | (refine wpQuiet_step (fun K hK => ?_); go_simp; split <;> (refine hK _ ?_; clear hK K))))); (all_goals (refine wpQuiet_nil (fun nq => ?_))))
                clear x0 x1 x2 x3 x4 y0 y1 z0 z1 t0 t1 t2 t3 zx zy zz zt
                have BQ := below_drewN (Below.refl w9.heap.size w9) nq
                have BRQ := Lib.hid (BR9.out.trans (BQ.mono BR9.out.size))
                have X18q := (BQ.block _ (block_lt X18.out)).trans X18.out
                have XRq := (BQ.block _ (block_lt XR9.out)).trans XR9.out
                have v0 := cell_at X18q 0
                have v1 := cell_at X18q 1
                have v2 := cell_at X18q 2
                have zv := szs (block_lt X18q)
                have u0 := cell_at XRq 0
                have u1 := cell_at XRq 1
                have u2 := cell_at XRq 2
                have uf := fun j => free_at XRq j
                have zu := szs (block_lt XRq)
                have HXQ := Lib.hid XRq
                clear BQ X18q XRq X18 XR9 BR9 cr cr9 ck te
                generalize w9.drewN nq = w10 at *
                go_wp2_with fail
                go_roundw
                case rel =>
                  have hlt' := block_lt HXQ.out
                  refine ⟨i + 1, j + 1, x + 1, by go_num, by go_num, by omega, Lib.hid ⟨by have := HIJ.out; omega, HL1.out.symm⟩, Lib.hid ?_, Lib.hid ?_⟩
                  · have hge : wt.heap.size ≤ w3.heap.size + 1 := by rw [HSZT.out]; omega
                    exact ((BRQ.out.setCell (p := ⟨w3.heap.size + 1, 0, none⟩) hge _).setCell (p := ⟨w3.heap.size + 1, 1, none⟩) hge _).setCell (p := ⟨w3.heap.size + 1, 2, none⟩) hge _
                  · rw [setCell_at HXQ.out, setAt_setCell hlt', setAt_setCell hlt', setAt_same hlt', HP1.out]; rfl
                case measure => simp [intOf]; omega
              | false =>
                have te : (KV x == (y : Int)) = false := hokv.symm
                obtain ⟨hP1, hL1⟩ := HNS.out rfl
                have HP1 := Lib.hid hP1
                have HL1 := Lib.hid hL1
                clear hokv hP1 hL1
                generalize KV x = kv at ck te
                have cr := cr9.out
                have x0 := cell_kept BR9.out (cell_kept bFT.out (cell_at X0.out 0))
                have x1 := cell_kept BR9.out (cell_kept bFT.out (cell_at X0.out 1))
                have x2 := cell_kept BR9.out (cell_kept bFT.out (cell_at X0.out 2))
                have x3 := cell_kept BR9.out (cell_kept bFT.out (cell_at X0.out 3))
                have x4 := cell_kept BR9.out (cell_kept bFT.out (cell_at X0.out 4))
                have y0 := cell_kept BR9.out (cell_kept bFT.out (cell_at X1.out 0))
                have y1 := cell_kept BR9.out (cell_kept bFT.out (cell_at X1.out 1))
                have z0 := cell_kept BR9.out (cell_at ZT.out 0)
                have z1 := cell_kept BR9.out (cell_at ZT.out 1)
                have t0 := cell_kept BR9.out (cell_at XT.out 0)
                have t1 := cell_kept BR9.out (cell_at XT.out 1)
                have t2 := cell_kept BR9.out (cell_at XT.out 2)
                have t3 := cell_kept BR9.out (cell_at XT.out 3)
                have zx := szs (cell_lt x0)
                have zy := szs (cell_lt y0)
                have zz := szs (cell_lt z0)
                have zt := szs (cell_lt t0)
                dsimp only at zx zy zz zt
                go_wp2_with fail
                (refine region_all (fun i : Nat => World.drewN _ i) mixed (by kernel_rfl) ⟨1, rfl⟩ ?_; (repeat (any_goals (first | go_big_quiet_step (fail) | quiet_step (fail) | (refine wpQuiet_step (fun K hK => ?_); go_simp; split <;> (refine hK _ ?_; clear hK K))))); (all_goals (refine wpQuiet_nil (fun nq => ?_))))
                clear x0 x1 x2 x3 x4 y0 y1 z0 z1 t0 t1 t2 t3 zx zy zz zt
                clear ck cr te
                go_wp2_with fail
                go_roundw
                case rel => exact ⟨i + 1, j + 1, x, by go_num, rfl, by omega, Lib.hid ⟨by have := HIJ.out; omega, by rw [HL1.out]⟩, Lib.hid (BR9.out.trans (below_drewN (Below.refl _ _) nq)), Lib.hid (by rw [HP1.out]; exact ((below_drewN (Below.refl w9.heap.size w9) nq).block _ (block_lt XR9.out)).trans XR9.out)⟩
                case measure => simp [intOf]; omega
            · subst hokv
              have tb1 : decide ((x : Int) < (m : Int)) = false := decide_eq_false (by omega)
              have tb2 : decide (x < m) = false := decide_eq_false (by omega)
              obtain ⟨hP1, hL1⟩ := HNS.out rfl
              have HP1 := Lib.hid hP1
              have HL1 := Lib.hid hL1
              clear hP1 hL1
              have x0 := cell_kept BR9.out (cell_kept bFT.out (cell_at X0.out 0))
              have x1 := cell_kept BR9.out (cell_kept bFT.out (cell_at X0.out 1))
              have x2 := cell_kept BR9.out (cell_kept bFT.out (cell_at X0.out 2))
              have x3 := cell_kept BR9.out (cell_kept bFT.out (cell_at X0.out 3))
              have x4 := cell_kept BR9.out (cell_kept bFT.out (cell_at X0.out 4))
              have y0 := cell_kept BR9.out (cell_kept bFT.out (cell_at X1.out 0))
              have y1 := cell_kept BR9.out (cell_kept bFT.out (cell_at X1.out 1))
              have z0 := cell_kept BR9.out (cell_at ZT.out 0)
              have z1 := cell_kept BR9.out (cell_at ZT.out 1)
              have t0 := cell_kept BR9.out (cell_at XT.out 0)
              have t1 := cell_kept BR9.out (cell_at XT.out 1)
              have t2 := cell_kept BR9.out (cell_at XT.out 2)
              have t3 := cell_kept BR9.out (cell_at XT.out 3)
              have zx := szs (cell_lt x0)
              have zy := szs (cell_lt y0)
              have zz := szs (cell_lt z0)
              have zt := szs (cell_lt t0)
              dsimp only at zx zy zz zt
              go_wp2_with fail
              (refine region_all (fun i : Nat => World.drewN _ i) mixed (by kernel_rfl) ⟨1, rfl⟩ ?_; (repeat (any_goals (first | go_big_quiet_step (fail) | quiet_step (fail) | (refine wpQuiet_step (fun K hK => ?_); go_simp; split <;> (refine hK _ ?_; clear hK K))))); (all_goals (refine wpQuiet_nil (fun nq => ?_))))
              clear x0 x1 x2 x3 x4 y0 y1 z0 z1 t0 t1 t2 t3 zx zy zz zt
              go_wp2_with fail
              go_roundw
              case rel => exact ⟨i + 1, j + 1, x, by go_num, rfl, by omega, Lib.hid ⟨by have := HIJ.out; omega, by rw [HL1.out]⟩, Lib.hid (BR9.out.trans (below_drewN (Below.refl _ _) nq)), Lib.hid (by rw [HP1.out]; exact ((below_drewN (Below.refl w9.heap.size w9) nq).block _ (block_lt XR9.out)).trans XR9.out)⟩
              case measure => simp [intOf]; omega
          · obtain rfl : i = k := by omega
            have hj : j = i - d := by have := HIJ.out; omega
            have hxm : x = m := by have h1 := HIJ.out.2; have h2 := HP.out.fin; rw [hj] at h1; omega
            have bdj := HP.out.bd j (by have := HIJ.out; omega)
            have hh := HP.out.home
            rw [← hj] at hh
            have TM := timesR_ok HNO.out HRO.out wr ((HGW.out.below BW.out).net) bdj.1
            have hS := HNO.out.S_bd bdj.1 (dp : Int)
            have hlh := Int.mul_le_mul bdj.2.1.2 hh1 hh0 (by decide)
            have hlh0 := Int.mul_nonneg bdj.2.1.1 hh0
            dsimp only at hh
            have HXS := XR
            obtain ⟨sv, hsv⟩ : ∃ sv, sv = g.S (PP j).at' (dp : Int) := ⟨_, rfl⟩
            rw [← hsv] at hh hS
            have HSV : Hid (sv = g.S (PP j).at' (dp : Int)) := Lib.hid hsv
            obtain ⟨hb1, ⟨hb2, hb3⟩, ⟨hb4, hb5⟩, _⟩ := bdj
            clear hsv hb1
            generalize (PP j).at' = a1 at XR TM HSV HXS
            generalize (PP j).now = a3 at *
            generalize (PP j).load = a2' at *
            obtain ⟨lh, hlhe⟩ : ∃ lh, lh = a2' * g.h := ⟨_, rfl⟩
            have TM := Lib.hid TM
            have tl : decide (ttil < a3 + sv + a2' * g.h) = false := decide_eq_false (by omega)
            subst hxm
            have u0 := cell_at XR.out 0
            have u1 := cell_at XR.out 1
            have u2 := cell_at XR.out 2
            have zu := szs (block_lt XR.out)
            clear hj hlhe
            have x0 := cell_kept BR.out (cell_kept bFT.out (cell_at X0.out 0))
            have x1 := cell_kept BR.out (cell_kept bFT.out (cell_at X0.out 1))
            have x2 := cell_kept BR.out (cell_kept bFT.out (cell_at X0.out 2))
            have x3 := cell_kept BR.out (cell_kept bFT.out (cell_at X0.out 3))
            have x4 := cell_kept BR.out (cell_kept bFT.out (cell_at X0.out 4))
            have y0 := cell_kept BR.out (cell_kept bFT.out (cell_at X1.out 0))
            have y1 := cell_kept BR.out (cell_kept bFT.out (cell_at X1.out 1))
            have z0 := cell_kept BR.out (cell_at ZT.out 0)
            have z1 := cell_kept BR.out (cell_at ZT.out 1)
            have t0 := cell_kept BR.out (cell_at XT.out 0)
            have t1 := cell_kept BR.out (cell_at XT.out 1)
            have t2 := cell_kept BR.out (cell_at XT.out 2)
            have t3 := cell_kept BR.out (cell_at XT.out 3)
            have zx := szs (cell_lt x0)
            have zy := szs (cell_lt y0)
            have zz := szs (cell_lt z0)
            have zt := szs (cell_lt t0)
            dsimp only at zx zy zz zt
            go_wp2_with fail
            refine TM.out.mono ?_
            rintro e w11 ⟨bt, rfl, N11, b11⟩
            have r11 := N11.cell hdpn
            rw [← HSV.out] at r11
            have z11 := szs (cell_lt r11)
            dsimp only at z11
            have BR11 := Lib.hid (BR.out.trans (b11.mono BR.out.size))
            have XR11 := Lib.hid ((b11.block _ (block_lt XR.out)).trans XR.out)
            clear x0 x1 x2 x3 x4 y0 y1 z0 z1 t0 t1 t2 t3 zx zy zz zt
            clear u0 u1 u2 zu TM N11 b11 XR BR HXS
            have u0 := cell_at XR11.out 0
            have u1 := cell_at XR11.out 1
            have u2 := cell_at XR11.out 2
            have zu := szs (block_lt XR11.out)
            have tdn : (dp : Int) < (n : Int) := by omega
            have hn63 : n ≤ 9223372036854775807 := by omega
            have x0 := cell_kept BR11.out (cell_kept bFT.out (cell_at X0.out 0))
            have x1 := cell_kept BR11.out (cell_kept bFT.out (cell_at X0.out 1))
            have x2 := cell_kept BR11.out (cell_kept bFT.out (cell_at X0.out 2))
            have x3 := cell_kept BR11.out (cell_kept bFT.out (cell_at X0.out 3))
            have x4 := cell_kept BR11.out (cell_kept bFT.out (cell_at X0.out 4))
            have y0 := cell_kept BR11.out (cell_kept bFT.out (cell_at X1.out 0))
            have y1 := cell_kept BR11.out (cell_kept bFT.out (cell_at X1.out 1))
            have z0 := cell_kept BR11.out (cell_at ZT.out 0)
            have z1 := cell_kept BR11.out (cell_at ZT.out 1)
            have t0 := cell_kept BR11.out (cell_at XT.out 0)
            have t1 := cell_kept BR11.out (cell_at XT.out 1)
            have t2 := cell_kept BR11.out (cell_at XT.out 2)
            have t3 := cell_kept BR11.out (cell_at XT.out 3)
            have zx := szs (cell_lt x0)
            have zy := szs (cell_lt y0)
            have zz := szs (cell_lt z0)
            have zt := szs (cell_lt t0)
            dsimp only at zx zy zz zt
            go_wp2_with fail
            (refine region_all (fun i : Nat => World.drewN _ i) mixed (by kernel_rfl) ⟨1, rfl⟩ ?_; (repeat (any_goals (first | go_big_quiet_step (fail) | quiet_step (fail) | (refine wpQuiet_step (fun K hK => ?_); go_simp; split <;> (refine hK _ ?_; clear hK K))))); (all_goals (refine wpQuiet_nil (fun nq => ?_))))
            have BQ := below_drewN (Below.refl w11.heap.size w11) nq
            have BRQ := Lib.hid (BR11.out.trans (BQ.mono BR11.out.size))
            have BWQ := Lib.hid (BT.out.trans (BRQ.out.mono BT.out.size))
            clear x0 x1 x2 x3 x4 y0 y1 z0 z1 t0 t1 t2 t3 zx zy zz zt
            clear BQ u0 u1 u2 zu r11 z11 XR11 BR11
            generalize w11.drewN nq = w12 at *
            have M5 := Lib.hid (MR.out w12 BWQ.out)
            have x0 := cell_kept BRQ.out (cell_kept bFT.out (cell_at X0.out 0))
            have x1 := cell_kept BRQ.out (cell_kept bFT.out (cell_at X0.out 1))
            have x2 := cell_kept BRQ.out (cell_kept bFT.out (cell_at X0.out 2))
            have x3 := cell_kept BRQ.out (cell_kept bFT.out (cell_at X0.out 3))
            have x4 := cell_kept BRQ.out (cell_kept bFT.out (cell_at X0.out 4))
            have y0 := cell_kept BRQ.out (cell_kept bFT.out (cell_at X1.out 0))
            have y1 := cell_kept BRQ.out (cell_kept bFT.out (cell_at X1.out 1))
            have z0 := cell_kept BRQ.out (cell_at ZT.out 0)
            have z1 := cell_kept BRQ.out (cell_at ZT.out 1)
            have t0 := cell_kept BRQ.out (cell_at XT.out 0)
            have t1 := cell_kept BRQ.out (cell_at XT.out 1)
            have t2 := cell_kept BRQ.out (cell_at XT.out 2)
            have t3 := cell_kept BRQ.out (cell_at XT.out 3)
            have zx := szs (cell_lt x0)
            have zy := szs (cell_lt y0)
            have zz := szs (cell_lt z0)
            have zt := szs (cell_lt t0)
            dsimp only at zx zy zz zt
            go_wp2_with fail
            refine M5.out.mono ?_
            rintro e w13 ⟨b13, h13⟩
            have BR13 := Lib.hid (BRQ.out.trans (b13.mono BRQ.out.size))
            have BW13 := Lib.hid (BWQ.out.trans (b13.mono BWQ.out.size))
            clear x0 x1 x2 x3 x4 y0 y1 z0 z1 t0 t1 t2 t3 zx zy zz zt
            clear b13 M5
            rcases h13 with ⟨hne, rfl⟩ | ⟨hze, v5, rfl, _⟩
            · have te1 : (RE == 0) = false := by simpa using hne
              have tm : ((x : Int) == (i : Int)) = false := by
                have h : ¬ (x = i) := fun e => hne (HRE.out.2 e)
                exact beq_eq_false_iff_ne.2 (by omega)
              clear hne
              have x0 := cell_kept BR13.out (cell_kept bFT.out (cell_at X0.out 0))
              have x1 := cell_kept BR13.out (cell_kept bFT.out (cell_at X0.out 1))
              have x2 := cell_kept BR13.out (cell_kept bFT.out (cell_at X0.out 2))
              have x3 := cell_kept BR13.out (cell_kept bFT.out (cell_at X0.out 3))
              have x4 := cell_kept BR13.out (cell_kept bFT.out (cell_at X0.out 4))
              have y0 := cell_kept BR13.out (cell_kept bFT.out (cell_at X1.out 0))
              have y1 := cell_kept BR13.out (cell_kept bFT.out (cell_at X1.out 1))
              have z0 := cell_kept BR13.out (cell_at ZT.out 0)
              have z1 := cell_kept BR13.out (cell_at ZT.out 1)
              have t0 := cell_kept BR13.out (cell_at XT.out 0)
              have t1 := cell_kept BR13.out (cell_at XT.out 1)
              have t2 := cell_kept BR13.out (cell_at XT.out 2)
              have t3 := cell_kept BR13.out (cell_at XT.out 3)
              have zx := szs (cell_lt x0)
              have zy := szs (cell_lt y0)
              have zz := szs (cell_lt z0)
              have zt := szs (cell_lt t0)
              dsimp only at zx zy zz zt
              go_wp2_with fail
              clear x0 x1 x2 x3 x4 y0 y1 z0 z1 t0 t1 t2 t3 zx zy zz zt
              refine (AW.out _).mono ?_
              rintro e wz ⟨rfl, bz⟩
              have BZ := Lib.hid (BW13.out.trans (bz.mono BW13.out.size))
              clear bz
              go_wp2_with fail
              go_returns
              exact ⟨rfl, BZ.out⟩
            · have tm : ((x : Int) == (i : Int)) = true := by
                have h : x = i := HRE.out.1 hze
                exact beq_iff_eq.2 (by omega)
              clear hze
              have x0 := cell_kept BR13.out (cell_kept bFT.out (cell_at X0.out 0))
              have x1 := cell_kept BR13.out (cell_kept bFT.out (cell_at X0.out 1))
              have x2 := cell_kept BR13.out (cell_kept bFT.out (cell_at X0.out 2))
              have x3 := cell_kept BR13.out (cell_kept bFT.out (cell_at X0.out 3))
              have x4 := cell_kept BR13.out (cell_kept bFT.out (cell_at X0.out 4))
              have y0 := cell_kept BR13.out (cell_kept bFT.out (cell_at X1.out 0))
              have y1 := cell_kept BR13.out (cell_kept bFT.out (cell_at X1.out 1))
              have z0 := cell_kept BR13.out (cell_at ZT.out 0)
              have z1 := cell_kept BR13.out (cell_at ZT.out 1)
              have t0 := cell_kept BR13.out (cell_at XT.out 0)
              have t1 := cell_kept BR13.out (cell_at XT.out 1)
              have t2 := cell_kept BR13.out (cell_at XT.out 2)
              have t3 := cell_kept BR13.out (cell_at XT.out 3)
              have zx := szs (cell_lt x0)
              have zy := szs (cell_lt y0)
              have zz := szs (cell_lt z0)
              have zt := szs (cell_lt t0)
              dsimp only at zx zy zz zt
              go_wp2_with fail
              clear x0 x1 x2 x3 x4 y0 y1 z0 z1 t0 t1 t2 t3 zx zy zz zt
              refine (AW.out _).mono ?_
              rintro e wz ⟨rfl, bz⟩
              have BZ := Lib.hid (BW13.out.trans (bz.mono BW13.out.size))
              clear bz
              go_wp2_with fail
              go_returns
              exact ⟨rfl, BZ.out⟩
end Go.Proofs.YtlnfhlmgnppcbaaGreat
