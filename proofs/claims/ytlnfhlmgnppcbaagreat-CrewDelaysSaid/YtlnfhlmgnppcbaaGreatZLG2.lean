/- The law CrewDelays. -/
import Derived.Test.YtlnfhlmgnppcbaaGreatZRFA
import Derived.Test.YtlnfhlmgnppcbaaGreatZOPA
import Derived.Test.YtlnfhlmgnppcbaaGreatZCSA
import Derived.BigQuiet
import Derived.BigRegion
namespace Go.Proofs.YtlnfhlmgnppcbaaGreat
open Go.RowKit Go.ChangeShapes Go.WideShapes Go.Deep
set_option linter.unusedVariables false
set_option linter.unusedSimpArgs false
open Rd
theorem delay_facts {g : Ng} {n : Nat} {r : Int} {R : Nat → Int} {k d : Nat} {late P : Int} (hw : WOk g n r R k) (hz : walkE g r R k = 0) (hd : d ≤ k) (hP : P = nowK g (g.T r.toNat) R d) (h0 : 0 ≤ late) (h1 : P + late ≤ 86400) :
    restE g r R k d (P + late) = (if (g.T r.toNat).til < backK g (g.T r.toNat) R k + late then 25 else 0) ∧ delayK g r R d (P + late) = late ∧ restE g r R k d (P - 1) = if P = 0 then 1 else 18 := by
  have hn := hw.now hd
  have e0 : ((d : Int)).toNat = d := Int.toNat_natCast d
  have e1 : delayK g r R d (P + late) = late := by
    unfold delayK
    rw [e0, ← hP]; omega
  have e2 : lateE g r R k d (P + late) = 0 := by
    unfold lateE
    rw [if_neg (by simp [hz]), if_neg (by omega), e0, ← hP, if_neg (by omega)]
  have e3 : lateE g r R k d (P - 1) = if P = 0 then 1 else 18 := by
    unfold lateE
    rw [if_neg (by simp [hz])]
    by_cases hp : P = 0
    · rw [if_pos (by omega), if_pos hp]
    · rw [if_neg (by omega), e0, ← hP, if_pos (by omega), if_neg hp]
  refine ⟨?_, e1, ?_⟩
  · unfold restE
    rw [e2, e1, if_neg (by simp)]
  · unfold restE
    rw [e3]
    split <;> simp
theorem WOk.vis_bd {g : Ng} {n : Nat} {r : Int} {R : Nat → Int} {k : Nat} (hw : WOk g n r R k) (i : Nat) (hi : i < k) : (0 ≤ (visK g (g.T r.toNat) R i).arr ∧ (visK g (g.T r.toNat) R i).arr ≤ 86400) ∧ 0 ≤ (visK g (g.T r.toNat) R i).lea ∧ (visK g (g.T r.toNat) R i).lea ≤ 86400 := by
  have h1 := hw.now (i := i) (by omega)
  have h2 := hw.now (i := i + 1) (by omega)
  have h3 := (hw.step i hi).1
  have h4 := (hw.ro.work hi).1
  have e1 : nowK g (g.T r.toNat) R (i + 1) = nowK g (g.T r.toNat) R i + g.S (atK g (g.T r.toNat) R i) (g.nd (R i)).node + g.work (R i) := rfl
  unfold visK
  dsimp only
  omega
set_option maxRecDepth 40000 in
set_option maxHeartbeats 16000000 in
theorem run_crewDelays {H : Type} {enc : TypeId × Value → H} (W : World) (base : Nat) (v0 : Value) (d0 : DataW H) (p0 : List MemPlace) (hv0 : Value.okWide Tryz.prog W .any base 32 v0) (h0 : DataW.Trod enc Tryz.prog W 0 (fun _ => true) true 32 v0 d0 p0)
    (v1 : Value) (d1 : DataW H) (p1 : List MemPlace) (hv1 : Value.okWide Tryz.prog W .any base 51 v1) (h1 : DataW.Trod enc Tryz.prog W 0 (fun _ => true) true 51 v1 d1 p1)
    (v2 : Value) (d2 : DataW H) (p2 : List MemPlace) (hv2 : Value.okWide Tryz.prog W .any base 3 v2) (h2 : DataW.Trod enc Tryz.prog W 0 (fun _ => true) true 3 v2 d2 p2)
    (v3 : Value) (d3 : DataW H) (p3 : List MemPlace) (hv3 : Value.okWide Tryz.prog W .any base 3 v3) (h3 : DataW.Trod enc Tryz.prog W 0 (fun _ => true) true 3 v3 d3 p3) :
    Calls Tryz.prog 7 #[v0, v1, v2, v3] W fun e w' => e = .returned (.bool true) ∧ Below W.heap.size W w' := by
  obtain ⟨g, rfl, hg⟩ := open_night hv0 h0
  obtain ⟨r, ra, k, rc, R, rfl, hR⟩ := open_route hv1 h1
  obtain ⟨done, rfl, rfl, rfl, _⟩ := open_int Tryz.underlying3 hv2 h2
  obtain ⟨late, rfl, rfl, rfl, _⟩ := open_int Tryz.underlying3 hv3 h3
  clear hv0 h0 hv1 h1 hv2 h2 hv3 h3
  have AW := Lib.hid (fun w' => awakeC19 w')
  have htm := hR.hm
  have htc := hR.hc
  have B0 : Hid (Below W.heap.size W ((W.alloc (.cells g.cells 32)).alloc (.cells #[.int .i64 r, .slice ra k rc] 51))) := Lib.hid (by (repeat' (first | (with_reducible exact Below.refl _ _) | (with_reducible assumption) | (with_reducible refine Below.drew ?_) | (with_reducible refine below_drewN ?_ _) | (with_reducible refine Below.alloc ?_ ?_ _) | (with_reducible refine Below.setCell ?_ ?_ _) | go_size)))
  have X0 := Lib.hid (al_keep (al_at W (.cells g.cells 32) rfl) (.cells #[.int .i64 r, .slice ra k rc] 51))
  have X1 := Lib.hid (al_at (W.alloc (.cells g.cells 32)) (.cells #[.int .i64 r, .slice ra k rc] 51) (k := W.heap.size + 1) (by simp))
  obtain ⟨w0, hw0⟩ : ∃ w0, w0 = (W.alloc (.cells g.cells 32)).alloc (.cells #[.int .i64 r, .slice ra k rc] 51) := ⟨_, rfl⟩
  rw [← hw0] at B0 X0 X1
  have HW0 := Lib.hid hw0
  have HG0 := Lib.hid (hg.below B0.out)
  have HR0 := Lib.hid (hR.below B0.out)
  have FEW := Lib.hid (few18 g w0 HG0.out)
  obtain ⟨q, hq⟩ : ∃ q, q = (decide (g.em ≤ 600) && decide (g.tn ≤ 20) && decide (g.nn ≤ 30)) := ⟨_, rfl⟩
  rw [← hq] at FEW
  have HCC : Hid (g.cells = #[.int .i64 g.N, .slice g.ea g.em g.ec, .slice g.ta g.tn g.tc, .slice g.na g.nn g.nc, .int .i64 g.h]) := Lib.hid rfl
  rw [HCC.out] at X0 HW0 FEW ⊢
  have HGW := Lib.hid hg
  have HRW := Lib.hid hR
  clear hw0 hg hR hq
  go_enter Tryz.func7, Tryz.ntmps7
  go_wp2_with fail
  rw [← HW0.out]
  have x0 := cell_kept (Below.refl w0.heap.size w0) (cell_at X0.out 0)
  have x1 := cell_kept (Below.refl w0.heap.size w0) (cell_at X0.out 1)
  have x2 := cell_kept (Below.refl w0.heap.size w0) (cell_at X0.out 2)
  have x3 := cell_kept (Below.refl w0.heap.size w0) (cell_at X0.out 3)
  have x4 := cell_kept (Below.refl w0.heap.size w0) (cell_at X0.out 4)
  have y0 := cell_kept (Below.refl w0.heap.size w0) (cell_at X1.out 0)
  have y1 := cell_kept (Below.refl w0.heap.size w0) (cell_at X1.out 1)
  try dsimp only at x0 x1 x2 x3 x4 y0 y1
  have zx := szs (cell_lt x0)
  have zy := szs (cell_lt y0)
  dsimp only at zx zy
  by_cases hn : 30 < k
  · have tn : decide ((30 : Int) < (k : Int)) = true := decide_eq_true (by omega)
    go_wp2_with fail
    refine FEW.out.mono ?_
    rintro e wf ⟨rfl, bf⟩
    have BF := Lib.hid (B0.out.trans (bf.mono B0.out.size))
    clear x0 x1 x2 x3 x4 zx y0 y1 zy
    have x0 := cell_kept bf (cell_at X0.out 0)
    have x1 := cell_kept bf (cell_at X0.out 1)
    have x2 := cell_kept bf (cell_at X0.out 2)
    have x3 := cell_kept bf (cell_at X0.out 3)
    have x4 := cell_kept bf (cell_at X0.out 4)
    have y0 := cell_kept bf (cell_at X1.out 0)
    have y1 := cell_kept bf (cell_at X1.out 1)
    try dsimp only at x0 x1 x2 x3 x4 y0 y1
    have zx := szs (cell_lt x0)
    have zy := szs (cell_lt y0)
    dsimp only at zx zy
    clear FEW bf
    cases q with
    | false =>
      go_wp2_with fail
      refine (AW.out _).mono ?_
      rintro e wz ⟨rfl, bz⟩
      have BZ := Lib.hid (BF.out.trans (bz.mono BF.out.size))
      clear bz
      go_wp2_with fail
      go_returns
      exact ⟨rfl, BZ.out⟩
    | true =>
      go_wp2_with fail
      refine (AW.out _).mono ?_
      rintro e wz ⟨rfl, bz⟩
      have BZ := Lib.hid (BF.out.trans (bz.mono BF.out.size))
      clear bz
      go_wp2_with fail
      go_returns
      exact ⟨rfl, BZ.out⟩
  have tn : decide ((30 : Int) < (k : Int)) = false := decide_eq_false (by omega)
  have hk : k ≤ 30 := by omega
  by_cases hl0 : late < 0
  · have t0 : decide (late < 0) = true := decide_eq_true hl0
    go_wp2_with fail
    refine FEW.out.mono ?_
    rintro e wf ⟨rfl, bf⟩
    have BF := Lib.hid (B0.out.trans (bf.mono B0.out.size))
    clear x0 x1 x2 x3 x4 zx y0 y1 zy
    have x0 := cell_kept bf (cell_at X0.out 0)
    have x1 := cell_kept bf (cell_at X0.out 1)
    have x2 := cell_kept bf (cell_at X0.out 2)
    have x3 := cell_kept bf (cell_at X0.out 3)
    have x4 := cell_kept bf (cell_at X0.out 4)
    have y0 := cell_kept bf (cell_at X1.out 0)
    have y1 := cell_kept bf (cell_at X1.out 1)
    try dsimp only at x0 x1 x2 x3 x4 y0 y1
    have zx := szs (cell_lt x0)
    have zy := szs (cell_lt y0)
    dsimp only at zx zy
    clear FEW bf
    cases q with
    | false =>
      go_wp2_with fail
      refine (AW.out _).mono ?_
      rintro e wz ⟨rfl, bz⟩
      have BZ := Lib.hid (BF.out.trans (bz.mono BF.out.size))
      clear bz
      go_wp2_with fail
      go_returns
      exact ⟨rfl, BZ.out⟩
    | true =>
      go_wp2_with fail
      refine (AW.out _).mono ?_
      rintro e wz ⟨rfl, bz⟩
      have BZ := Lib.hid (BF.out.trans (bz.mono BF.out.size))
      clear bz
      go_wp2_with fail
      go_returns
      exact ⟨rfl, BZ.out⟩
  have t0 : decide (late < 0) = false := decide_eq_false hl0
  by_cases hl1 : 86400 < late
  · have t1 : decide (86400 < late) = true := decide_eq_true hl1
    go_wp2_with fail
    refine FEW.out.mono ?_
    rintro e wf ⟨rfl, bf⟩
    have BF := Lib.hid (B0.out.trans (bf.mono B0.out.size))
    clear x0 x1 x2 x3 x4 zx y0 y1 zy
    have x0 := cell_kept bf (cell_at X0.out 0)
    have x1 := cell_kept bf (cell_at X0.out 1)
    have x2 := cell_kept bf (cell_at X0.out 2)
    have x3 := cell_kept bf (cell_at X0.out 3)
    have x4 := cell_kept bf (cell_at X0.out 4)
    have y0 := cell_kept bf (cell_at X1.out 0)
    have y1 := cell_kept bf (cell_at X1.out 1)
    try dsimp only at x0 x1 x2 x3 x4 y0 y1
    have zx := szs (cell_lt x0)
    have zy := szs (cell_lt y0)
    dsimp only at zx zy
    clear FEW bf
    cases q with
    | false =>
      go_wp2_with fail
      refine (AW.out _).mono ?_
      rintro e wz ⟨rfl, bz⟩
      have BZ := Lib.hid (BF.out.trans (bz.mono BF.out.size))
      clear bz
      go_wp2_with fail
      go_returns
      exact ⟨rfl, BZ.out⟩
    | true =>
      go_wp2_with fail
      refine (AW.out _).mono ?_
      rintro e wz ⟨rfl, bz⟩
      have BZ := Lib.hid (BF.out.trans (bz.mono BF.out.size))
      clear bz
      go_wp2_with fail
      go_returns
      exact ⟨rfl, BZ.out⟩
  have t1 : decide (86400 < late) = false := decide_eq_false hl1
  go_wp2_with fail
  refine FEW.out.mono ?_
  rintro e wf ⟨rfl, bf⟩
  have BF := Lib.hid (B0.out.trans (bf.mono B0.out.size))
  clear x0 x1 x2 x3 x4 zx y0 y1 zy
  have x0 := cell_kept bf (cell_at X0.out 0)
  have x1 := cell_kept bf (cell_at X0.out 1)
  have x2 := cell_kept bf (cell_at X0.out 2)
  have x3 := cell_kept bf (cell_at X0.out 3)
  have x4 := cell_kept bf (cell_at X0.out 4)
  have y0 := cell_kept bf (cell_at X1.out 0)
  have y1 := cell_kept bf (cell_at X1.out 1)
  try dsimp only at x0 x1 x2 x3 x4 y0 y1
  have zx := szs (cell_lt x0)
  have zy := szs (cell_lt y0)
  dsimp only at zx zy
  cases q with
  | false =>
    clear FEW bf
    go_wp2_with fail
    refine (AW.out _).mono ?_
    rintro e wz ⟨rfl, bz⟩
    have BZ := Lib.hid (BF.out.trans (bz.mono BF.out.size))
    clear bz
    go_wp2_with fail
    go_returns
    exact ⟨rfl, BZ.out⟩
  | true =>
    clear FEW
    have bF := Lib.hid bf
    have M1 := Lib.hid (walkR28 g r R k ra rc wf (HG0.out.below bf) (HR0.out.below bf) (by omega))
    rw [HCC.out] at M1
    clear bf
    go_wp2_with fail
    refine M1.out.mono ?_
    rintro e w2 ⟨b2, h2⟩
    have B2 := Lib.hid (BF.out.trans (b2.mono BF.out.size))
    have bF2 := Lib.hid (bF.out.trans (b2.mono bF.out.size))
    clear x0 x1 x2 x3 x4 zx y0 y1 zy
    have x0 := cell_kept bF2.out (cell_at X0.out 0)
    have x1 := cell_kept bF2.out (cell_at X0.out 1)
    have x2 := cell_kept bF2.out (cell_at X0.out 2)
    have x3 := cell_kept bF2.out (cell_at X0.out 3)
    have x4 := cell_kept bF2.out (cell_at X0.out 4)
    have y0 := cell_kept bF2.out (cell_at X1.out 0)
    have y1 := cell_kept bF2.out (cell_at X1.out 1)
    try dsimp only at x0 x1 x2 x3 x4 y0 y1
    have zx := szs (cell_lt x0)
    have zy := szs (cell_lt y0)
    dsimp only at zx zy
    clear b2 M1
    rcases h2 with ⟨hne, rfl⟩ | ⟨hz, v2, rfl, r2⟩
    · have te : (walkE g r R k != 0) = true := by simpa using hne
      clear hne
      go_wp2_with fail
      refine (AW.out _).mono ?_
      rintro e wz ⟨rfl, bz⟩
      have BZ := Lib.hid (B2.out.trans (bz.mono B2.out.size))
      clear bz
      go_wp2_with fail
      go_returns
      exact ⟨rfl, BZ.out⟩
    · obtain ⟨a2, c2, rfl, s2⟩ := ViRow.toSl r2
      have S2 := Lib.hid s2
      clear r2 s2
      by_cases hd0 : done < 0
      · have te : decide (done < 0) = true := decide_eq_true hd0
        go_wp2_with fail
        refine (AW.out _).mono ?_
        rintro e wz ⟨rfl, bz⟩
        have BZ := Lib.hid (B2.out.trans (bz.mono B2.out.size))
        clear bz
        go_wp2_with fail
        go_returns
        exact ⟨rfl, BZ.out⟩
      have td : decide (done < 0) = false := decide_eq_false hd0
      by_cases hd1 : (k : Int) < done
      · have te : decide ((k : Int) < done) = true := decide_eq_true hd1
        go_wp2_with fail
        refine (AW.out _).mono ?_
        rintro e wz ⟨rfl, bz⟩
        have BZ := Lib.hid (B2.out.trans (bz.mono B2.out.size))
        clear bz
        go_wp2_with fail
        go_returns
        exact ⟨rfl, BZ.out⟩
      have td1 : decide ((k : Int) < done) = false := decide_eq_false hd1
      obtain ⟨d, rfl⟩ := Int.eq_ofNat_of_zero_le (show 0 ≤ done by omega)
      obtain ⟨n, hw⟩ := wok_of hz
      have hdk : d ≤ k := by omega
      have hk16 := hw.ro.k16
      have hr0 := hw.ro.r0
      have hr1 := hw.ro.r1
      have hbk0 : backK g (g.T r.toNat) R k ≤ 86400 := by have := hw.back; have := hw.ro.tk; omega
      have hbk1 : 0 ≤ backK g (g.T r.toNat) R k := by have := hw.back_le 0 (Nat.zero_le _) (Nat.le_refl _); have h2 := hw.home_all (i := 0) (Nat.zero_le _); have h3 := (hw.now (i := 0) (Nat.zero_le _)).1; have h4 : backK g (g.T r.toNat) R 0 = nowK g (g.T r.toNat) R 0 + g.S (atK g (g.T r.toNat) R 0) (g.T r.toNat).dep + 0 * g.h := rfl; rw [h4] at this; omega
      have hnd := hw.now hdk
      have HVB := Lib.hid hw.vis_bd
      obtain ⟨P, hP⟩ : ∃ P, P = nowK g (g.T r.toNat) R d := ⟨_, rfl⟩
      have HDF := Lib.hid (fun h0 h1 => delay_facts (late := late) (P := P) hw hz hdk hP h0 h1)
      have HPV : Hid (∀ i, d = i + 1 → (visK g (g.T r.toNat) R i).lea = P) := Lib.hid (fun i hi => by rw [hP, hi]; rfl)
      have HP0 : Hid (d = 0 → (g.T r.toNat).frm = P) := Lib.hid (fun hi => by rw [hP, hi]; rfl)
      rw [← hP] at hnd
      have MR := Lib.hid (fun w' (hb : Below W.heap.size W w') nw => rest20 g r R k ra rc d nw w' (HGW.out.below hb) (HRW.out.below hb) (by omega))
      have HD : Hid (((d : Int)).toNat = d) := Lib.hid (Int.toNat_natCast _)
      unfold RestW at MR
      rw [HD.out, HCC.out] at MR
      obtain ⟨bk, hbk⟩ : ∃ bk, bk = backK g (g.T r.toNat) R k := ⟨_, rfl⟩
      rw [← hbk] at hbk0 hbk1 HDF MR ⊢
      obtain ⟨V, hV⟩ : ∃ V, V = visK g (g.T r.toNat) R := ⟨_, rfl⟩
      rw [← hV] at HVB HPV S2 MR
      obtain ⟨m, hm⟩ : ∃ m, m = k - d := ⟨_, rfl⟩
      rw [← hm] at MR
      have TM : Hid (((m : Int) != (k : Int) - (d : Int)) = false) := Lib.hid (by simp; omega)
      have HM := Lib.hid hm
      clear hm
      obtain ⟨q, rfl⟩ := Int.eq_ofNat_of_zero_le hr0
      have hq : q < g.tn := by omega
      have tq : (q : Int) < (g.tn : Int) := by omega
      obtain ⟨tb, to, htb, _, c0, c1, c2', c3⟩ := HGW.out.trucks.tk hq
      have TC2 := Lib.hid c2'
      have TC3 := Lib.hid c3
      clear c0 c1 c2' c3
      have e5 : g.T ((q : Int)).toNat = g.T q := rfl
      rw [e5] at HP0 HDF
      obtain ⟨frm, hfrm⟩ : ∃ frm, frm = (g.T q).frm := ⟨_, rfl⟩
      obtain ⟨til, htil⟩ : ∃ til, til = (g.T q).til := ⟨_, rfl⟩
      rw [← hfrm] at HP0 TC2
      rw [← htil] at TC3 HDF
      clear hz hw hbk hV hP e5 hfrm htil hr0 hr1
      clear x0 x1 x2 x3 x4 zx y0 y1 zy
      rw [htb] at X0 HW0 MR
      clear htb
      have x0 := cell_kept bF2.out (cell_at X0.out 0)
      have x1 := cell_kept bF2.out (cell_at X0.out 1)
      have x2 := cell_kept bF2.out (cell_at X0.out 2)
      have x3 := cell_kept bF2.out (cell_at X0.out 3)
      have x4 := cell_kept bF2.out (cell_at X0.out 4)
      have y0 := cell_kept bF2.out (cell_at X1.out 0)
      have y1 := cell_kept bF2.out (cell_at X1.out 1)
      try dsimp only at x0 x1 x2 x3 x4 y0 y1
      have zx := szs (cell_lt x0)
      have zy := szs (cell_lt y0)
      dsimp only at zx zy
      have p2 := cell_kept B2.out TC2.out
      have p3 := cell_kept B2.out TC3.out
      try dsimp only at p2 p3
      have zt := szs (cell_lt p2)
      dsimp only at zt
      by_cases hpl : 86400 < P + late
      · have t2 : decide (86400 < P + late) = true := decide_eq_true hpl
        by_cases hd2 : d = 0
        · subst hd2
          obtain rfl := HP0.out rfl
          have tp : decide ((0 : Int) < ((0 : Nat) : Int)) = false := by simp
          go_wp2_with fail
          refine (AW.out _).mono ?_
          rintro e wz ⟨rfl, bz⟩
          have BZ := Lib.hid (B2.out.trans (bz.mono B2.out.size))
          clear bz
          go_wp2_with fail
          go_returns
          exact ⟨rfl, BZ.out⟩
        · skip
          obtain ⟨i, rfl⟩ : ∃ i, d = i + 1 := ⟨d - 1, by omega⟩
          have ed : ((i + 1 : Nat) : Int) = (i : Int) + 1 := rfl
          rw [ed]
          have tp : decide ((0 : Int) < (i : Int) + 1) = true := decide_eq_true (by omega)
          obtain ⟨vb, vo, rfl, hg6, v0, v1, v2, v3⟩ := S2.out.vi (show i < k by omega)
          have zv := szs hg6
          rw [HPV.out i rfl] at v2
          have ti : (i : Int) < (k : Int) := by omega
          clear hd2 ed td td1 hd0 hd1 tn t0 t1
          have td : decide ((i : Int) + 1 < 0) = false := decide_eq_false (by omega)
          have td1 : decide ((k : Int) < (i : Int) + 1) = false := decide_eq_false (by omega)
          go_wp2_with fail
          refine (AW.out _).mono ?_
          rintro e wz ⟨rfl, bz⟩
          have BZ := Lib.hid (B2.out.trans (bz.mono B2.out.size))
          clear bz
          go_wp2_with fail
          go_returns
          exact ⟨rfl, BZ.out⟩
      have t2 : decide (86400 < P + late) = false := decide_eq_false hpl
      obtain ⟨hE, hDl, hE2⟩ := HDF.out (by omega) (by omega)
      have M2 := Lib.hid (MR.out w2 B2.out (P + late))
      rw [hE, hDl] at M2
      have M3 := Lib.hid (fun w' hb => MR.out w' hb (P - 1))
      rw [hE2] at M3
      clear MR hE hDl hE2 HDF
      by_cases hd2 : d = 0
      · subst hd2
        obtain rfl := HP0.out rfl
        have tp : decide ((0 : Int) < ((0 : Nat) : Int)) = false := by simp
        go_wp2_with fail
        refine M2.out.mono ?_
        rintro e w3 ⟨b3, h3⟩
        have B3 := Lib.hid (B2.out.trans (b3.mono B2.out.size))
        have bF3 := Lib.hid (bF2.out.trans (b3.mono bF2.out.size))
        have S3 := Lib.hid (S2.out.below b3)
        clear x0 x1 x2 x3 x4 zx y0 y1 zy
        clear p2 p3 zt
        have x0 := cell_kept bF3.out (cell_at X0.out 0)
        have x1 := cell_kept bF3.out (cell_at X0.out 1)
        have x2 := cell_kept bF3.out (cell_at X0.out 2)
        have x3 := cell_kept bF3.out (cell_at X0.out 3)
        have x4 := cell_kept bF3.out (cell_at X0.out 4)
        have y0 := cell_kept bF3.out (cell_at X1.out 0)
        have y1 := cell_kept bF3.out (cell_at X1.out 1)
        try dsimp only at x0 x1 x2 x3 x4 y0 y1
        have zx := szs (cell_lt x0)
        have zy := szs (cell_lt y0)
        dsimp only at zx zy
        have p2 := cell_kept B3.out TC2.out
        have p3 := cell_kept B3.out TC3.out
        try dsimp only at p2 p3
        have zt := szs (cell_lt p2)
        dsimp only at zt
        clear b3 M2 S2
        by_cases hlt : til < bk + late
        · have tl : decide (til < bk + late) = true := decide_eq_true hlt
          rw [if_pos hlt] at h3
          rcases h3 with ⟨_, rfl⟩ | ⟨h, _⟩
          rotate_left 1
          · exact absurd h (by decide)
          go_wp2_with fail
          refine (AW.out _).mono ?_
          rintro e wz ⟨rfl, bz⟩
          have BZ := Lib.hid (B3.out.trans (bz.mono B3.out.size))
          clear bz
          go_wp2_with fail
          go_returns
          exact ⟨rfl, BZ.out⟩
        · have tl : decide (til < bk + late) = false := decide_eq_false hlt
          rw [if_neg hlt] at h3
          rcases h3 with ⟨h, _⟩ | ⟨_, vw, rfl, rw3⟩
          · exact absurd rfl h
          obtain ⟨a3, c3, rfl, s3⟩ := ViRow.toSl rw3
          have SW := Lib.hid s3
          have m3 := s3.hm
          have k3 := s3.hc
          clear rw3 s3
          have tm := TM.out
          go_wp2_with fail
          clear tm
          clear x0 x1 x2 x3 x4 zx y0 y1 zy
          clear p2 p3 zt
          go_loopw [16] (fun s16 wr => ∃ j : Nat, s16 = .int .i64 j ∧ j ≤ m ∧ Hid (Below w3.heap.size w3 wr)) (fun s16 _ => m - (intOf s16).toNat)
          case atStart => exact ⟨0, rfl, by omega, Lib.hid (Below.refl _ _)⟩
          case round =>
            obtain ⟨j, rfl, hj, hrel⟩ := hrel
            have BR := hrel
            clear hrel
            by_cases hlt2 : j < m
            · have tj : (j : Int) < (m : Int) := by omega
              have hjk : j < k := by have := HM.out; omega
              have tjk : ((j : Nat) : Int) < (k : Int) := by omega
              have hbd := HVB.out j hjk
              obtain ⟨g1, o1, h1a, hg1, u0, u1, u2, u3⟩ := (SW.out.below BR.out).vi hlt2
              obtain ⟨g2, o2, h2a, hg2, z0, z1, z2, z3⟩ := (S3.out.below BR.out).vi hjk
              cases h1a
              cases h2a
              have zg1 := szs hg1
              have zg2 := szs hg2
              dsimp only [lateV] at u0 u1 u2 u3
              try rw [Nat.zero_add] at u0 u1 u2 u3
              generalize V j = x at *
              obtain ⟨e1, e2, e3, e4⟩ := x
              dsimp only at u0 u1 u2 u3 z0 z1 z2 z3 hbd
              go_wp2_with fail
              have ba : Below wr.heap.size wr (wr.alloc (.cells #[.int .i64 e1, .int .i64 e2, .int .i64 e3, .int .i64 e4] 56)) := by (repeat' (first | (with_reducible exact Below.refl _ _) | (with_reducible assumption) | (with_reducible refine Below.drew ?_) | (with_reducible refine below_drewN ?_ _) | (with_reducible refine Below.alloc ?_ ?_ _) | (with_reducible refine Below.setCell ?_ ?_ _) | go_size))
              have Xn := al_at wr (.cells #[.int .i64 e1, .int .i64 e2, .int .i64 e3, .int .i64 e4] 56) rfl
              obtain ⟨w4, hw4⟩ : ∃ w4, w4 = wr.alloc (.cells #[.int .i64 e1, .int .i64 e2, .int .i64 e3, .int .i64 e4] 56) := ⟨_, rfl⟩
              rw [← hw4] at ba Xn ⊢
              replace u0 := cell_kept ba u0
              replace u1 := cell_kept ba u1
              replace u2 := cell_kept ba u2
              replace u3 := cell_kept ba u3
              clear z0 z1 z2 z3 zg1 zg2 hg2 hw4
              have zg1 := szs (cell_lt u0)
              dsimp only at zg1
              have q0 := cell_at Xn 0
              have q1 := cell_at Xn 1
              have q2 := cell_at Xn 2
              have q3 := cell_at Xn 3
              try dsimp only at q0 q1 q2 q3
              have zq := szs (cell_lt q0)
              dsimp only at zq
              (refine region_all (fun i : Nat => World.drewN _ i) mixed (by kernel_rfl) ⟨1, rfl⟩ ?_; (repeat (any_goals (first | go_big_quiet_step (fail) | quiet_step (fail) | (refine wpQuiet_step (fun K hK => ?_); go_simp; split <;> (refine hK _ ?_; clear hK K))))); (all_goals (refine wpQuiet_nil (fun nq => ?_))))
              go_wp2_with fail
              go_roundw
              case rel => exact ⟨j + 1, by go_num, by omega, Lib.hid (below_drewN (BR.out.trans (ba.mono BR.out.size)) _)⟩
              case measure => simp [intOf]; omega
            · obtain rfl : j = m := by omega
              have x0 := cell_kept (bF3.out.trans (BR.out.mono bF3.out.size)) (cell_at X0.out 0)
              have x1 := cell_kept (bF3.out.trans (BR.out.mono bF3.out.size)) (cell_at X0.out 1)
              have x2 := cell_kept (bF3.out.trans (BR.out.mono bF3.out.size)) (cell_at X0.out 2)
              have x3 := cell_kept (bF3.out.trans (BR.out.mono bF3.out.size)) (cell_at X0.out 3)
              have x4 := cell_kept (bF3.out.trans (BR.out.mono bF3.out.size)) (cell_at X0.out 4)
              have y0 := cell_kept (bF3.out.trans (BR.out.mono bF3.out.size)) (cell_at X1.out 0)
              have y1 := cell_kept (bF3.out.trans (BR.out.mono bF3.out.size)) (cell_at X1.out 1)
              try dsimp only at x0 x1 x2 x3 x4 y0 y1
              have zx := szs (cell_lt x0)
              have zy := szs (cell_lt y0)
              dsimp only at zx zy
              have B4 := Lib.hid (B3.out.trans (BR.out.mono B3.out.size))
              have M4 := Lib.hid (M3.out _ B4.out)
              clear M3 BR
              go_wp2_with fail
              refine M4.out.mono ?_
              rintro e w5 ⟨b5, h5⟩
              have B5 := Lib.hid (B4.out.trans (b5.mono B4.out.size))
              clear x0 x1 x2 x3 x4 zx y0 y1 zy
              clear b5 M4
              by_cases hp0 : frm = 0
              · rw [if_pos hp0] at h5
                rcases h5 with ⟨_, rfl⟩ | ⟨h, _⟩
                rotate_left 1
                · exact absurd h (by decide)
                rw [hp0]
                go_wp2_with fail
                refine (AW.out _).mono ?_
                rintro e wz ⟨rfl, bz⟩
                have BZ := Lib.hid (B5.out.trans (bz.mono B5.out.size))
                clear bz
                go_wp2_with fail
                go_returns
                exact ⟨rfl, BZ.out⟩
              · rw [if_neg hp0] at h5
                rcases h5 with ⟨_, rfl⟩ | ⟨h, _⟩
                rotate_left 1
                · exact absurd h (by decide)
                go_wp2_with fail
                refine (AW.out _).mono ?_
                rintro e wz ⟨rfl, bz⟩
                have BZ := Lib.hid (B5.out.trans (bz.mono B5.out.size))
                clear bz
                go_wp2_with fail
                go_returns
                exact ⟨rfl, BZ.out⟩
      · skip
        obtain ⟨i, rfl⟩ : ∃ i, d = i + 1 := ⟨d - 1, by omega⟩
        have ed : ((i + 1 : Nat) : Int) = (i : Int) + 1 := rfl
        rw [ed]
        have tp : decide ((0 : Int) < (i : Int) + 1) = true := decide_eq_true (by omega)
        obtain ⟨vb, vo, rfl, hg6, v0, v1, v2, v3⟩ := S2.out.vi (show i < k by omega)
        have zv := szs hg6
        rw [HPV.out i rfl] at v2
        have ti : (i : Int) < (k : Int) := by omega
        clear hd2 ed td td1 hd0 hd1 tn t0 t1
        have td : decide ((i : Int) + 1 < 0) = false := decide_eq_false (by omega)
        have td1 : decide ((k : Int) < (i : Int) + 1) = false := decide_eq_false (by omega)
        rw [show ((i + 1 : Nat) : Int) = (i : Int) + 1 from rfl] at M2 M3 TM
        go_wp2_with fail
        clear v0 v1 v2 v3 zv
        refine M2.out.mono ?_
        rintro e w3 ⟨b3, h3⟩
        have B3 := Lib.hid (B2.out.trans (b3.mono B2.out.size))
        have bF3 := Lib.hid (bF2.out.trans (b3.mono bF2.out.size))
        have S3 := Lib.hid (S2.out.below b3)
        clear x0 x1 x2 x3 x4 zx y0 y1 zy
        clear p2 p3 zt
        have x0 := cell_kept bF3.out (cell_at X0.out 0)
        have x1 := cell_kept bF3.out (cell_at X0.out 1)
        have x2 := cell_kept bF3.out (cell_at X0.out 2)
        have x3 := cell_kept bF3.out (cell_at X0.out 3)
        have x4 := cell_kept bF3.out (cell_at X0.out 4)
        have y0 := cell_kept bF3.out (cell_at X1.out 0)
        have y1 := cell_kept bF3.out (cell_at X1.out 1)
        try dsimp only at x0 x1 x2 x3 x4 y0 y1
        have zx := szs (cell_lt x0)
        have zy := szs (cell_lt y0)
        dsimp only at zx zy
        have p2 := cell_kept B3.out TC2.out
        have p3 := cell_kept B3.out TC3.out
        try dsimp only at p2 p3
        have zt := szs (cell_lt p2)
        dsimp only at zt
        clear b3 M2 S2
        by_cases hlt : til < bk + late
        · have tl : decide (til < bk + late) = true := decide_eq_true hlt
          rw [if_pos hlt] at h3
          rcases h3 with ⟨_, rfl⟩ | ⟨h, _⟩
          rotate_left 1
          · exact absurd h (by decide)
          go_wp2_with fail
          refine (AW.out _).mono ?_
          rintro e wz ⟨rfl, bz⟩
          have BZ := Lib.hid (B3.out.trans (bz.mono B3.out.size))
          clear bz
          go_wp2_with fail
          go_returns
          exact ⟨rfl, BZ.out⟩
        · have tl : decide (til < bk + late) = false := decide_eq_false hlt
          rw [if_neg hlt] at h3
          rcases h3 with ⟨h, _⟩ | ⟨_, vw, rfl, rw3⟩
          · exact absurd rfl h
          obtain ⟨a3, c3, rfl, s3⟩ := ViRow.toSl rw3
          have SW := Lib.hid s3
          have m3 := s3.hm
          have k3 := s3.hc
          clear rw3 s3
          have tm := TM.out
          go_wp2_with fail
          clear tm
          clear x0 x1 x2 x3 x4 zx y0 y1 zy
          clear p2 p3 zt
          go_loopw [16] (fun s16 wr => ∃ j : Nat, s16 = .int .i64 j ∧ j ≤ m ∧ Hid (Below w3.heap.size w3 wr)) (fun s16 _ => m - (intOf s16).toNat)
          case atStart => exact ⟨0, rfl, by omega, Lib.hid (Below.refl _ _)⟩
          case round =>
            obtain ⟨j, rfl, hj, hrel⟩ := hrel
            have BR := hrel
            clear hrel
            by_cases hlt2 : j < m
            · have tj : (j : Int) < (m : Int) := by omega
              have hjk : (i + 1 + j) < k := by have := HM.out; omega
              have tjk : (((i + 1 + j) : Nat) : Int) < (k : Int) := by omega
              have hbd := HVB.out (i + 1 + j) hjk
              obtain ⟨g1, o1, h1a, hg1, u0, u1, u2, u3⟩ := (SW.out.below BR.out).vi hlt2
              obtain ⟨g2, o2, h2a, hg2, z0, z1, z2, z3⟩ := (S3.out.below BR.out).vi hjk
              cases h1a
              cases h2a
              have zg1 := szs hg1
              have zg2 := szs hg2
              dsimp only [lateV] at u0 u1 u2 u3
              try rw [Nat.zero_add] at u0 u1 u2 u3
              generalize V (i + 1 + j) = x at *
              obtain ⟨e1, e2, e3, e4⟩ := x
              dsimp only at u0 u1 u2 u3 z0 z1 z2 z3 hbd
              go_wp2_with fail
              have ba : Below wr.heap.size wr (wr.alloc (.cells #[.int .i64 e1, .int .i64 e2, .int .i64 e3, .int .i64 e4] 56)) := by (repeat' (first | (with_reducible exact Below.refl _ _) | (with_reducible assumption) | (with_reducible refine Below.drew ?_) | (with_reducible refine below_drewN ?_ _) | (with_reducible refine Below.alloc ?_ ?_ _) | (with_reducible refine Below.setCell ?_ ?_ _) | go_size))
              have Xn := al_at wr (.cells #[.int .i64 e1, .int .i64 e2, .int .i64 e3, .int .i64 e4] 56) rfl
              obtain ⟨w4, hw4⟩ : ∃ w4, w4 = wr.alloc (.cells #[.int .i64 e1, .int .i64 e2, .int .i64 e3, .int .i64 e4] 56) := ⟨_, rfl⟩
              rw [← hw4] at ba Xn ⊢
              replace u0 := cell_kept ba u0
              replace u1 := cell_kept ba u1
              replace u2 := cell_kept ba u2
              replace u3 := cell_kept ba u3
              clear z0 z1 z2 z3 zg1 zg2 hg2 hw4
              have zg1 := szs (cell_lt u0)
              dsimp only at zg1
              have q0 := cell_at Xn 0
              have q1 := cell_at Xn 1
              have q2 := cell_at Xn 2
              have q3 := cell_at Xn 3
              try dsimp only at q0 q1 q2 q3
              have zq := szs (cell_lt q0)
              dsimp only at zq
              (refine region_all (fun i : Nat => World.drewN _ i) mixed (by kernel_rfl) ⟨1, rfl⟩ ?_; (repeat (any_goals (first | go_big_quiet_step (fail) | quiet_step (fail) | (refine wpQuiet_step (fun K hK => ?_); go_simp; split <;> (refine hK _ ?_; clear hK K))))); (all_goals (refine wpQuiet_nil (fun nq => ?_))))
              go_wp2_with fail
              go_roundw
              case rel => exact ⟨j + 1, by go_num, by omega, Lib.hid (below_drewN (BR.out.trans (ba.mono BR.out.size)) _)⟩
              case measure => simp [intOf]; omega
            · obtain rfl : j = m := by omega
              have x0 := cell_kept (bF3.out.trans (BR.out.mono bF3.out.size)) (cell_at X0.out 0)
              have x1 := cell_kept (bF3.out.trans (BR.out.mono bF3.out.size)) (cell_at X0.out 1)
              have x2 := cell_kept (bF3.out.trans (BR.out.mono bF3.out.size)) (cell_at X0.out 2)
              have x3 := cell_kept (bF3.out.trans (BR.out.mono bF3.out.size)) (cell_at X0.out 3)
              have x4 := cell_kept (bF3.out.trans (BR.out.mono bF3.out.size)) (cell_at X0.out 4)
              have y0 := cell_kept (bF3.out.trans (BR.out.mono bF3.out.size)) (cell_at X1.out 0)
              have y1 := cell_kept (bF3.out.trans (BR.out.mono bF3.out.size)) (cell_at X1.out 1)
              try dsimp only at x0 x1 x2 x3 x4 y0 y1
              have zx := szs (cell_lt x0)
              have zy := szs (cell_lt y0)
              dsimp only at zx zy
              have B4 := Lib.hid (B3.out.trans (BR.out.mono B3.out.size))
              have M4 := Lib.hid (M3.out _ B4.out)
              clear M3 BR
              go_wp2_with fail
              refine M4.out.mono ?_
              rintro e w5 ⟨b5, h5⟩
              have B5 := Lib.hid (B4.out.trans (b5.mono B4.out.size))
              clear x0 x1 x2 x3 x4 zx y0 y1 zy
              clear b5 M4
              by_cases hp0 : P = 0
              · rw [if_pos hp0] at h5
                rcases h5 with ⟨_, rfl⟩ | ⟨h, _⟩
                rotate_left 1
                · exact absurd h (by decide)
                rw [hp0]
                go_wp2_with fail
                refine (AW.out _).mono ?_
                rintro e wz ⟨rfl, bz⟩
                have BZ := Lib.hid (B5.out.trans (bz.mono B5.out.size))
                clear bz
                go_wp2_with fail
                go_returns
                exact ⟨rfl, BZ.out⟩
              · rw [if_neg hp0] at h5
                rcases h5 with ⟨_, rfl⟩ | ⟨h, _⟩
                rotate_left 1
                · exact absurd h (by decide)
                go_wp2_with fail
                refine (AW.out _).mono ?_
                rintro e wz ⟨rfl, bz⟩
                have BZ := Lib.hid (B5.out.trans (bz.mono B5.out.size))
                clear bz
                go_wp2_with fail
                go_returns
                exact ⟨rfl, BZ.out⟩
end Go.Proofs.YtlnfhlmgnppcbaaGreat
