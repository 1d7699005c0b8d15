/- The law TopTrucks. -/
import Derived.Test.YtlnfhlmgnppcbaaGreatZTU3
import Derived.Test.YtlnfhlmgnppcbaaGreatZOPA
import Derived.Test.YtlnfhlmgnppcbaaGreatZOPL
import Derived.BigQuiet
import Derived.BigRegion
import Derived.WalkLawsBesides
namespace Go.Proofs.YtlnfhlmgnppcbaaGreat
open Go.RowKit Go.ChangeShapes Go.WideShapes Go.Deep
set_option linter.unusedVariables false
set_option linter.unusedSimpArgs false
open Rd
theorem Sl.rt {w : World} {ao : Option Addr} {n c : Nat} {F : Nat → Rt} (h : Sl w 2 ao n c (rtf F)) {i : Nat} (hi : i < n) : ∃ g o, ao = some ⟨g, o, .none⟩ ∧ g < w.heap.size ∧ w.cell? ⟨g, o + i * 2, .none⟩ = some (.int .i64 (F i).r) ∧ w.cell? ⟨g, o + i * 2 + 1, .none⟩ = some (.slice (F i).a (F i).n (F i).c) := by
  obtain ⟨g, o, e, hc⟩ := h.cell hi
  have h0 : w.cell? ⟨g, o + i * 2, .none⟩ = some (.int .i64 (F i).r) := hc 0 (by decide)
  exact ⟨g, o, e, cell_lt h0, h0, hc 1 (by decide)⟩
set_option maxRecDepth 8000 in
set_option maxHeartbeats 16000000 in
theorem run_topTrucks {H : Type} {enc : TypeId × Value → H} (W : World) (base : Nat) (v0 : Value) (d0 : DataW H) (p0 : List MemPlace) (hv0 : Value.okWide Tryz.prog W .any base 24 v0) (h0 : DataW.Trod enc Tryz.prog W 0 (fun _ => true) true 24 v0 d0 p0)
    (v1 : Value) (d1 : DataW H) (p1 : List MemPlace) (hv1 : Value.okWide Tryz.prog W .any base 25 v1) (h1 : DataW.Trod enc Tryz.prog W 0 (fun _ => true) true 25 v1 d1 p1)
    (v2 : Value) (d2 : DataW H) (p2 : List MemPlace) (hv2 : Value.okWide Tryz.prog W .any base 3 v2) (h2 : DataW.Trod enc Tryz.prog W 0 (fun _ => true) true 3 v2 d2 p2)
    (v3 : Value) (d3 : DataW H) (p3 : List MemPlace) (hv3 : Value.okWide Tryz.prog W .any base 32 v3) (h3 : DataW.Trod enc Tryz.prog W 0 (fun _ => true) true 32 v3 d3 p3) :
    Calls Tryz.prog 3 #[v0, v1, v2, v3] W fun e w' => e = .returned (.bool true) ∧ Below W.heap.size W w' := by
  obtain ⟨f, rfl, hf, _⟩ := open_fleet hv0 h0
  obtain ⟨ao, n, c, F, rfl, hs, hF⟩ := open_events hv1 h1
  obtain ⟨tm, rfl, rfl, rfl, _⟩ := open_int Tryz.underlying3 hv2 h2
  obtain ⟨g, rfl, hg⟩ := open_night hv3 h3
  clear hv0 h0 hv1 h1 hv2 h2 hv3 h3
  have hmc := hs.hm
  have hcc := hs.hc
  have B0 : Hid (Below W.heap.size W ((W.alloc (.cells f.cells 24)).alloc (.cells g.cells 32))) := Lib.hid (by (repeat' (first | (with_reducible exact Below.refl _ _) | (with_reducible assumption) | (with_reducible refine Below.drew ?_) | (with_reducible refine below_drewN ?_ _) | (with_reducible refine Below.alloc ?_ ?_ _) | (with_reducible refine Below.setCell ?_ ?_ _) | go_size)))
  have XF0 := Lib.hid (al_keep (al_at W (.cells f.cells 24) rfl) (.cells g.cells 32))
  have XN0 := Lib.hid (al_at (W.alloc (.cells f.cells 24)) (.cells g.cells 32) (k := W.heap.size + 1) (by simp))
  obtain ⟨w0, hw0⟩ : ∃ w0, w0 = (W.alloc (.cells f.cells 24)).alloc (.cells g.cells 32) := ⟨_, rfl⟩
  rw [← hw0] at B0 XF0 XN0
  have HW0 := Lib.hid hw0
  have HF0 := Lib.hid (hf.below B0.out)
  have HG0 := Lib.hid (hg.below B0.out)
  have HS := Lib.hid (hs.below B0.out)
  have HFI : Hid (∀ e ∈ ents F n, inN e) := Lib.hid (fun e he => by
    obtain ⟨i, hi, rfl⟩ := mem_ents.1 he
    exact hF i hi)
  have FEW := Lib.hid (few10 f ao n c w0 HF0.out hmc hcc)
  obtain ⟨q1, hq1⟩ : ∃ q, q = (decide (n ≤ 40) && decide (f.nd ≤ 40) && decide (f.nt ≤ 20)) := ⟨_, rfl⟩
  rw [← hq1] at FEW
  have QI := Lib.hid (fun w' (hb : Below w0.heap.size w0 w') => quick11 g w' (HG0.out.below hb))
  obtain ⟨q2, hq2⟩ : ∃ q, q = (decide (g.nn ≤ 5) && decide (g.tn ≤ 3) && decide (g.em ≤ 60)) := ⟨_, rfl⟩
  rw [← hq2] at QI
  have HQ1 := Lib.hid hq1
  have HQ2 := Lib.hid hq2
  have HFC : Hid (f.cells = #[.int .i64 f.bikes, .int .i64 f.riders, .int .i64 f.devs, .slice f.ad f.nd f.cd, .slice f.a2 f.nt f.ct]) := Lib.hid rfl
  have HCC : Hid (g.cells = #[.int .i64 g.N, .slice g.ea g.em g.ec, .slice g.ta g.tn g.tc, .slice g.na g.nn g.nc, .int .i64 g.h]) := Lib.hid rfl
  have htl := hf.trucks.hm
  have htc := hf.trucks.hc
  rw [HFC.out] at XF0 HW0 FEW ⊢
  rw [HCC.out] at XN0 HW0 QI ⊢
  clear hw0 hf hs hF hg hq1 hq2
  go_enter Tryz.func3, Tryz.ntmps3
  go_wp2_with fail
  rw [← HW0.out]
  clear HW0
  have x0 := cell_kept (Below.refl w0.heap.size w0) (cell_at XF0.out 0)
  have x1 := cell_kept (Below.refl w0.heap.size w0) (cell_at XF0.out 1)
  have x2 := cell_kept (Below.refl w0.heap.size w0) (cell_at XF0.out 2)
  have x3 := cell_kept (Below.refl w0.heap.size w0) (cell_at XF0.out 3)
  have x4 := cell_kept (Below.refl w0.heap.size w0) (cell_at XF0.out 4)
  try dsimp only at x0 x1 x2 x3 x4
  have zx := szs (cell_lt x0)
  dsimp only at zx
  have y0 := cell_kept (Below.refl w0.heap.size w0) (cell_at XN0.out 0)
  have y1 := cell_kept (Below.refl w0.heap.size w0) (cell_at XN0.out 1)
  have y2 := cell_kept (Below.refl w0.heap.size w0) (cell_at XN0.out 2)
  have y3 := cell_kept (Below.refl w0.heap.size w0) (cell_at XN0.out 3)
  have y4 := cell_kept (Below.refl w0.heap.size w0) (cell_at XN0.out 4)
  try dsimp only at y0 y1 y2 y3 y4
  have zy := szs (cell_lt y0)
  dsimp only at zy
  go_wp2_with fail
  refine FEW.out.mono ?_
  rintro e wf ⟨rfl, bf⟩
  have BF := Lib.hid (B0.out.trans (bf.mono B0.out.size))
  have bF := Lib.hid bf
  clear x0 x1 x2 x3 x4 zx
  clear y0 y1 y2 y3 y4 zy
  clear FEW bf
  cases q1 with
  | false =>
    go_wp2_with fail
    refine (loadAwake12 _).mono ?_
    rintro e wz ⟨rfl, bz⟩
    have BZ := Lib.hid (BF.out.trans (bz.mono BF.out.size))
    clear bz
    go_wp2_with fail
    go_returns
    exact ⟨rfl, BZ.out⟩
  | true =>
    have x0 := cell_kept bF.out (cell_at XF0.out 0)
    have x1 := cell_kept bF.out (cell_at XF0.out 1)
    have x2 := cell_kept bF.out (cell_at XF0.out 2)
    have x3 := cell_kept bF.out (cell_at XF0.out 3)
    have x4 := cell_kept bF.out (cell_at XF0.out 4)
    try dsimp only at x0 x1 x2 x3 x4
    have zx := szs (cell_lt x0)
    dsimp only at zx
    have y0 := cell_kept bF.out (cell_at XN0.out 0)
    have y1 := cell_kept bF.out (cell_at XN0.out 1)
    have y2 := cell_kept bF.out (cell_at XN0.out 2)
    have y3 := cell_kept bF.out (cell_at XN0.out 3)
    have y4 := cell_kept bF.out (cell_at XN0.out 4)
    try dsimp only at y0 y1 y2 y3 y4
    have zy := szs (cell_lt y0)
    dsimp only at zy
    go_wp2_with fail
    refine (QI.out wf bF.out).mono ?_
    rintro e wq ⟨rfl, bq⟩
    have BQ := Lib.hid (BF.out.trans (bq.mono BF.out.size))
    have bQ := Lib.hid (bF.out.trans (bq.mono bF.out.size))
    clear x0 x1 x2 x3 x4 zx
    clear y0 y1 y2 y3 y4 zy
    clear QI bq bF BF
    cases q2 with
    | false =>
      go_wp2_with fail
      refine (loadAwake12 _).mono ?_
      rintro e wz ⟨rfl, bz⟩
      have BZ := Lib.hid (BQ.out.trans (bz.mono BQ.out.size))
      clear bz
      go_wp2_with fail
      go_returns
      exact ⟨rfl, BZ.out⟩
    | true =>
      obtain ⟨hn40, hnn5, htn3⟩ : n ≤ 40 ∧ g.nn ≤ 5 ∧ g.tn ≤ 3 := by
        have h1 := HQ1.out
        have h2 := HQ2.out
        simp at h1 h2
        omega
      clear HQ1 HQ2
      go_wp2_with fail
      go_loopw [9] (fun s9 wr => ∃ k : Nat, s9 = .int .i64 k ∧ k ≤ f.nt ∧ Hid (Below w0.heap.size w0 wr)) (fun s9 _ => f.nt - (intOf s9).toNat)
      case atStart => exact ⟨0, rfl, by omega, bQ⟩
      case round =>
        clear bQ BQ
        obtain ⟨k, rfl, hk, hr⟩ := hrel
        have BK := hr
        clear hr
        have HFk := Lib.hid (HF0.out.below BK.out)
        have HSk := Lib.hid (HS.out.below BK.out)
        by_cases hlt : k < f.nt
        · have tk : (k : Int) < (f.nt : Int) := by omega
          have tk2 : decide ((k : Int) < (f.nt : Int)) = true := decide_eq_true tk
          have MV := Lib.hid (moved13 f ao n c F k tm wr HFk.out HSk.out (by omega) HFI.out)
          have LD := Lib.hid (fun w' (hb : Below wr.heap.size wr w') => loads14 f ao n c F k w' (HFk.out.below hb) (HSk.out.below hb) (by omega) HFI.out)
          unfold LoadsW at LD
          have LC := loads_case f (ents F n) k tm
          rw [ents_len] at LC
          rw [HFC.out] at MV LD
          generalize movedV f (ents F n) k tm = X at *
          obtain ⟨a1, a2, a3⟩ := X
          generalize loadsL f (ents F n) k = L at *
          generalize loadsE f k = E at *
          dsimp only at MV LC
          have LCH := Lib.hid LC
          clear LC
          have x0 := cell_kept BK.out (cell_at XF0.out 0)
          have x1 := cell_kept BK.out (cell_at XF0.out 1)
          have x2 := cell_kept BK.out (cell_at XF0.out 2)
          have x3 := cell_kept BK.out (cell_at XF0.out 3)
          have x4 := cell_kept BK.out (cell_at XF0.out 4)
          try dsimp only at x0 x1 x2 x3 x4
          have zx := szs (cell_lt x0)
          dsimp only at zx
          go_wp2_with fail
          refine MV.out.mono ?_
          rintro e w4 ⟨rfl, b4⟩
          have B4 := Lib.hid (BK.out.trans (b4.mono BK.out.size))
          have B34 := Lib.hid b4
          clear x0 x1 x2 x3 x4 zx
          clear MV b4
          have x0 := cell_kept B4.out (cell_at XF0.out 0)
          have x1 := cell_kept B4.out (cell_at XF0.out 1)
          have x2 := cell_kept B4.out (cell_at XF0.out 2)
          have x3 := cell_kept B4.out (cell_at XF0.out 3)
          have x4 := cell_kept B4.out (cell_at XF0.out 4)
          try dsimp only at x0 x1 x2 x3 x4
          have zx := szs (cell_lt x0)
          dsimp only at zx
          go_wp2_with fail
          refine (LD.out w4 B34.out).mono ?_
          rintro e w5 ⟨b5, h5⟩
          have B5 := Lib.hid (B4.out.trans (b5.mono B4.out.size))
          have HF5 := Lib.hid ((HFk.out.below B34.out).below b5)
          clear x0 x1 x2 x3 x4 zx
          clear LD b5 B4 B34 BK HFk HSk
          rcases LCH.out with ⟨_, e1, e2, e3⟩ | ⟨e0, _, e5, e6, e7, e8, e9, e13, c1, r1, e10, e11, e12⟩
          · try dsimp only at e1 e2 e3
            subst e1 e2
            have t3 : (a3 != 0) = true := by simpa using e3
            have hv : ∃ (v : Value) (x : Int), e = .returned (.tuple #[v, .int .i64 x]) := by
              rcases h5 with ⟨_, h⟩ | ⟨_, v, _, _, h, _⟩
              · exact ⟨_, _, h⟩
              · exact ⟨_, _, h⟩
            obtain ⟨v5, x5, rfl⟩ := hv
            clear e3 LCH h5
            go_wp2_with fail
            exact ⟨⟨k + 1, by go_num, by omega, B5⟩, by simp [intOf]; omega⟩
          · try dsimp only at e5 e6 e7 e8 e9
            subst e5
            subst e0
            obtain ⟨al, cl, rfl, sl⟩ : ∃ (al : Option Addr) (cl : Nat), e = .returned (.tuple #[.slice al L.length cl, .int .i64 0]) ∧ Sl w5 2 al L.length cl (lvf (fun i => L.getD i (0, 0))) := by
              rcases h5 with ⟨h, _⟩ | ⟨_, v, m, F5, h, hr, he⟩
              · exact absurd rfl h
              · obtain ⟨al, cl, rfl, sl⟩ := Row.toSl (loads_row hr he) (lvf_len _)
                exact ⟨al, cl, h, sl⟩
            have SL := Lib.hid sl
            have hlm := sl.hm
            have hlc := sl.hc
            have hlen : 1 ≤ L.length := by rw [e10]; simp
            have hc1 : (L.getD 0 (0, 0)).2 = c1 := by rw [e10]; rfl
            obtain ⟨C, hC⟩ : ∃ C : Nat → Int, C = fun j => countT tm (L.take j) := ⟨_, rfl⟩
            have HC0 : Hid (C 0 = 0) := Lib.hid (by rw [hC]; rfl)
            have HCS : Hid (∀ j, j < L.length → C (j + 1) = if (L.getD j (0, 0)).1 ≤ tm then (L.getD j (0, 0)).2 else C j) := Lib.hid (fun j hj => by rw [hC]; exact countT_take tm L hj)
            have HCE : Hid (C L.length = a1 - a2) := Lib.hid (by rw [hC, e7]; dsimp only; rw [List.take_length])
            have HCC2 : Hid (a1 - a2 ≤ f.T k) := Lib.hid (by rw [e7]; simpa using e13)
            have HC1 := Lib.hid hc1
            have HE12 := Lib.hid e12
            rw [Int.toNat_natCast] at HE12
            clear hC e10 e12 e7 LCH hc1 h5 sl e13
            go_wp2_with fail
            go_loopw [15, 16] (fun s15 s16 wr => ∃ j : Nat, s16 = .int .i64 j ∧ j ≤ L.length ∧ s15 = .int .i64 (C j) ∧ wr = w5) (fun _ s16 _ => L.length - (intOf s16).toNat)
            case atStart => exact ⟨0, rfl, by omega, by rw [HC0.out], rfl⟩
            case round =>
              obtain ⟨j, rfl, hj, rfl, rfl⟩ := hrel
              by_cases hlt2 : j < L.length
              · have tj : (j : Int) < (L.length : Int) := by omega
                have tj2 : decide ((j : Int) < (L.length : Int)) = true := decide_eq_true tj
                obtain ⟨g5, o5, rfl, hg5, l0, l1⟩ := SL.out.lv hlt2
                have zg := szs hg5
                have HS1 := Lib.hid (HCS.out j hlt2)
                generalize L.getD j (0, 0) = y at *
                obtain ⟨y1, y2⟩ := y
                dsimp only at l0 l1 HS1
                by_cases ha : y1 ≤ tm
                · have ta : decide (y1 ≤ tm) = true := decide_eq_true ha
                  rw [if_pos ha] at HS1
                  go_wp2_with fail
                  go_roundw
                  case rel => exact ⟨j + 1, by go_num, by omega, by rw [HS1.out], (by first | rfl | trivial)⟩
                  case measure => simp [intOf]; omega
                · have ta : decide (y1 ≤ tm) = false := decide_eq_false ha
                  rw [if_neg ha] at HS1
                  go_wp2_with fail
                  go_roundw
                  case rel => exact ⟨j + 1, by go_num, by omega, by rw [HS1.out], (by first | rfl | trivial)⟩
                  case measure => simp [intOf]; omega
              · obtain rfl : j = L.length := by omega
                rw [HCE.out]
                have tjj : decide ((L.length : Int) < (L.length : Int)) = false := decide_eq_false (by omega)
                obtain ⟨gt, ot, hta, hgt, lt0⟩ := HF5.out.trucks.num hlt
                obtain ⟨g5, o5, rfl, hg5, l0, l1⟩ := SL.out.lv (show 0 < L.length by omega)
                have hc1 := HC1.out
                rw [hc1] at l1
                simp only [Nat.zero_mul, Nat.add_zero, Nat.zero_add] at l0 l1
                have CR := Lib.hid (carried15 (some ⟨g5, o5, none⟩) L.length cl (fun i => L.getD i (0, 0)) (f.T k) wr SL.out)
                have hcap := HCC2.out
                generalize f.T k = cap at *
                obtain ⟨r, hr⟩ : ∃ r, r = carB cap L.length (fun i => L.getD i (0, 0)) := ⟨_, rfl⟩
                rw [← hr] at CR HE12
                have u1 : decide (a2 < 0) = false := decide_eq_false (by omega)
                have u2 : decide (a1 < a2) = false := decide_eq_false (by omega)
                have u3 : (a1 - a2 != a1 - a2) = false := by simp
                have u4 : decide (cap < a1 - a2) = false := decide_eq_false (by omega)
                have u5 : ((L.length : Int) == 0) = false := beq_eq_false_iff_ne.2 (by omega)
                have u6 : (0 : Int) < (L.length : Int) := by omega
                have u7 : -9223372036854775808 ≤ a1 - a2 ∧ a1 - a2 ≤ 9223372036854775807 := by omega
                clear hr HCS HC0 HCE HC1 hlt2 hj hc1 l0 HCC2 hcap
                have xf4 := XF0.out
                rw [hta] at xf4
                have x4 := cell_kept B5.out (cell_at xf4 4)
                try dsimp only at x4
                have zx := szs (cell_lt x4)
                dsimp only at zx
                clear xf4 hta
                have zg := szs hgt
                have zl := szs hg5
                by_cases hc0 : c1 = 0
                · have hrt := HE12.out hc0
                  have tc0 : (c1 == 0) = true := by simpa using hc0
                  rw [hrt] at CR
                  clear hrt hc0
                  go_wp2_with fail
                  refine CR.out.mono ?_
                  rintro e w6 ⟨rfl, b6⟩
                  have B6 := Lib.hid (B5.out.trans (b6.mono B5.out.size))
                  clear b6 CR lt0 l1 x4 zx zg zl
                  go_wp2_with fail
                  exact ⟨⟨k + 1, by go_num, by omega, B6⟩, by simp [intOf]; omega⟩
                · have tc0 : (c1 == 0) = false := by simpa using hc0
                  clear hc0 CR
                  go_wp2_with fail
                  exact ⟨⟨k + 1, by go_num, by omega, B5⟩, by simp [intOf]; omega⟩
        · obtain rfl : k = f.nt := by omega
          have tkk : decide ((f.nt : Int) < (f.nt : Int)) = false := decide_eq_false (by omega)
          have MK := Lib.hid (make16 g wr (HG0.out.below BK.out) (by omega))
          rw [HCC.out] at MK
          unfold MakeW at MK
          have HGk := Lib.hid (HG0.out.below BK.out)
          clear HFk HSk
          have x0 := cell_kept BK.out (cell_at XF0.out 0)
          have x1 := cell_kept BK.out (cell_at XF0.out 1)
          have x2 := cell_kept BK.out (cell_at XF0.out 2)
          have x3 := cell_kept BK.out (cell_at XF0.out 3)
          have x4 := cell_kept BK.out (cell_at XF0.out 4)
          try dsimp only at x0 x1 x2 x3 x4
          have zx := szs (cell_lt x0)
          dsimp only at zx
          have y0 := cell_kept BK.out (cell_at XN0.out 0)
          have y1 := cell_kept BK.out (cell_at XN0.out 1)
          have y2 := cell_kept BK.out (cell_at XN0.out 2)
          have y3 := cell_kept BK.out (cell_at XN0.out 3)
          have y4 := cell_kept BK.out (cell_at XN0.out 4)
          try dsimp only at y0 y1 y2 y3 y4
          have zy := szs (cell_lt y0)
          dsimp only at zy
          go_wp2_with fail
          refine MK.out.mono ?_
          rintro e w4 ⟨b4, h4⟩
          have B4 := Lib.hid (BK.out.trans (b4.mono BK.out.size))
          have HG4 := Lib.hid (HGk.out.below b4)
          clear x0 x1 x2 x3 x4 zx
          clear y0 y1 y2 y3 y4 zy
          clear MK b4 BK HGk
          rcases h4 with ⟨x, hx, rfl⟩ | ⟨ra, q, rc, la, m, lc, FR, rfl, hrs, hok⟩
          · have tx : (x != 0) = true := by simpa using hx
            have B5 : Hid (Below w0.heap.size w0 (w4.alloc (.cells #[.slice none 0 0, .slice none 0 0] 37))) := Lib.hid (B4.out.trans (Below.mono (by (repeat' (first | (with_reducible exact Below.refl _ _) | (with_reducible assumption) | (with_reducible refine Below.drew ?_) | (with_reducible refine below_drewN ?_ _) | (with_reducible refine Below.alloc ?_ ?_ _) | (with_reducible refine Below.setCell ?_ ?_ _) | go_size))) B4.out.size))
            clear hx
            go_wp2_with fail
            refine (loadAwake12 _).mono ?_
            rintro e wz ⟨rfl, bz⟩
            have BZ := Lib.hid ((B0.out.trans (B5.out.mono B0.out.size)).trans (bz.mono (B0.out.trans (B5.out.mono B0.out.size)).size))
            clear bz
            go_wp2_with fail
            go_returns
            exact ⟨rfl, BZ.out⟩
          · have HRS := Lib.hid hrs
            have HOK := Lib.hid hok
            have hqm := hrs.hm
            have hqc := hrs.hc
            have b5 : Below w4.heap.size w4 (w4.alloc (.cells #[.slice ra q rc, .slice la m lc] 37)) := by (repeat' (first | (with_reducible exact Below.refl _ _) | (with_reducible assumption) | (with_reducible refine Below.drew ?_) | (with_reducible refine below_drewN ?_ _) | (with_reducible refine Below.alloc ?_ ?_ _) | (with_reducible refine Below.setCell ?_ ?_ _) | go_size))
            have X5 := Lib.hid (heap_alloc_new w4 (.cells #[.slice ra q rc, .slice la m lc] 37))
            have B5 := Lib.hid (B4.out.trans (b5.mono B4.out.size))
            have HG5 := Lib.hid (HG4.out.below b5)
            have HRS5 := Lib.hid (HRS.out.below b5)
            have HOK5 : Hid (∀ i, i < q → Sl (w4.alloc (.cells #[.slice ra q rc, .slice la m lc] 37)) 1 (FR i).a (FR i).n (FR i).c (nf (FR i).R) ∧ walkE g (FR i).r (FR i).R (FR i).n = 0) := Lib.hid (fun i hi => ⟨(HOK.out i hi).1.below b5, (HOK.out i hi).2⟩)
            clear hrs hok b5
            go_wp2_with fail
            obtain ⟨w5, hw5⟩ : ∃ w5, w5 = w4.alloc (.cells #[.slice ra q rc, .slice la m lc] 37) := ⟨_, rfl⟩
            rw [← hw5] at X5 B5 HG5 HRS5 HOK5 ⊢
            clear hw5 HG4 HRS HOK
            go_loopw [19] (fun s19 wr => ∃ i : Nat, s19 = .int .i64 i ∧ i ≤ q ∧ Hid (Below w5.heap.size w5 wr)) (fun s19 _ => q - (intOf s19).toNat)
            case atStart => exact ⟨0, rfl, by omega, Lib.hid (Below.refl _ _)⟩
            case round =>
              obtain ⟨i, rfl, hi, hr⟩ := hrel
              have BI := hr
              clear hr
              have BR := Lib.hid (B5.out.trans (BI.out.mono B5.out.size))
              have X5i := (BI.out.block _ (block_lt X5.out)).trans X5.out
              have p0 := cell_at X5i 0
              have zp := szs (block_lt X5i)
              clear X5i
              by_cases hlt : i < q
              · have ti : (i : Int) < (q : Int) := by omega
                have ti2 : decide ((i : Int) < (q : Int)) = true := decide_eq_true ti
                obtain ⟨gr, or, rfl, hgr, c0, c1⟩ := (HRS5.out.below BI.out).rt hlt
                have zgr := szs hgr
                have HR0 := Lib.hid ((HOK5.out i hlt).1.below BI.out)
                have HW0 := Lib.hid (HOK5.out i hlt).2
                obtain ⟨rr, hrr⟩ : ∃ rr, rr = FR i := ⟨_, rfl⟩
                rw [← hrr] at c0 c1 HR0 HW0
                clear hrr
                obtain ⟨r, a, n', c', R⟩ := rr
                dsimp only at c0 c1 HR0 HW0
                obtain ⟨nz, hwok⟩ := wok_of HW0.out
                have HWK := Lib.hid hwok
                obtain ⟨r', rfl⟩ := Int.eq_ofNat_of_zero_le hwok.ro.r0
                have hr1 : (r' : Int) < (g.tn : Int) := hwok.ro.r1
                have hr2 : decide ((r' : Int) < 0) = false := decide_eq_false (by omega)
                have hr3 : decide ((g.tn : Int) ≤ (r' : Int)) = false := decide_eq_false (by omega)
                have hr4 : decide (g.tn ≤ r') = false := decide_eq_false (by omega)
                have hn16 := hwok.ro.k16
                clear hwok
                have b6 : Below wr.heap.size wr (wr.alloc (.cells #[.int .i64 (r' : Int), .slice a n' c'] 51)) := by (repeat' (first | (with_reducible exact Below.refl _ _) | (with_reducible assumption) | (with_reducible refine Below.drew ?_) | (with_reducible refine below_drewN ?_ _) | (with_reducible refine Below.alloc ?_ ?_ _) | (with_reducible refine Below.setCell ?_ ?_ _) | go_size))
                have X6 := Lib.hid (heap_alloc_new wr (.cells #[.int .i64 (r' : Int), .slice a n' c'] 51))
                have B6 := Lib.hid (BR.out.trans (b6.mono BR.out.size))
                have BI6 := Lib.hid (BI.out.trans (b6.mono BI.out.size))
                have HR6 := Lib.hid (HR0.out.below b6)
                have WK := Lib.hid (walkW17 g r' R n' a c' (wr.alloc (.cells #[.int .i64 (r' : Int), .slice a n' c'] 51)) (HG0.out.below B6.out) HR6.out (by omega))
                rw [HCC.out] at WK
                have hnm := HR0.out.hm
                have hnc := HR0.out.hc
                clear b6
                have y0 := cell_kept BR.out (cell_at XN0.out 0)
                have y1 := cell_kept BR.out (cell_at XN0.out 1)
                have y2 := cell_kept BR.out (cell_at XN0.out 2)
                have y3 := cell_kept BR.out (cell_at XN0.out 3)
                have y4 := cell_kept BR.out (cell_at XN0.out 4)
                try dsimp only at y0 y1 y2 y3 y4
                have zy := szs (cell_lt y0)
                dsimp only at zy
                go_wp2_with fail
                refine WK.out.mono ?_
                rintro e w7 ⟨b7, ⟨h, _⟩ | ⟨hz7, v, rfl, hv⟩⟩
                · exact absurd HW0.out h
                clear hz7
                obtain ⟨va, vc, rfl, sv⟩ := hv.toSl
                have SV := Lib.hid sv
                have B7 := Lib.hid (B6.out.trans (b7.mono B6.out.size))
                have BI7 := Lib.hid (BI6.out.trans (b7.mono BI6.out.size))
                have X7 := Lib.hid ((b7.block _ (block_lt X6.out)).trans X6.out)
                have HR7 := Lib.hid (HR6.out.below b7)
                have HG7 := Lib.hid (HG0.out.below B7.out)
                generalize wr.heap.size = bt at *
                generalize backK g (g.T ((r' : Int)).toNat) R n' = bk at *
                have hvm := sv.hm
                have hvc := sv.hc
                clear y0 y1 y2 y3 y4 zy
                clear hv sv b7 WK X6 B6 BI6 HR6 HR0 p0 zp c0 c1 zgr hgr BR BI
                have y0 := cell_kept B7.out (cell_at XN0.out 0)
                have y1 := cell_kept B7.out (cell_at XN0.out 1)
                have y2 := cell_kept B7.out (cell_at XN0.out 2)
                have y3 := cell_kept B7.out (cell_at XN0.out 3)
                have y4 := cell_kept B7.out (cell_at XN0.out 4)
                try dsimp only at y0 y1 y2 y3 y4
                have zy := szs (cell_lt y0)
                dsimp only at zy
                have z0 := cell_at X7.out 0
                have z1 := cell_at X7.out 1
                have zz := szs (block_lt X7.out)
                go_wp2_with fail
                clear y0 y1 y2 y3 y4 zy
                clear z0 z1 zz hr2 hr3 hr4
                go_loopw [24, 25] (fun s24 s25 wr => ∃ j : Nat, s25 = .int .i64 j ∧ j ≤ n' ∧ s24 = .int .i64 (loadK g R j) ∧ Hid (Below w7.heap.size w7 wr)) (fun _ s25 _ => n' - (intOf s25).toNat)
                case atStart => exact ⟨0, rfl, by omega, rfl, Lib.hid (Below.refl _ _)⟩
                case round =>
                  obtain ⟨j, rfl, hj, rfl, hr⟩ := hrel
                  have BJ := hr
                  clear hr
                  have BR := Lib.hid (B7.out.trans (BJ.out.mono B7.out.size))
                  by_cases hlt2 : j < n'
                  · have tj : (j : Int) < (n' : Int) := by omega
                    have tj2 : decide ((j : Int) < (n' : Int)) = true := decide_eq_true tj
                    have X7j := Lib.hid ((BJ.out.block _ (block_lt X7.out)).trans X7.out)
                    obtain ⟨gv, ov, rfl, hgv, v0, v1, v2, v3⟩ := (SV.out.below BJ.out).vi hlt2
                    obtain ⟨ga, oa, rfl, hga, e0⟩ := (HR7.out.below BJ.out).num hlt2
                    have hRj := (HWK.out.ro.needs j hlt2)
                    have hSt := (HWK.out.step j hlt2).2
                    have hcap : (g.T r').cap ≤ 32 := (HWK.out.ro.ng.T r' (by omega)).2.1.2
                    rw [Int.toNat_natCast] at hSt
                    have hS0 : 0 ≤ loadK g R j ∧ loadK g R j ≤ 32 := by
                      rcases j with _ | j
                      · exact ⟨Int.le_refl _, show (0 : Int) ≤ 32 by decide⟩
                      · have := (HWK.out.step j (by omega)).2
                        rw [Int.toNat_natCast] at this
                        omega
                    have eV0 : (visK g (g.T ((r' : Int)).toNat) R j).need = R j := rfl
                    have eV3 : (visK g (g.T ((r' : Int)).toNat) R j).load = loadK g R (j + 1) := rfl
                    have eL : loadK g R (j + 1) = loadK g R j + (g.D (R j).toNat).mv := rfl
                    rw [eV0] at v0
                    rw [eV3] at v3
                    obtain ⟨m', hm'⟩ := Int.eq_ofNat_of_zero_le hRj.1
                    rw [hm'] at v0 e0 hRj eL
                    rw [Int.toNat_natCast] at eL
                    have hmn : m' < g.nn := by omega
                    obtain ⟨gd, od, hna, hgd, d0, d1⟩ := (HG7.out.below BJ.out).needs.nd hmn
                    obtain ⟨gk, ok, hta, hgk, k0, k1, k2, k3⟩ := (HG7.out.below BJ.out).trucks.tk (show r' < g.tn by omega)
                    have HLS := Lib.hid (show loadK g R (j + 1) = loadK g R (j + 1) from rfl)
                    obtain ⟨ls, hls⟩ : ∃ ls, ls = loadK g R (j + 1) := ⟨_, rfl⟩
                    rw [← hls] at v3 hSt eL
                    replace hls := Lib.hid hls
                    generalize loadK g R j = l0 at *
                    generalize (g.D m').mv = mv at *
                    generalize (g.T r').cap = cap at *
                    clear v1 v2 d0 k0 k2 k3 hm' eV0 eV3 HLS
                    subst eL
                    have w1 : decide ((m' : Int) < 0) = false := decide_eq_false (by omega)
                    have w2' : decide ((g.nn : Int) ≤ (m' : Int)) = false := decide_eq_false (by omega)
                    have w3 : ((m' : Int) != (m' : Int)) = false := by simp
                    have w4' : (l0 + mv != l0 + mv) = false := by simp
                    have w5' : decide (l0 + mv < 0) = false := decide_eq_false (by omega)
                    have w6 : decide (cap < l0 + mv) = false := decide_eq_false (by omega)
                    have w7' : (m' : Int) < (g.nn : Int) := by omega
                    have wb : -9223372036854775808 ≤ l0 + mv ∧ l0 + mv ≤ 9223372036854775807 := by omega
                    have hmnl := HG7.out.needs.hm
                    have hmnc := HG7.out.needs.hc
                    have xn := XN0.out
                    rw [hna] at xn
                    have xt := XN0.out
                    rw [hta] at xt
                    have y3 := cell_kept BR.out (cell_at xn 3)
                    have y2 := cell_kept BR.out (cell_at xt 2)
                    try dsimp only at y2 y3
                    have zy := szs (cell_lt y2)
                    dsimp only at zy
                    have z0 := cell_at X7j.out 0
                    have z1 := cell_at X7j.out 1
                    have zz := szs (block_lt X7j.out)
                    have zv := szs hgv
                    have za := szs hga
                    have zd := szs hgd
                    have zk := szs hgk
                    have HNA := Lib.hid hna
                    have HTA := Lib.hid hta
                    clear hna hta xn xt hgv hga hgd hgk
                    go_wp2_with fail
                    (focus (refine region_all (fun i : Nat => World.drewN _ i) mixed (by kernel_rfl) ⟨1, rfl⟩ ?_; (repeat (any_goals (first | go_big_quiet_step (fail) | quiet_step (fail) | (refine wpQuiet_step (fun K hK => ?_); go_simp; split <;> (refine hK _ ?_; clear hK K))))); (all_goals (refine wpQuiet_nil (fun nq => ?_)))))
                    obtain ⟨wp, hwp⟩ : ∃ wp, wp = wr.drewN nq := ⟨_, rfl⟩
                    rw [← hwp]
                    have D5 : Below wr.heap.size wr wp := by rw [hwp]; (repeat' (first | (with_reducible exact Below.refl _ _) | (with_reducible assumption) | (with_reducible refine Below.drew ?_) | (with_reducible refine below_drewN ?_ _) | (with_reducible refine Below.alloc ?_ ?_ _) | (with_reducible refine Below.setCell ?_ ?_ _) | go_size))
                    have V0 := cell_kept D5 v0
                    have V3 := cell_kept D5 v3
                    have D1 := cell_kept D5 d1
                    have K1 := cell_kept D5 k1
                    have Z0 := cell_kept D5 z0
                    have Z1 := cell_kept D5 z1
                    have Y2 := cell_kept D5 y2
                    have Y3 := cell_kept D5 y3
                    try dsimp only at V0 V3 D1 K1 Z0 Z1 Y2 Y3
                    have zv' := szs (cell_lt V0)
                    have zd' := szs (cell_lt D1)
                    have zk' := szs (cell_lt K1)
                    have zz' := szs (cell_lt Z0)
                    have zy' := szs (cell_lt Y2)
                    dsimp only at zv' zd' zk' zz' zy'
                    have BP := Lib.hid (BJ.out.trans (D5.mono BJ.out.size))
                    clear hwp D5 v0 v3 d1 k1 z0 z1 y2 y3 e0 zv za zd zk zz zy X7j BR
                    go_wp2_with fail
                    (focus (refine region_all (fun i : Nat => World.drewN _ i) mixed (by kernel_rfl) ⟨1, rfl⟩ ?_; (repeat (any_goals (first | go_big_quiet_step (fail) | quiet_step (fail) | (refine wpQuiet_step (fun K hK => ?_); go_simp; split <;> (refine hK _ ?_; clear hK K))))); (all_goals (refine wpQuiet_nil (fun nq => ?_)))))
                    obtain ⟨wq, hwq⟩ : ∃ wq, wq = wp.drewN nq := ⟨_, rfl⟩
                    rw [← hwq]
                    have D5 : Below wp.heap.size wp wq := by rw [hwq]; (repeat' (first | (with_reducible exact Below.refl _ _) | (with_reducible assumption) | (with_reducible refine Below.drew ?_) | (with_reducible refine below_drewN ?_ _) | (with_reducible refine Below.alloc ?_ ?_ _) | (with_reducible refine Below.setCell ?_ ?_ _) | go_size))
                    have v0 := cell_kept D5 V0
                    have v3 := cell_kept D5 V3
                    have d1 := cell_kept D5 D1
                    have k1 := cell_kept D5 K1
                    have z0 := cell_kept D5 Z0
                    have z1 := cell_kept D5 Z1
                    have y2 := cell_kept D5 Y2
                    have y3 := cell_kept D5 Y3
                    try dsimp only at v0 v3 d1 k1 z0 z1 y2 y3
                    have zv := szs (cell_lt v0)
                    have zd := szs (cell_lt d1)
                    have zk := szs (cell_lt k1)
                    have zz := szs (cell_lt z0)
                    have zy := szs (cell_lt y2)
                    dsimp only at zv zd zk zz zy
                    have BQ := Lib.hid (BP.out.trans (D5.mono BP.out.size))
                    clear hwq D5 V0 V3 D1 K1 Z0 Z1 Y2 Y3 zv' zd' zk' zz' zy' BP
                    go_wp2_with fail
                    go_roundw
                    case rel => exact ⟨j + 1, by go_num, by omega, by rw [← hls.out], BQ⟩
                    case measure => simp [intOf]; omega
                  · obtain rfl : j = n' := by omega
                    have tjj : decide ((j : Int) < (j : Int)) = false := decide_eq_false (by omega)
                    have BIJ := Lib.hid (BI7.out.trans (BJ.out.mono BI7.out.size))
                    go_wp2_with fail
                    exact ⟨⟨i + 1, by go_num, by omega, BIJ⟩, by simp [intOf]; omega⟩
              · obtain rfl : i = q := by omega
                have tii : decide ((i : Int) < (i : Int)) = false := decide_eq_false (by omega)
                go_wp2_with fail
                refine (loadAwake12 _).mono ?_
                rintro e wz ⟨rfl, bz⟩
                have BZ := Lib.hid ((B0.out.trans (BR.out.mono B0.out.size)).trans (bz.mono (B0.out.trans (BR.out.mono B0.out.size)).size))
                clear bz
                go_wp2_with fail
                go_returns
                exact ⟨rfl, BZ.out⟩
end Go.Proofs.YtlnfhlmgnppcbaaGreat
