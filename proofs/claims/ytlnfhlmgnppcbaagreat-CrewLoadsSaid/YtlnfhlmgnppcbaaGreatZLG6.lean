/- The law CrewLoads. -/
import Derived.Test.YtlnfhlmgnppcbaaGreatZRG9
import Derived.Test.YtlnfhlmgnppcbaaGreatZOPL
import Derived.Test.YtlnfhlmgnppcbaaGreatZFEW
import Derived.Test.YtlnfhlmgnppcbaaGreatZCSA
import Derived.BigQuiet
namespace Go.Proofs.YtlnfhlmgnppcbaaGreat
open Go.RowKit Go.ChangeShapes Go.WideShapes Go.Deep
set_option linter.unusedVariables false
set_option linter.unusedSimpArgs false
theorem loads_case (f : Fl) (l : List Ev) (truck t : Int) :
    ((loadsE f truck ≠ 0 ∨ t < 0 ∨ 4294943999 < t) ∧ (movedV f l truck t).1 = 0 ∧ (movedV f l truck t).2.1 = 0 ∧ (movedV f l truck t).2.2 ≠ 0) ∨
    (loadsE f truck = 0 ∧ (0 ≤ t ∧ t ≤ 4294943999) ∧ (0 ≤ truck ∧ truck < f.nt) ∧ (movedV f l truck t).2.2 = 0 ∧ 0 ≤ (movedV f l truck t).2.1 ∧ (movedV f l truck t).1 - (movedV f l truck t).2.1 = countT t (loadsL f l truck) ∧ (movedV f l truck t).2.1 ≤ (movedV f l truck t).1 ∧ (movedV f l truck t).1 ≤ l.length ∧
      ∃ c1 r1, loadsL f l truck = (0, c1) :: r1 ∧ 0 ≤ c1 ∧ (c1 = 0 → carB (f.T truck.toNat) (loadsL f l truck).length (fun i => (loadsL f l truck).getD i (0, 0)) = true)) := by
  unfold loadsE movedV
  by_cases h1 : fleetE f ≠ 0
  · rw [if_pos h1, if_pos h1]; exact .inl ⟨.inl h1, rfl, rfl, h1⟩
  rw [if_neg h1, if_neg h1]
  by_cases h2 : truck < 0 ∨ (f.nt : Int) ≤ truck
  · rw [if_pos h2, if_pos h2]; exact .inl ⟨.inl (by decide), rfl, rfl, by decide⟩
  rw [if_neg h2, if_neg h2]
  by_cases h3 : t < 0 ∨ 4294943999 < t
  · rw [if_pos h3]; exact .inl ⟨.inr h3, rfl, rfl, by decide⟩
  rw [if_neg h3]
  obtain ⟨g1, g2, g3, c1, r1, g4, g5, g6⟩ := loads_law (f := f) (l := l) (truck := truck) (t := t) (Decidable.not_not.1 h1) (by omega) (by omega) (by omega)
  have g7 := mvP_most truck t (runE f l).2 (fun _ => false) 0 0
  have g8 := acc_len f l
  refine .inr ⟨rfl, ⟨by omega, by omega⟩, ⟨by omega, by omega⟩, rfl, g2, g1.symm, by dsimp only; omega, by dsimp only; omega, c1, r1, g4, g5, fun hz => carB_yes ?_⟩
  obtain ⟨k1, k2, k3⟩ := g6 hz
  exact ⟨k1, k2, fun i hi => k3 i hi⟩
theorem countT_take (t : Int) (L : List (Int × Int)) {j : Nat} (hj : j < L.length) : countT t (L.take (j + 1)) = if (L.getD j (0, 0)).1 ≤ t then (L.getD j (0, 0)).2 else countT t (L.take j) := by
  rw [List.take_add_one, List.getElem?_eq_getElem hj]
  show countT t (L.take j ++ [L[j]]) = _
  rw [countT_snoc]
  have e : L.getD j (0, 0) = L[j] := by rw [List.getD, List.getElem?_eq_getElem hj]; rfl
  rw [e]
set_option maxRecDepth 8000 in
set_option maxHeartbeats 8000000 in
theorem run_crewLoads {H : Type} {enc : TypeId × Value → H} (W : World) (base : Nat) (v0 : Value) (d0 : DataW H) (p0 : List MemPlace) (hv0 : Value.okWide Tryz.prog W .any base 24 v0) (h0 : DataW.Trod enc Tryz.prog W 0 (fun _ => true) true 24 v0 d0 p0)
    (v1 : Value) (d1 : DataW H) (p1 : List MemPlace) (hv1 : Value.okWide Tryz.prog W .any base 25 v1) (h1 : DataW.Trod enc Tryz.prog W 0 (fun _ => true) true 25 v1 d1 p1)
    (v2 : Value) (d2 : DataW H) (p2 : List MemPlace) (hv2 : Value.okWide Tryz.prog W .any base 3 v2) (h2 : DataW.Trod enc Tryz.prog W 0 (fun _ => true) true 3 v2 d2 p2)
    (v3 : Value) (d3 : DataW H) (p3 : List MemPlace) (hv3 : Value.okWide Tryz.prog W .any base 3 v3) (h3 : DataW.Trod enc Tryz.prog W 0 (fun _ => true) true 3 v3 d3 p3) :
    Calls Tryz.prog 9 #[v0, v1, v2, v3] W fun e w' => e = .returned (.bool true) ∧ Below W.heap.size W w' := by
  obtain ⟨f, rfl, hf, _⟩ := open_fleet hv0 h0
  obtain ⟨ao, n, c, F, rfl, hs, hF⟩ := open_events hv1 h1
  obtain ⟨num, rfl, rfl, rfl, _⟩ := open_int Tryz.underlying3 hv2 h2
  obtain ⟨tm, rfl, rfl, rfl, _⟩ := open_int Tryz.underlying3 hv3 h3
  clear hv0 h0 hv1 h1 hv2 h2 hv3 h3
  have AW := Lib.hid (fun w' => awakeC19 w')
  have hmc := hs.hm
  have hcc := hs.hc
  have B0 : Hid (Below W.heap.size W (W.alloc (.cells f.cells 24))) := Lib.hid (by (repeat' (first | (with_reducible exact Below.refl _ _) | (with_reducible assumption) | (with_reducible refine Below.drew ?_) | (with_reducible refine below_drewN ?_ _) | (with_reducible refine Below.alloc ?_ ?_ _) | (with_reducible refine Below.setCell ?_ ?_ _) | go_size)))
  have X0 := Lib.hid (al_at W (.cells f.cells 24) rfl)
  obtain ⟨w0, hw0⟩ : ∃ w0, w0 = W.alloc (.cells f.cells 24) := ⟨_, rfl⟩
  rw [← hw0] at B0 X0
  have HW0 := Lib.hid hw0
  have HF0 := Lib.hid (hf.below B0.out)
  have HS := Lib.hid (hs.below B0.out)
  have HFI : Hid (∀ e ∈ ents F n, inN e) := Lib.hid (fun e he => by
    obtain ⟨i, hi, rfl⟩ := mem_ents.1 he
    exact hF i hi)
  have FEW := Lib.hid (few26 f w0 HF0.out)
  obtain ⟨q, hq⟩ : ∃ q, q = (decide (f.nd ≤ 100) && decide (f.nt ≤ 100)) := ⟨_, rfl⟩
  rw [← hq] at FEW
  have HFC : Hid (f.cells = #[.int .i64 f.bikes, .int .i64 f.riders, .int .i64 f.devs, .slice f.ad f.nd f.cd, .slice f.a2 f.nt f.ct]) := Lib.hid rfl
  rw [HFC.out] at X0 HW0 FEW ⊢
  clear hw0 hf hs hF hq
  go_enter Tryz.func9, Tryz.ntmps9
  go_wp2_with fail
  rw [← HW0.out]
  have x0 := cell_kept (Below.refl w0.heap.size w0) (cell_at X0.out 0)
  have x1 := cell_kept (Below.refl w0.heap.size w0) (cell_at X0.out 1)
  have x2 := cell_kept (Below.refl w0.heap.size w0) (cell_at X0.out 2)
  have x3 := cell_kept (Below.refl w0.heap.size w0) (cell_at X0.out 3)
  have x4 := cell_kept (Below.refl w0.heap.size w0) (cell_at X0.out 4)
  try dsimp only at x0 x1 x2 x3 x4
  have zx := szs (cell_lt x0)
  dsimp only at zx
  by_cases hn : 60 < n
  · have tn : decide ((60 : Int) < (n : Int)) = true := decide_eq_true (by omega)
    go_wp2_with fail
    refine FEW.out.mono ?_
    rintro e wf ⟨rfl, bf⟩
    have BF := Lib.hid (B0.out.trans (bf.mono B0.out.size))
    clear FEW bf
    clear x0 x1 x2 x3 x4 zx
    cases q with
    | false =>
      go_wp2_with fail
      refine (AW.out _).mono ?_
      rintro e wz ⟨rfl, bz⟩
      have BZ := Lib.hid (BF.out.trans (bz.mono BF.out.size))
      clear bz
      go_wp2_with fail
      go_returns
      exact ⟨rfl, BZ.out⟩
    | true =>
      go_wp2_with fail
      refine (AW.out _).mono ?_
      rintro e wz ⟨rfl, bz⟩
      have BZ := Lib.hid (BF.out.trans (bz.mono BF.out.size))
      clear bz
      go_wp2_with fail
      go_returns
      exact ⟨rfl, BZ.out⟩
  have tn : decide ((60 : Int) < (n : Int)) = false := decide_eq_false (by omega)
  have hnl : (n : Int) ≤ 60 := by omega
  go_wp2_with fail
  refine FEW.out.mono ?_
  rintro e wf ⟨rfl, bf⟩
  have BF := Lib.hid (B0.out.trans (bf.mono B0.out.size))
  cases q with
  | false =>
    clear FEW bf
    clear x0 x1 x2 x3 x4 zx
    go_wp2_with fail
    refine (AW.out _).mono ?_
    rintro e wz ⟨rfl, bz⟩
    have BZ := Lib.hid (BF.out.trans (bz.mono BF.out.size))
    clear bz
    go_wp2_with fail
    go_returns
    exact ⟨rfl, BZ.out⟩
  | true =>
    clear x0 x1 x2 x3 x4 zx
    have x0 := cell_kept bf (cell_at X0.out 0)
    have x1 := cell_kept bf (cell_at X0.out 1)
    have x2 := cell_kept bf (cell_at X0.out 2)
    have x3 := cell_kept bf (cell_at X0.out 3)
    have x4 := cell_kept bf (cell_at X0.out 4)
    try dsimp only at x0 x1 x2 x3 x4
    have zx := szs (cell_lt x0)
    dsimp only at zx
    have bF := Lib.hid bf
    have M1 := Lib.hid (loadsR32 f ao n c F num wf (HF0.out.below bf) (HS.out.below bf) (by omega) HFI.out)
    have M2 := Lib.hid (fun w' (hb : Below wf.heap.size wf w') => moved13 f ao n c F num tm w' ((HF0.out.below bf).below hb) ((HS.out.below bf).below hb) (by omega) HFI.out)
    have LC := loads_case f (ents F n) num tm
    rw [ents_len] at LC
    rw [HFC.out] at M1 M2
    have HFT := Lib.hid (HF0.out.below bf)
    generalize movedV f (ents F n) num tm = X at *
    obtain ⟨a1, a2, a3⟩ := X
    generalize loadsL f (ents F n) num = L at *
    generalize loadsE f num = E at *
    dsimp only at M1 M2 LC
    have LCH := Lib.hid LC
    clear FEW bf LC
    go_wp2_with fail
    refine M1.out.mono ?_
    rintro e w4 ⟨b4, h4⟩
    have BF4 := Lib.hid (BF.out.trans (b4.mono BF.out.size))
    have B34 := Lib.hid b4
    clear x0 x1 x2 x3 x4 zx
    have b04 := bF.out.trans (b4.mono bF.out.size)
    have x0 := cell_kept b04 (cell_at X0.out 0)
    have x1 := cell_kept b04 (cell_at X0.out 1)
    have x2 := cell_kept b04 (cell_at X0.out 2)
    have x3 := cell_kept b04 (cell_at X0.out 3)
    have x4 := cell_kept b04 (cell_at X0.out 4)
    try dsimp only at x0 x1 x2 x3 x4
    have zx := szs (cell_lt x0)
    dsimp only at zx
    clear M1 b4
    rcases h4 with ⟨hne, rfl⟩ | ⟨hz, v, rfl, hrow⟩
    · have te : (E != 0) = true := by simpa using hne
      rcases LCH.out with ⟨_, e1, e2, e3⟩ | ⟨e1, _⟩
      rotate_left 1
      · exact absurd e1 hne
      try dsimp only at e1 e2 e3
      subst e1 e2
      have t3 : (a3 != 0) = true := by simpa using e3
      clear hne e3 LCH b04
      go_wp2_with fail
      refine (M2.out w4 B34.out).mono ?_
      rintro e w5 ⟨rfl, b5⟩
      have BF5 := Lib.hid (BF4.out.trans (b5.mono BF4.out.size))
      clear x0 x1 x2 x3 x4 zx
      clear M2 b5 B34
      go_wp2_with fail
      refine (AW.out _).mono ?_
      rintro e wz ⟨rfl, bz⟩
      have BZ := Lib.hid (BF5.out.trans (bz.mono BF5.out.size))
      clear bz
      go_wp2_with fail
      go_returns
      exact ⟨rfl, BZ.out⟩
    · subst hz
      obtain ⟨al, cl, rfl, sl⟩ := Row.toSl hrow (lvf_len _)
      have SL := Lib.hid sl
      have hlm := sl.hm
      have hlc := sl.hc
      clear hrow sl b04
      go_wp2_with fail
      refine (M2.out w4 B34.out).mono ?_
      rintro e w5 ⟨rfl, b5⟩
      have BF5 := Lib.hid (BF4.out.trans (b5.mono BF4.out.size))
      have B05 := Lib.hid (bF.out.trans (B34.out.mono bF.out.size) |>.trans (b5.mono (bF.out.trans (B34.out.mono bF.out.size)).size))
      replace SL := Lib.hid (SL.out.below b5)
      have HFT5 := Lib.hid ((HFT.out.below B34.out).below b5)
      clear x0 x1 x2 x3 x4 zx
      clear M2 b5 B34 HFT
      rcases LCH.out with ⟨e0, e1, e2, e3⟩ | ⟨_, ⟨e1, e2⟩, ⟨e3, e4⟩, e5, e6, e7, e8, e9, c1, r1, e10, e11, e12⟩
      · try dsimp only at e1 e2 e3
        subst e1 e2
        have t3 : (a3 != 0) = true := by simpa using e3
        rcases e0 with h | h | h
        · exact absurd rfl h
        · have t0 : decide (tm < 0) = true := decide_eq_true h
          clear e3 LCH
          go_wp2_with fail
          refine (AW.out _).mono ?_
          rintro e wz ⟨rfl, bz⟩
          have BZ := Lib.hid (BF5.out.trans (bz.mono BF5.out.size))
          clear bz
          go_wp2_with fail
          go_returns
          exact ⟨rfl, BZ.out⟩
        · have t0 : decide (tm < 0) = false := decide_eq_false (by omega)
          have t1 : decide (4294943999 < tm) = true := decide_eq_true h
          clear e3 LCH
          go_wp2_with fail
          refine (AW.out _).mono ?_
          rintro e wz ⟨rfl, bz⟩
          have BZ := Lib.hid (BF5.out.trans (bz.mono BF5.out.size))
          clear bz
          go_wp2_with fail
          go_returns
          exact ⟨rfl, BZ.out⟩
      · try dsimp only at e5 e6 e7 e8 e9
        subst e5
        have t0 : decide (tm < 0) = false := decide_eq_false (by omega)
        have t1 : decide (4294943999 < tm) = false := decide_eq_false (by omega)
        have hlen : 1 ≤ L.length := by rw [e10]; simp
        have hc1 : (L.getD 0 (0, 0)).2 = c1 := by rw [e10]; rfl
        obtain ⟨C, hC⟩ : ∃ C : Nat → Int, C = fun j => countT tm (L.take j) := ⟨_, rfl⟩
        have HC0 : Hid (C 0 = 0) := Lib.hid (by rw [hC]; rfl)
        have HCS : Hid (∀ j, j < L.length → C (j + 1) = if (L.getD j (0, 0)).1 ≤ tm then (L.getD j (0, 0)).2 else C j) := Lib.hid (fun j hj => by rw [hC]; exact countT_take tm L hj)
        have HCE : Hid (C L.length = a1 - a2) := Lib.hid (by rw [hC, e7]; dsimp only; rw [List.take_length])
        obtain ⟨q, rfl⟩ := Int.eq_ofNat_of_zero_le e3
        have hq : q < f.nt := by omega
        have tq : (q : Int) < (f.nt : Int) := by omega
        have HC1 := Lib.hid hc1
        have HE12 := Lib.hid e12
        rw [Int.toNat_natCast] at HE12
        clear hC e10 e12 e7 LCH hc1 e3
        go_wp2_with fail
        go_loopw [14, 15, 16] (fun s14 s15 s16 wr => ∃ j : Nat, s16 = .int .i64 j ∧ j ≤ L.length ∧ s14 = .int .i64 (C j) ∧ s15 = .int .i64 (if j = 0 then 0 else c1) ∧ wr = w5) (fun _ _ s16 _ => L.length - (intOf s16).toNat)
        case atStart => exact ⟨0, rfl, by omega, by rw [HC0.out], rfl, rfl⟩
        case round =>
          obtain ⟨j, rfl, hj, rfl, rfl, rfl⟩ := hrel
          by_cases hlt : j < L.length
          · have tj : (j : Int) < (L.length : Int) := by omega
            obtain ⟨g, o, rfl, hg, l0, l1⟩ := SL.out.lv hlt
            have zg := szs hg
            have HS1 := Lib.hid (HCS.out j hlt)
            have HJ0 : Hid (j = 0 → (L.getD j (0, 0)).2 = c1) := Lib.hid (fun h => by rw [h]; exact HC1.out)
            generalize L.getD j (0, 0) = y at *
            obtain ⟨y1, y2⟩ := y
            dsimp only at l0 l1 HS1 HJ0
            by_cases ha : y1 ≤ tm
            · have ta : decide (y1 ≤ tm) = true := decide_eq_true ha
              rw [if_pos ha] at HS1
              by_cases hj0 : j = 0
              · subst hj0
                have := HJ0.out rfl
                subst this
                simp only [Nat.zero_mul, Nat.add_zero, Nat.zero_add] at l0 l1
                go_wp2_with fail
                go_roundw
                case rel => exact ⟨1, by go_num, by omega, by rw [HS1.out], rfl, (by first | rfl | trivial)⟩
                case measure => simp [intOf]; omega
              · have tj0 : ((j : Int) == 0) = false := by simpa using hj0
                rw [if_neg hj0]
                go_wp2_with fail
                go_roundw
                case rel => exact ⟨j + 1, by go_num, by omega, by rw [HS1.out], by rw [if_neg (by omega)], (by first | rfl | trivial)⟩
                case measure => simp [intOf]; omega
            · have ta : decide (y1 ≤ tm) = false := decide_eq_false ha
              rw [if_neg ha] at HS1
              by_cases hj0 : j = 0
              · subst hj0
                have := HJ0.out rfl
                subst this
                simp only [Nat.zero_mul, Nat.add_zero, Nat.zero_add] at l0 l1
                go_wp2_with fail
                go_roundw
                case rel => exact ⟨1, by go_num, by omega, by rw [HS1.out], rfl, (by first | rfl | trivial)⟩
                case measure => simp [intOf]; omega
              · have tj0 : ((j : Int) == 0) = false := by simpa using hj0
                rw [if_neg hj0]
                go_wp2_with fail
                go_roundw
                case rel => exact ⟨j + 1, by go_num, by omega, by rw [HS1.out], by rw [if_neg (by omega)], (by first | rfl | trivial)⟩
                case measure => simp [intOf]; omega
          · obtain rfl : j = L.length := by omega
            rw [if_neg (by omega), HCE.out]
            obtain ⟨gt, ot, hta, hgt, l0⟩ := HFT5.out.trucks.num hq
            rw [hta] at X0
            have CR := Lib.hid (carried15 al L.length cl (fun i => L.getD i (0, 0)) (f.T q) wr SL.out)
            generalize f.T q = cap at *
            obtain ⟨r, hr⟩ : ∃ r, r = carB cap L.length (fun i => L.getD i (0, 0)) := ⟨_, rfl⟩
            rw [← hr] at CR HE12
            clear hr HCS HC0 HCE HC1 hlt hj
            have x0 := cell_kept B05.out (cell_at X0.out 0)
            have x1 := cell_kept B05.out (cell_at X0.out 1)
            have x2 := cell_kept B05.out (cell_at X0.out 2)
            have x3 := cell_kept B05.out (cell_at X0.out 3)
            have x4 := cell_kept B05.out (cell_at X0.out 4)
            try dsimp only at x0 x1 x2 x3 x4
            have zx := szs (cell_lt x0)
            dsimp only at zx
            have zl := szs hgt
            go_wp2_with fail
            refine CR.out.mono ?_
            rintro e w6 ⟨rfl, b6⟩
            have BF6 := Lib.hid (BF5.out.trans (b6.mono BF5.out.size))
            clear x0 x1 x2 x3 x4 zx
            clear b6 CR l0 zl
            cases r with
            | true =>
              go_wp2_with fail
              refine (AW.out _).mono ?_
              rintro e wz ⟨rfl, bz⟩
              have BZ := Lib.hid (BF6.out.trans (bz.mono BF6.out.size))
              clear bz
              go_wp2_with fail
              go_returns
              exact ⟨rfl, BZ.out⟩
            | false =>
              have tc : decide (0 < c1) = true := decide_eq_true (by
                by_cases hz : c1 = 0
                · exact absurd (HE12.out hz) (by simp)
                · omega)
              go_wp2_with fail
              refine (AW.out _).mono ?_
              rintro e wz ⟨rfl, bz⟩
              have BZ := Lib.hid (BF6.out.trans (bz.mono BF6.out.size))
              clear bz
              go_wp2_with fail
              go_returns
              exact ⟨rfl, BZ.out⟩
end Go.Proofs.YtlnfhlmgnppcbaaGreat
