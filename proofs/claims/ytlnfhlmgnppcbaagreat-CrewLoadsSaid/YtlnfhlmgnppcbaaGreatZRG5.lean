/- The reference's custody: the first error of an event. -/
import Derived.Test.YtlnfhlmgnppcbaaGreatZRG3
import Derived.Test.YtlnfhlmgnppcbaaGreatZCMA
import Derived.BigQuiet
import Derived.BigRegion
namespace Go.Proofs.YtlnfhlmgnppcbaaGreat
open Go.RowKit Go.ChangeShapes Go.WideShapes Go.Deep
set_option linter.unusedVariables false
set_option linter.unusedSimpArgs false
set_option maxRecDepth 8000
set_option maxHeartbeats 16000000 in
theorem faultR96 (f : Fl) {s : CSt} {sa ta : Option Addr} {sc tc : Nat} {w : World} (hf : f.In w) (h : RIn w f.bikes.toNat s sa sc ta tc) (hI : Inv f.bikes.toNat s) (e : Ev) (hin : inN e) :
    Calls Tryz.prog 96 #[.agg f.cells, .agg #[.slice sa f.bikes.toNat sc, .slice ta s.k tc], .agg (eC e)] w fun e' w' => e' = .returned (.int .i64 (faultE f s e)) ∧ Below w.heap.size w w' := by
  have hplace : e.place ≤ 9223372036854775807 := (hin _ (by simp [nums])).2
  have BB : Hid (Below w.heap.size w (((w.alloc (.cells f.cells 24)).alloc (.cells #[.slice sa f.bikes.toNat sc, .slice ta s.k tc] 122)).alloc (.cells (eC e) 81))) := Lib.hid (by (repeat' (first | (with_reducible exact Below.refl _ _) | (with_reducible assumption) | (with_reducible refine Below.drew ?_) | (with_reducible refine below_drewN ?_ _) | (with_reducible refine Below.alloc ?_ ?_ _) | (with_reducible refine Below.setCell ?_ ?_ _) | go_size)))
  have X3 := Lib.hid (al_keep (al_keep (al_at w (.cells f.cells 24) rfl) (.cells #[.slice sa f.bikes.toNat sc, .slice ta s.k tc] 122)) (.cells (eC e) 81))
  have X4 := Lib.hid (al_keep (al_at (w.alloc (.cells f.cells 24)) (.cells #[.slice sa f.bikes.toNat sc, .slice ta s.k tc] 122) (k := w.heap.size + 1) (by simp)) (.cells (eC e) 81))
  have X5 := Lib.hid (al_at ((w.alloc (.cells f.cells 24)).alloc (.cells #[.slice sa f.bikes.toNat sc, .slice ta s.k tc] 122)) (.cells (eC e) 81) (k := w.heap.size + 1 + 1) (by simp))
  obtain ⟨w1, hw1⟩ : ∃ w1, w1 = ((w.alloc (.cells f.cells 24)).alloc (.cells #[.slice sa f.bikes.toNat sc, .slice ta s.k tc] 122)).alloc (.cells (eC e) 81) := ⟨_, rfl⟩
  rw [← hw1] at BB X3 X4 X5
  have HW1 := Lib.hid hw1
  have HF1 := Lib.hid (hf.below BB.out)
  have HIN := Lib.hid (h.below BB.out)
  have CK := Lib.hid (check124 f e w1 HF1.out hplace)
  have FN := Lib.hid (fun w' (hb : Below w1.heap.size w1 w') id => findR90 (HIN.out.below hb) id)
  have RD := Lib.hid (fun w' (hb : Below w1.heap.size w1 w') x => ridesR127 (HIN.out.below hb) x)
  have OC := Lib.hid (fun w' (hb : Below w1.heap.size w1 w') x => occR126 (HIN.out.below hb) x)
  have CA := Lib.hid (fun w' (hb : Below w1.heap.size w1 w') x => carriedR58 (HIN.out.below hb) x)
  have HI := Lib.hid hI
  have PK := Lib.hid (fun x w' => parkedR125 x w')
  obtain ⟨r, hr⟩ : ∃ r, r = faultE f s e := ⟨_, rfl⟩
  rw [← hr]
  have HR := Lib.hid hr
  unfold faultE at HR
  obtain ⟨ce, hce⟩ : ∃ ce, ce = checkE f e := ⟨_, rfl⟩
  rw [← hce] at CK HR
  have HCE := Lib.hid hce
  have HFC : Hid (f.cells = #[.int .i64 f.bikes, .int .i64 f.riders, .int .i64 f.devs, .slice f.ad f.nd f.cd, .slice f.a2 f.nt f.ct]) := Lib.hid rfl
  have htm := hf.trucks.hm
  have htc := hf.trucks.hc
  have hsm := h.sp.hm
  have hsc := h.sp.hc
  have hkm := h.tr.hm
  have hkc := h.tr.hc
  rw [HFC.out] at X3 HW1 CK ⊢
  clear hw1 hf h hI hr hce
  obtain ⟨v1, v2, v3, v4, v5, v6, v7, v8, v9⟩ := e
  unfold eC at *
  dsimp only at *
  obtain ⟨n, hn⟩ : ∃ n, n = f.bikes.toNat := ⟨_, rfl⟩
  have HN := Lib.hid hn
  simp only [← hn] at X4 HW1 FN RD OC CA HIN hsm hsc ⊢
  replace FN := Lib.hid FN.out
  rw [← hn] at HI
  clear hn
  go_enter Tryz.func96, Tryz.ntmps96
  go_wp2_with fail
  rw [← HW1.out]
  refine CK.out.mono ?_
  rintro e w2 ⟨rfl, b2⟩
  have B2 := Lib.hid b2
  clear CK b2
  by_cases hce : ce = 0
  · subst hce
    rw [if_neg (by simp)] at HR
    have hfl := (fleetE_zero (check_fleet HCE.out.symm)).1
    have hbi := bike_in HCE.out.symm
    dsimp only at hbi
    obtain ⟨b, rfl⟩ := Int.eq_ofNat_of_zero_le hbi.1
    have hb : b < n := by have := HN.out; omega
    have tb : (b : Int) < (n : Int) := by omega
    have s0 := cell_kept B2.out (cell_at X4.out 0)
    have s1 := cell_kept B2.out (cell_at X4.out 1)
    have e4 := cell_kept B2.out (cell_at X5.out 4)
    have e5 := cell_kept B2.out (cell_at X5.out 5)
    have e6 := cell_kept B2.out (cell_at X5.out 6)
    have e7 := cell_kept B2.out (cell_at X5.out 7)
    have e8 := cell_kept B2.out (cell_at X5.out 8)
    try dsimp only at s0 s1 e4 e5 e6 e7 e8
    have zs := szs (cell_lt s0)
    have ze := szs (cell_lt e5)
    dsimp only at zs ze
    by_cases h10 : v5 = 10
    · subst h10
      rw [if_pos rfl] at HR
      obtain rfl : r = 0 := by first | exact HR.out | (rw [HR.out]; rfl)
      clear HR
      go_wp2_with fail
      go_returns
      exact ⟨rfl, BB.out.trans (B2.out.mono BB.out.size)⟩
    · rw [if_neg h10] at HR
      obtain ⟨g9, o9, rfl, hh9, a0, a1, a2, a3⟩ := (HIN.out.below B2.out).sp.spot hb
      have za := szs hh9
      have PK1 := Lib.hid (PK.out (s.F b))
      obtain ⟨x, hx⟩ : ∃ x, x = s.F b := ⟨_, rfl⟩
      have HX := Lib.hid hx
      rw [← hx] at a0 a1 a2 a3 PK1
      clear hx PK hbi hfl
      obtain ⟨x1, x2, x3, x4⟩ := x
      dsimp only at a0 a1 a2 a3 PK1
      have PK := PK1
      clear PK1
      have b3 : Below w2.heap.size w2 (w2.alloc (.cells #[.int .i64 x1, .int .i64 x2, .int .i64 x3, .bool x4] 147)) := by (repeat' (first | (with_reducible exact Below.refl _ _) | (with_reducible assumption) | (with_reducible refine Below.drew ?_) | (with_reducible refine below_drewN ?_ _) | (with_reducible refine Below.alloc ?_ ?_ _) | (with_reducible refine Below.setCell ?_ ?_ _) | go_size))
      have X8 := Lib.hid (al_at w2 (.cells #[.int .i64 x1, .int .i64 x2, .int .i64 x3, .bool x4] 147) rfl)
      obtain ⟨w3, hw3⟩ : ∃ w3, w3 = w2.alloc (.cells #[.int .i64 x1, .int .i64 x2, .int .i64 x3, .bool x4] 147) := ⟨_, rfl⟩
      have HW3 := Lib.hid hw3
      rw [← hw3] at X8 b3
      have B3 := Lib.hid (B2.out.trans (b3.mono B2.out.size))
      clear b3 hw3
      by_cases k1 : v5 = 1
      · subst k1
        have HRK : Hid (r = if parkB ⟨x1, x2, x3, x4⟩ = true then 23 else if decide (0 < cntN s.F 1 v7 n) = true then 22 else 0) := Lib.hid (by
          rw [HR.out]; unfold faultK; rw [if_pos rfl]; dsimp only; rw [Int.toNat_natCast, ← HX.out, ← HN.out]; simp only [decide_eq_true_eq])
        replace HR := HRK
        clear HRK HX
        generalize parkB ⟨x1, x2, x3, x4⟩ = pb at PK HR
        go_wp2_with fail
        rw [← HW3.out]
        clear s0 s1 e4 e5 e6 e7 e8 zs ze
        clear a0 a1 a2 a3 za HW3
        refine (PK.out _).mono ?_
        rintro e w4 ⟨rfl, b4⟩
        have B4 := Lib.hid (B3.out.trans (b4.mono B3.out.size))
        replace X8 := Lib.hid ((b4.block _ (block_lt X8.out)).trans X8.out)
        clear b4 B3 PK
        cases pb with
        | true => 
          rw [if_pos rfl] at HR
          obtain rfl : r = 23 := by first | exact HR.out | (rw [HR.out]; rfl)
          clear HR
          go_wp2_with fail
          go_returns
          exact ⟨rfl, BB.out.trans (B4.out.mono BB.out.size)⟩
        | false =>
          rw [if_neg (by simp)] at HR
          have s0 := cell_kept B4.out (cell_at X4.out 0)
          have s1 := cell_kept B4.out (cell_at X4.out 1)
          have e4 := cell_kept B4.out (cell_at X5.out 4)
          have e5 := cell_kept B4.out (cell_at X5.out 5)
          have e6 := cell_kept B4.out (cell_at X5.out 6)
          have e7 := cell_kept B4.out (cell_at X5.out 7)
          have e8 := cell_kept B4.out (cell_at X5.out 8)
          try dsimp only at s0 s1 e4 e5 e6 e7 e8
          have zs := szs (cell_lt s0)
          have ze := szs (cell_lt e5)
          dsimp only at zs ze
          have OC1 := Lib.hid (OC.out w4 B4.out v7)
          generalize decide (0 < cntN s.F 1 v7 n) = oc at OC1 HR
          go_wp2_with fail
          refine OC1.out.mono ?_
          rintro e w5 ⟨rfl, b5⟩
          have B5 := Lib.hid (B4.out.trans (b5.mono B4.out.size))
          clear s0 s1 e4 e5 e6 e7 e8 zs ze
          clear b5 OC1 B4
          cases oc with
          | true =>
            rw [if_pos rfl] at HR
            obtain rfl : r = 22 := by first | exact HR.out | (rw [HR.out]; rfl)
            clear HR
            go_wp2_with fail
            go_returns
            exact ⟨rfl, BB.out.trans (B5.out.mono BB.out.size)⟩
          | false =>
            rw [if_neg (by simp)] at HR
            obtain rfl : r = 0 := by first | exact HR.out | (rw [HR.out]; rfl)
            clear HR
            go_wp2_with fail
            go_returns
            exact ⟨rfl, BB.out.trans (B5.out.mono BB.out.size)⟩
      by_cases k2 : v5 = 2
      · subst k2
        have HRK : Hid (r = if parkB ⟨x1, x2, x3, x4⟩ = true then 23 else 0) := Lib.hid (by
          rw [HR.out]; unfold faultK; rw [if_neg (by simp), if_pos rfl]; dsimp only; rw [Int.toNat_natCast, ← HX.out])
        replace HR := HRK
        clear HRK HX
        generalize parkB ⟨x1, x2, x3, x4⟩ = pb at PK HR
        go_wp2_with fail
        rw [← HW3.out]
        clear s0 s1 e4 e5 e6 e7 e8 zs ze
        clear a0 a1 a2 a3 za HW3
        refine (PK.out _).mono ?_
        rintro e w4 ⟨rfl, b4⟩
        have B4 := Lib.hid (B3.out.trans (b4.mono B3.out.size))
        replace X8 := Lib.hid ((b4.block _ (block_lt X8.out)).trans X8.out)
        clear b4 B3 PK
        cases pb with
        | true => 
          rw [if_pos rfl] at HR
          obtain rfl : r = 23 := by first | exact HR.out | (rw [HR.out]; rfl)
          clear HR
          go_wp2_with fail
          go_returns
          exact ⟨rfl, BB.out.trans (B4.out.mono BB.out.size)⟩
        | false =>
          rw [if_neg (by simp)] at HR
          obtain rfl : r = 0 := by first | exact HR.out | (rw [HR.out]; rfl)
          clear HR
          go_wp2_with fail
          go_returns
          exact ⟨rfl, BB.out.trans (B4.out.mono BB.out.size)⟩
      by_cases k3 : v5 = 3
      · subst k3
        have HRK : Hid (r = if parkB ⟨x1, x2, x3, x4⟩ = false then 23 else if 0 ≤ findI s.G v9 s.k then 6 else if ridesB s.G v8 s.k = true then 22 else 0) := Lib.hid (by
          rw [HR.out]; unfold faultK; rw [if_neg (by simp), if_neg (by simp), if_pos rfl]; dsimp only; rw [Int.toNat_natCast, ← HX.out])
        replace HR := HRK
        clear HRK HX
        generalize parkB ⟨x1, x2, x3, x4⟩ = pb at PK HR
        go_wp2_with fail
        rw [← HW3.out]
        clear s0 s1 e4 e5 e6 e7 e8 zs ze
        clear a0 a1 a2 a3 za HW3
        refine (PK.out _).mono ?_
        rintro e w4 ⟨rfl, b4⟩
        have B4 := Lib.hid (B3.out.trans (b4.mono B3.out.size))
        replace X8 := Lib.hid ((b4.block _ (block_lt X8.out)).trans X8.out)
        clear b4 B3 PK
        cases pb with
        | false => 
          rw [if_pos rfl] at HR
          obtain rfl : r = 23 := by first | exact HR.out | (rw [HR.out]; rfl)
          clear HR
          go_wp2_with fail
          go_returns
          exact ⟨rfl, BB.out.trans (B4.out.mono BB.out.size)⟩
        | true =>
          rw [if_neg (by simp)] at HR
          have s0 := cell_kept B4.out (cell_at X4.out 0)
          have s1 := cell_kept B4.out (cell_at X4.out 1)
          have e4 := cell_kept B4.out (cell_at X5.out 4)
          have e5 := cell_kept B4.out (cell_at X5.out 5)
          have e6 := cell_kept B4.out (cell_at X5.out 6)
          have e7 := cell_kept B4.out (cell_at X5.out 7)
          have e8 := cell_kept B4.out (cell_at X5.out 8)
          try dsimp only at s0 s1 e4 e5 e6 e7 e8
          have zs := szs (cell_lt s0)
          have ze := szs (cell_lt e5)
          dsimp only at zs ze
          have FN1 := Lib.hid (FN.out w4 B4.out v9)
          generalize findI s.G v9 s.k = fi at FN1 HR
          go_wp2_with fail
          refine FN1.out.mono ?_
          rintro e w5 ⟨rfl, b5⟩
          have B5 := Lib.hid (B4.out.trans (b5.mono B4.out.size))
          clear s0 s1 e4 e5 e6 e7 e8 zs ze
          clear b5 FN1 B4
          by_cases hfi : 0 ≤ fi
          · have tf : decide (0 ≤ fi) = true := decide_eq_true hfi
            rw [if_pos hfi] at HR
            obtain rfl : r = 6 := by first | exact HR.out | (rw [HR.out]; rfl)
            clear HR
            go_wp2_with fail
            go_returns
            exact ⟨rfl, BB.out.trans (B5.out.mono BB.out.size)⟩
          · have tf : decide (0 ≤ fi) = false := decide_eq_false hfi
            rw [if_neg hfi] at HR
            have s0 := cell_kept B5.out (cell_at X4.out 0)
            have s1 := cell_kept B5.out (cell_at X4.out 1)
            have e4 := cell_kept B5.out (cell_at X5.out 4)
            have e5 := cell_kept B5.out (cell_at X5.out 5)
            have e6 := cell_kept B5.out (cell_at X5.out 6)
            have e7 := cell_kept B5.out (cell_at X5.out 7)
            have e8 := cell_kept B5.out (cell_at X5.out 8)
            try dsimp only at s0 s1 e4 e5 e6 e7 e8
            have zs := szs (cell_lt s0)
            have ze := szs (cell_lt e5)
            dsimp only at zs ze
            have RD1 := Lib.hid (RD.out w5 B5.out v8)
            generalize ridesB s.G v8 s.k = oc at RD1 HR
            go_wp2_with fail
            refine RD1.out.mono ?_
            rintro e w6 ⟨rfl, b6⟩
            have B6 := Lib.hid (B5.out.trans (b6.mono B5.out.size))
            clear s0 s1 e4 e5 e6 e7 e8 zs ze
            clear b6 RD1 B5
            cases oc with
            | true =>
              rw [if_pos rfl] at HR
              obtain rfl : r = 22 := by first | exact HR.out | (rw [HR.out]; rfl)
              clear HR
              go_wp2_with fail
              go_returns
              exact ⟨rfl, BB.out.trans (B6.out.mono BB.out.size)⟩
            | false =>
              rw [if_neg (by simp)] at HR
              obtain rfl : r = 0 := by first | exact HR.out | (rw [HR.out]; rfl)
              clear HR
              go_wp2_with fail
              go_returns
              exact ⟨rfl, BB.out.trans (B6.out.mono BB.out.size)⟩
      by_cases k5 : v5 = 5
      · subst k5
        have HRK : Hid (r = if x1 ≠ 3 then 23 else if x4 = true then 12 else 0) := Lib.hid (by
          rw [HR.out]; unfold faultK; rw [if_neg (by simp), if_neg (by simp), if_neg (by simp), if_neg (by simp), if_pos rfl]; dsimp only; rw [Int.toNat_natCast, ← HX.out])
        replace HR := HRK
        clear HRK HX
        by_cases q1 : x1 = 3
        · rw [if_neg (by simpa using q1)] at HR
          have t1 : (x1 != 3) = false := by simpa using q1
          cases x4 with
          | true =>
            rw [if_pos rfl] at HR
            obtain rfl : r = 12 := HR.out
            clear HR
            go_wp2_with fail
            go_returns
            exact ⟨rfl, BB.out.trans ((B2.out.alloc B2.out.size _).mono BB.out.size)⟩
          | false =>
            rw [if_neg (by simp)] at HR
            obtain rfl : r = 0 := HR.out
            clear HR
            go_wp2_with fail
            go_returns
            exact ⟨rfl, BB.out.trans ((B2.out.alloc B2.out.size _).mono BB.out.size)⟩
        · rw [if_pos q1] at HR
          have t1 : (x1 != 3) = true := by simpa using q1
          obtain rfl : r = 23 := HR.out
          clear HR
          go_wp2_with fail
          go_returns
          exact ⟨rfl, BB.out.trans ((B2.out.alloc B2.out.size _).mono BB.out.size)⟩
      by_cases k6 : v5 = 6
      · subst k6
        have HRK : Hid (r = if x1 ≠ 3 then 23 else if x4 = false then 12 else 0) := Lib.hid (by
          rw [HR.out]; unfold faultK; rw [if_neg (by simp), if_neg (by simp), if_neg (by simp), if_neg (by simp), if_neg (by simp), if_pos rfl]; dsimp only; rw [Int.toNat_natCast, ← HX.out])
        replace HR := HRK
        clear HRK HX
        by_cases q1 : x1 = 3
        · rw [if_neg (by simpa using q1)] at HR
          have t1 : (x1 != 3) = false := by simpa using q1
          cases x4 with
          | false =>
            rw [if_pos rfl] at HR
            obtain rfl : r = 12 := HR.out
            clear HR
            go_wp2_with fail
            go_returns
            exact ⟨rfl, BB.out.trans ((B2.out.alloc B2.out.size _).mono BB.out.size)⟩
          | true =>
            rw [if_neg (by simp)] at HR
            obtain rfl : r = 0 := HR.out
            clear HR
            go_wp2_with fail
            go_returns
            exact ⟨rfl, BB.out.trans ((B2.out.alloc B2.out.size _).mono BB.out.size)⟩
        · rw [if_pos q1] at HR
          have t1 : (x1 != 3) = true := by simpa using q1
          obtain rfl : r = 23 := HR.out
          clear HR
          go_wp2_with fail
          go_returns
          exact ⟨rfl, BB.out.trans ((B2.out.alloc B2.out.size _).mono BB.out.size)⟩
      by_cases k8 : v5 = 8
      · subst k8
        have HRK : Hid (r = if x1 = 3 ∨ x1 = 5 then 23 else 0) := Lib.hid (by
          rw [HR.out]; unfold faultK; rw [if_neg (by simp), if_neg (by simp), if_neg (by simp), if_neg (by simp), if_neg (by simp), if_neg (by simp), if_neg (by simp), if_pos rfl]; dsimp only; rw [Int.toNat_natCast, ← HX.out])
        replace HR := HRK
        clear HRK HX
        by_cases q1 : x1 = 3
        · rw [if_pos (.inl q1)] at HR
          have t1 : (x1 == 3) = true := by simpa using q1
          obtain rfl : r = 23 := HR.out
          clear HR
          go_wp2_with fail
          go_returns
          exact ⟨rfl, BB.out.trans ((B2.out.alloc B2.out.size _).mono BB.out.size)⟩
        · have t1 : (x1 == 3) = false := by simpa using q1
          by_cases q2 : x1 = 5
          · rw [if_pos (.inr q2)] at HR
            have t2 : (x1 == 5) = true := by simpa using q2
            obtain rfl : r = 23 := HR.out
            clear HR
            go_wp2_with fail
            go_returns
            exact ⟨rfl, BB.out.trans ((B2.out.alloc B2.out.size _).mono BB.out.size)⟩
          · have t2 : (x1 == 5) = false := by simpa using q2
            rw [if_neg (fun h => h.elim q1 q2)] at HR
            obtain rfl : r = 0 := HR.out
            clear HR
            go_wp2_with fail
            go_returns
            exact ⟨rfl, BB.out.trans ((B2.out.alloc B2.out.size _).mono BB.out.size)⟩
      by_cases k9 : v5 = 9
      · subst k9
        have HRK : Hid (r = if x1 = 5 ∨ x1 = 6 then 23 else 0) := Lib.hid (by
          rw [HR.out]; unfold faultK; rw [if_neg (by simp), if_neg (by simp), if_neg (by simp), if_neg (by simp), if_neg (by simp), if_neg (by simp), if_neg (by simp), if_neg (by simp), if_pos rfl]; dsimp only; rw [Int.toNat_natCast, ← HX.out])
        replace HR := HRK
        clear HRK HX
        by_cases q1 : x1 = 5
        · rw [if_pos (.inl q1)] at HR
          have t1 : (x1 == 5) = true := by simpa using q1
          obtain rfl : r = 23 := HR.out
          clear HR
          go_wp2_with fail
          go_returns
          exact ⟨rfl, BB.out.trans ((B2.out.alloc B2.out.size _).mono BB.out.size)⟩
        · have t1 : (x1 == 5) = false := by simpa using q1
          by_cases q2 : x1 = 6
          · rw [if_pos (.inr q2)] at HR
            have t2 : (x1 == 6) = true := by simpa using q2
            obtain rfl : r = 23 := HR.out
            clear HR
            go_wp2_with fail
            go_returns
            exact ⟨rfl, BB.out.trans ((B2.out.alloc B2.out.size _).mono BB.out.size)⟩
          · have t2 : (x1 == 6) = false := by simpa using q2
            rw [if_neg (fun h => h.elim q1 q2)] at HR
            obtain rfl : r = 0 := HR.out
            clear HR
            go_wp2_with fail
            go_returns
            exact ⟨rfl, BB.out.trans ((B2.out.alloc B2.out.size _).mono BB.out.size)⟩
      by_cases k4 : v5 = 4
      · subst k4
        have HRK : Hid (r = if findI s.G v9 s.k < 0 ∨ (s.G (findI s.G v9 s.k).toNat).opn = false then 7 else if parkB ⟨x1, x2, x3, x4⟩ = false then 23 else if (s.F (s.G (findI s.G v9 s.k).toNat).bike.toNat).ps = true then 12 else 0) := Lib.hid (by
          rw [HR.out]; unfold faultK; rw [if_neg (by simp), if_neg (by simp), if_neg (by simp), if_pos rfl]; dsimp only; rw [Int.toNat_natCast, ← HX.out])
        replace HR := HRK
        clear HRK HX
        generalize parkB ⟨x1, x2, x3, x4⟩ = pb at PK HR
        have FN1 := Lib.hid (FN.out w3 B3.out v9)
        rcases findI_spec (G := s.G) (id := v9) (k := s.k) with ⟨q1, _⟩ | ⟨i, q1, q2, _, _⟩
        · rw [q1] at FN1 HR
          rw [if_pos (.inl (by decide))] at HR
          go_wp2_with fail
          rw [← HW3.out]
          clear s0 s1 e4 e5 e6 e7 e8 zs ze
          clear a0 a1 a2 a3 za HW3
          refine FN1.out.mono ?_
          rintro e w4 ⟨rfl, b4⟩
          have B4 := Lib.hid (B3.out.trans (b4.mono B3.out.size))
          clear b4 B3 FN1 PK X8
          obtain rfl : r = 7 := by first | exact HR.out | (rw [HR.out]; rfl)
          clear HR
          go_wp2_with fail
          go_returns
          exact ⟨rfl, BB.out.trans (B4.out.mono BB.out.size)⟩
        · rw [q1, Int.toNat_natCast] at HR
          rw [q1] at FN1
          clear q1
          go_wp2_with fail
          rw [← HW3.out]
          clear s0 s1 e4 e5 e6 e7 e8 zs ze
          clear a0 a1 a2 a3 za HW3
          refine FN1.out.mono ?_
          rintro e w4 ⟨rfl, b4⟩
          have B4 := Lib.hid (B3.out.trans (b4.mono B3.out.size))
          replace X8 := Lib.hid ((b4.block _ (block_lt X8.out)).trans X8.out)
          clear b4 B3 FN1
          have tik : (i : Int) < (s.k : Int) := by omega
          obtain ⟨h8, o8, rfl, hh8, _, _, u2, u3⟩ := (HIN.out.below B4.out).tr.trip q2
          have z8 := szs hh8
          have HOP := Lib.hid (HI.out.opn i q2)
          generalize (s.G i).opn = op at *
          cases op with
          | false =>
            rw [if_pos (.inr rfl)] at HR
            have tn : decide ((i : Int) < 0) = false := decide_eq_false (by omega)
            have s0 := cell_kept B4.out (cell_at X4.out 0)
            have s1 := cell_kept B4.out (cell_at X4.out 1)
            have e4 := cell_kept B4.out (cell_at X5.out 4)
            have e5 := cell_kept B4.out (cell_at X5.out 5)
            have e6 := cell_kept B4.out (cell_at X5.out 6)
            have e7 := cell_kept B4.out (cell_at X5.out 7)
            have e8 := cell_kept B4.out (cell_at X5.out 8)
            try dsimp only at s0 s1 e4 e5 e6 e7 e8
            have zs := szs (cell_lt s0)
            have ze := szs (cell_lt e5)
            dsimp only at zs ze
            obtain rfl : r = 7 := by first | exact HR.out | (rw [HR.out]; rfl)
            clear HR
            go_wp2_with fail
            go_returns
            exact ⟨rfl, BB.out.trans (B4.out.mono BB.out.size)⟩
          | true =>
            rw [if_neg (fun h => h.elim (fun h => by omega) (fun h => by cases h))] at HR
            obtain ⟨a, ha, han, _, _⟩ := HOP.out rfl
            have tan : (a : Int) < (n : Int) := by omega
            rw [ha] at HR u2
            rw [Int.toNat_natCast] at HR
            have tn : decide ((i : Int) < 0) = false := decide_eq_false (by omega)
            clear HOP ha
            obtain ⟨g', o', eg, _, _, _, _, r3⟩ := (HIN.out.below B4.out).sp.spot han
            cases eg
            generalize (s.F a).ps = pp at *
            have s0 := cell_kept B4.out (cell_at X4.out 0)
            have s1 := cell_kept B4.out (cell_at X4.out 1)
            have e4 := cell_kept B4.out (cell_at X5.out 4)
            have e5 := cell_kept B4.out (cell_at X5.out 5)
            have e6 := cell_kept B4.out (cell_at X5.out 6)
            have e7 := cell_kept B4.out (cell_at X5.out 7)
            have e8 := cell_kept B4.out (cell_at X5.out 8)
            try dsimp only at s0 s1 e4 e5 e6 e7 e8
            have zs := szs (cell_lt s0)
            have ze := szs (cell_lt e5)
            dsimp only at zs ze
            have y0 := cell_at X8.out 0
            have y1 := cell_at X8.out 1
            have y2 := cell_at X8.out 2
            have y3 := cell_at X8.out 3
            have zy := szs (block_lt X8.out)
            go_wp2_with fail
            refine (PK.out _).mono ?_
            rintro e w5 ⟨rfl, b5⟩
            have B5 := Lib.hid (B4.out.trans (b5.mono B4.out.size))
            clear s0 s1 e4 e5 e6 e7 e8 zs ze
            clear y0 y1 y2 y3 zy
            replace u2 := cell_kept b5 u2
            replace r3 := cell_kept b5 r3
            clear u3 z8 b5 PK B4
            have z8 := szs (cell_lt u2)
            have z9 := szs (cell_lt r3)
            dsimp only at z8 z9
            cases pb with
            | false =>
              rw [if_pos rfl] at HR
              obtain rfl : r = 23 := by first | exact HR.out | (rw [HR.out]; rfl)
              clear HR
              go_wp2_with fail
              go_returns
              exact ⟨rfl, BB.out.trans (B5.out.mono BB.out.size)⟩
            | true =>
              rw [if_neg (by simp)] at HR
              have s0 := cell_kept B5.out (cell_at X4.out 0)
              have s1 := cell_kept B5.out (cell_at X4.out 1)
              have e4 := cell_kept B5.out (cell_at X5.out 4)
              have e5 := cell_kept B5.out (cell_at X5.out 5)
              have e6 := cell_kept B5.out (cell_at X5.out 6)
              have e7 := cell_kept B5.out (cell_at X5.out 7)
              have e8 := cell_kept B5.out (cell_at X5.out 8)
              try dsimp only at s0 s1 e4 e5 e6 e7 e8
              have zs := szs (cell_lt s0)
              have ze := szs (cell_lt e5)
              dsimp only at zs ze
              go_wp2_with fail
              (refine region_all (fun i : Nat => World.drewN _ i) mixed (by kernel_rfl) ⟨1, rfl⟩ ?_; (repeat (any_goals (first | go_big_quiet_step (fail) | quiet_step (fail) | (refine wpQuiet_step (fun K hK => ?_); go_simp; split <;> (refine hK _ ?_; clear hK K))))); (all_goals (refine wpQuiet_nil (fun nq => ?_))))
              cases pp with
              | true =>
                rw [if_pos rfl] at HR
                obtain rfl := HR.out
                clear HR
                go_wp2_with fail
                go_returns
                exact ⟨rfl, below_drewN (BB.out.trans (B5.out.mono BB.out.size)) _⟩
              | false =>
                rw [if_neg (by simp)] at HR
                obtain rfl := HR.out
                clear HR
                go_wp2_with fail
                go_returns
                exact ⟨rfl, below_drewN (BB.out.trans (B5.out.mono BB.out.size)) _⟩
      by_cases k7 : v5 = 7
      · subst k7
        obtain ⟨hp0, hp1⟩ := check_place HCE.out.symm rfl
        dsimp only at hp0 hp1
        obtain ⟨p, rfl⟩ := Int.eq_ofNat_of_zero_le hp0
        have hp : p < f.nt := by omega
        have tp : (p : Int) < (f.nt : Int) := by omega
        have HRK : Hid (r = if x1 = 3 ∨ x1 = 4 then 23 else if f.T p ≤ cntN s.F 4 p n then 24 else 0) := Lib.hid (by
          rw [HR.out]; unfold faultK; rw [if_neg (by simp), if_neg (by simp), if_neg (by simp), if_neg (by simp), if_neg (by simp), if_neg (by simp), if_pos rfl]; dsimp only; rw [Int.toNat_natCast, Int.toNat_natCast, ← HX.out, ← HN.out])
        replace HR := HRK
        clear HRK HX PK
        by_cases q1 : x1 = 3
        · rw [if_pos (.inl q1)] at HR
          have t1 : (x1 == 3) = true := by simpa using q1
          obtain rfl : r = 23 := HR.out
          clear HR
          go_wp2_with fail
          go_returns
          exact ⟨rfl, BB.out.trans ((B2.out.alloc B2.out.size _).mono BB.out.size)⟩
        have t1 : (x1 == 3) = false := by simpa using q1
        by_cases q2 : x1 = 4
        · rw [if_pos (.inr q2)] at HR
          have t2 : (x1 == 4) = true := by simpa using q2
          obtain rfl : r = 23 := HR.out
          clear HR
          go_wp2_with fail
          go_returns
          exact ⟨rfl, BB.out.trans ((B2.out.alloc B2.out.size _).mono BB.out.size)⟩
        have t2 : (x1 == 4) = false := by simpa using q2
        rw [if_neg (fun h => h.elim q1 q2)] at HR
        obtain ⟨gt, ot, hta, hgt, w0⟩ := ((HF1.out.below B3.out).trucks).num hp
        rw [hta] at X3
        have CA1 := Lib.hid (fun w' (hb : Below w3.heap.size w3 w') => CA.out w' (B3.out.trans (hb.mono B3.out.size)) (p : Int))
        have hcn := cntN_le s.F 4 (p : Int) n
        generalize cntN s.F 4 (p : Int) n = cn at CA1 HR hcn
        generalize f.T p = tp' at *
        go_wp2_with fail
        rw [← HW3.out]
        clear s0 s1 e4 e5 e6 e7 e8 zs ze
        clear a0 a1 a2 a3 za HW3 X8 t1 t2
        have s0 := cell_kept B3.out (cell_at X4.out 0)
        have s1 := cell_kept B3.out (cell_at X4.out 1)
        have e4 := cell_kept B3.out (cell_at X5.out 4)
        have e5 := cell_kept B3.out (cell_at X5.out 5)
        have e6 := cell_kept B3.out (cell_at X5.out 6)
        have e7 := cell_kept B3.out (cell_at X5.out 7)
        have e8 := cell_kept B3.out (cell_at X5.out 8)
        try dsimp only at s0 s1 e4 e5 e6 e7 e8
        have zs := szs (cell_lt s0)
        have ze := szs (cell_lt e5)
        dsimp only at zs ze
        have l4 := cell_kept B3.out (cell_at X3.out 4)
        try dsimp only at l4
        have zl := szs (cell_lt l4)
        have zt := szs (cell_lt w0)
        dsimp only at zl zt
        (obtain ⟨ι, hne, Fw, fb, hF⟩ := grow_family w3); have hF : ∀ w', (gPlan w3 (fun _ => .int .i64 (cn : Int)) [3] [] []).D () w' → ∃ i, w' = Fw i := hF
        have fs0 := fun i => cell_kept (fb i) s0
        have fs1 := fun i => cell_kept (fb i) s1
        have fe6 := fun i => cell_kept (fb i) e6
        have fl4 := fun i => cell_kept (fb i) l4
        have fw0 := fun i => cell_kept (fb i) w0
        clear s0 s1 e4 e5 e6 e7 e8 zs ze
        clear l4 w0
        (refine region_chain (gPlan w3 (fun _ => .int .i64 (cn : Int)) [3] [] []) () [] [0, 1, 2, 4, 5, 6, 7, 8, 9, 3, 10] [] mixed (by kernel_rfl) (by kernel_rfl) (gPlan_ok (by simp) (by simp)) (gPlan_start _ _ _ _ _) ?_; refine wpPure_nil ?_; simp only [List.map_cons, List.map_nil, Array.getD_eq_getD_getElem?, List.getElem?_toArray, List.getElem?_cons_zero, List.getElem?_cons_succ, Option.getD_some])
        (repeat (first | (refine wpChain_skip rfl ?_; simp only [Act.put, List.setIfInBounds_toArray, List.set_cons_succ, List.set_cons_zero]) | (refine wpChain_quiet hF rfl rfl rfl ?_; intro K hK; go_big_quiet_op; go_big_quiet_on) | (refine wpChain_pure _ rfl rfl (fun w' _ => by go_simp; try rfl) ?_; simp only [Act.put, List.setIfInBounds_toArray, List.set_cons_succ, List.set_cons_zero])))
        refine wpChain_gcall 58 #[.agg #[.slice (some ⟨g9, o9, none⟩) n sc, .slice ta s.k tc], .int .i64 (p : Int)] rfl rfl (fun w' => by go_simp) (fun w' hb => CA1.out w' hb) ?_
        simp only [Act.put, List.setIfInBounds_toArray, List.set_cons_succ, List.set_cons_zero]
        (repeat (first | (refine wpChain_skip rfl ?_; simp only [Act.put, List.setIfInBounds_toArray, List.set_cons_succ, List.set_cons_zero]) | (refine wpChain_quiet hF rfl rfl rfl ?_; intro K hK; go_big_quiet_op; go_big_quiet_on) | (refine wpChain_pure _ rfl rfl (fun w' _ => by go_simp; try rfl) ?_; simp only [Act.put, List.setIfInBounds_toArray, List.set_cons_succ, List.set_cons_zero])))
        refine wpChain_nil (fun w4 hbw4 hl4 => ?_)
        have b4 : Below w3.heap.size w3 w4 := hbw4
        have B4 := Lib.hid (B3.out.trans (b4.mono B3.out.size))
        clear hbw4 hl4 hF fb hne b4 fs0 fs1 fe6 fl4 fw0 B3 CA1
        refine onlyN_intro ?_
        by_cases hq : tp' ≤ (cn : Int)
        · have tq : decide (tp' ≤ (cn : Int)) = true := decide_eq_true hq
          rw [if_pos hq] at HR
          obtain rfl : r = 24 := by first | exact HR.out | (rw [HR.out]; rfl)
          clear HR
          go_wp2_with fail
          go_returns
          exact ⟨rfl, BB.out.trans (B4.out.mono BB.out.size)⟩
        · have tq : decide (tp' ≤ (cn : Int)) = false := decide_eq_false hq
          rw [if_neg hq] at HR
          obtain rfl : r = 0 := by first | exact HR.out | (rw [HR.out]; rfl)
          clear HR
          go_wp2_with fail
          go_returns
          exact ⟨rfl, BB.out.trans (B4.out.mono BB.out.size)⟩
      exfalso
      have := kind_in HCE.out.symm
      dsimp only at this
      omega
  · have tc : (ce != 0) = true := by simpa using hce
    have HC0 := Lib.hid hce
    rw [if_pos hce] at HR
    clear hce
    obtain rfl : r = ce := by first | exact HR.out | (rw [HR.out]; rfl)
    clear HR
    go_wp2_with fail
    go_returns
    exact ⟨rfl, BB.out.trans (B2.out.mono BB.out.size)⟩
end Go.Proofs.YtlnfhlmgnppcbaaGreat
