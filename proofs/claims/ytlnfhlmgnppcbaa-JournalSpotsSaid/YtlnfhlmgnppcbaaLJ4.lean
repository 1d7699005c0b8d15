/- The law JournalRecovers. -/
import Derived.Test.YtlnfhlmgnppcbaaLEN
import Derived.Test.YtlnfhlmgnppcbaaAWJ
namespace Go.Proofs.Ytlnfhlmgnppcbaa
open Go.RowKit Go.ChangeShapes Go.WideShapes Go.Deep
set_option linter.unusedVariables false
set_option linter.unusedSimpArgs false
theorem ents_cutE {F : Nat → Ev} {n q : Nat} (h : q ≤ n) : ents F q = (ents F n).take q := by
  apply List.ext_getElem?
  intro i
  rw [List.getElem?_take]
  by_cases hi : i < q
  · rw [if_pos hi, ents_get hi, ents_get (by omega)]
  · rw [if_neg hi, List.getElem?_eq_none (by rw [ents_len]; omega)]
theorem EvSl.cut {w : World} {ao : Option Addr} {n c : Nat} {F : Nat → Ev} (h : EvSl w ao n c F) {q : Nat} (hq : q ≤ n) : EvSl w ao q c F := ⟨by have := h.hm; omega, h.hc, fun e => ⟨by have := (h.hno e).1; omega, (h.hno e).2⟩, h.len, fun i hi => h.sl i (by omega)⟩
theorem write_fine {F : Nat → Ev} {n : Nat} (h40 : n ≤ 40) : ((writeE (ents F n)).2 = 1) ∨ ((writeE (ents F n)).2 = 0 ∧ (writeE (ents F n)).1 = framesB (ents F n) ∧ ∀ i, i < n → framedB (F i) = true) := by
  unfold writeE
  by_cases ha : (ents F n).all framedB = false
  · left; rw [if_pos ha]
  · right
    rw [if_neg ha, if_neg (by rw [ents_len]; omega)]
    refine ⟨rfl, rfl, fun i hi => ?_⟩
    cases hh : (ents F n).all framedB
    · exact absurd hh ha
    · exact List.all_eq_true.1 hh _ (mem_ents.2 ⟨i, hi, rfl⟩)
set_option maxRecDepth 8000 in
set_option maxHeartbeats 8000000 in
theorem run_journalRecovers {H : Type} {enc : TypeId × Value → H} (W : World) (base : Nat) (v0 : Value) (d0 : DataW H) (p0 : List MemPlace) (hv0 : Value.okWide Try.prog W .any base 30 v0) (h0 : DataW.Trod enc Try.prog W 0 (fun _ => true) true 30 v0 d0 p0)
    (v1 : Value) (d1 : DataW H) (p1 : List MemPlace) (hv1 : Value.okWide Try.prog W .any base 3 v1) (h1 : DataW.Trod enc Try.prog W 0 (fun _ => true) true 3 v1 d1 p1) :
    Calls Try.prog 6 #[v0, v1] W fun e w' => e = .returned (.bool true) ∧ Below W.heap.size W w' := by
  obtain ⟨ao, n, c, F, rfl, hs, hF⟩ := open_events hv0 h0
  obtain ⟨cut, rfl, rfl, rfl, _⟩ := open_int Try.underlying3 hv1 h1
  clear hv0 h0 hv1 h1 hF
  have AW := Lib.hid (fun w' => awake12 w')
  have hmc := hs.hm
  have hcc := hs.hc
  have HS := Lib.hid hs
  by_cases hn : 40 < n
  · have tn : (40 : Int) < (n : Int) := by omega
    go_enter Try.func6, Try.ntmps6
    go_wp2_with fail
    refine (AW.out _).mono ?_
    rintro e wz ⟨rfl, bz⟩
    have BZ := Lib.hid ((Below.refl W.heap.size W).trans (bz.mono (Below.refl W.heap.size W).size))
    clear bz
    go_wp2_with fail
    go_returns
    exact ⟨rfl, BZ.out⟩
  · have t40 : decide ((40 : Int) < (n : Int)) = false := decide_eq_false (by omega)
    have tn : (n : Int) ≤ 40 := by omega
    have N1 := Lib.hid (write15 ao n c F W hs (by omega))
    have HWF := Lib.hid (write_fine (F := F) (n := n) (by omega))
    obtain ⟨⟨bl, x⟩, hX⟩ : ∃ X, X = writeE (ents F n) := ⟨_, rfl⟩
    rw [← hX] at N1 HWF
    dsimp only at N1 HWF
    clear hX hs
    go_enter Try.func6, Try.ntmps6
    go_wp2_with fail
    refine N1.out.mono ?_
    rintro e w1 ⟨u1, k1, R1, rfl, l1, r1, b1⟩
    obtain ⟨a1, c1, rfl, s1⟩ := BRow.toSl r1
    have hm1 := s1.hm
    have hc1 := s1.hc
    have B1 := Lib.hid b1
    have S1 := Lib.hid s1
    have L1 := Lib.hid l1
    clear N1 r1 b1 s1 l1
    rcases HWF.out with rfl | ⟨rfl, rfl, hall⟩
    · clear HWF
      go_wp2_with fail
      refine (AW.out _).mono ?_
      rintro e wz ⟨rfl, bz⟩
      have BZ := Lib.hid (B1.out.trans (bz.mono B1.out.size))
      clear bz
      go_wp2_with fail
      go_returns
      exact ⟨rfl, BZ.out⟩
    · clear HWF
      have HALL := Lib.hid hall
      clear hall
      by_cases hc0 : cut < 0
      · go_wp2_with fail
        refine (AW.out _).mono ?_
        rintro e wz ⟨rfl, bz⟩
        have BZ := Lib.hid (B1.out.trans (bz.mono B1.out.size))
        clear bz
        go_wp2_with fail
        go_returns
        exact ⟨rfl, BZ.out⟩
      · obtain ⟨q, rfl⟩ := Int.eq_ofNat_of_zero_le (show 0 ≤ cut by omega)
        clear hc0
        have d0 : decide ((q : Int) < 0) = false := decide_eq_false (by omega)
        by_cases hc2 : k1 < q
        · have tq : (k1 : Int) < (q : Int) := by omega
          go_wp2_with fail
          refine (AW.out _).mono ?_
          rintro e wz ⟨rfl, bz⟩
          have BZ := Lib.hid (B1.out.trans (bz.mono B1.out.size))
          clear bz
          go_wp2_with fail
          go_returns
          exact ⟨rfl, BZ.out⟩
        · have d1 : decide ((k1 : Int) < (q : Int)) = false := decide_eq_false (by omega)
          have d1n : decide (k1 < q) = false := decide_eq_false (by omega)
          have tq : (q : Int) ≤ (k1 : Int) := by omega
          have tq2 : (q : Int) ≤ (c1 : Int) := by omega
          have hk1 : (framesB (ents F n)).length = k1 := by rw [← L1.out, ents_len]
          have HSTEP := Lib.hid (fun (i : Nat) (hi : i < n) => count_step (F := F) hi q)
          have HRC := Lib.hid (read_cut (l := ents F n) (fun v hv => by
            obtain ⟨i, hi, rfl⟩ := mem_ents.1 hv
            exact HALL.out i hi) (by rw [ents_len]; omega) (c := q) (by omega))
          have HLEN : Hid (∀ j, j ≤ n → (framesB ((ents F n).take j)).length ≤ 4160) := Lib.hid (by
            intro j hj
            have h1 := framesB_len (l := (ents F n).take j) (fun v hv => by
              obtain ⟨i, hi, rfl⟩ := mem_ents.1 (List.mem_of_mem_take hv)
              exact HALL.out i hi)
            have h2 : ((ents F n).take j).length ≤ 40 := by rw [List.length_take, ents_len]; omega
            have := Nat.mul_le_mul_left 104 h2
            omega)
          have HWL := Lib.hid (fun (j : Nat) (hj : j ≤ n) => (by have := wholeN_le ((ents F n).take j) q; rw [List.length_take, ents_len] at this; omega : wholeN ((ents F n).take j) q ≤ j))
          have HTK : Hid ((ents F n).take n = ents F n) := Lib.hid (List.take_of_length_le (by rw [ents_len]; omega))
          have HCE := Lib.hid (fun (j : Nat) (hj : j ≤ n) => ents_cutE (F := F) hj)
          have HBY := Lib.hid (ents_byte L1.out (framesB_byte (ents F n)))
          have hk5 : k1 ≤ 4160 := by have := HLEN.out n (Nat.le_refl _); rw [HTK.out] at this; omega
          have L1Q : Hid (ents R1 q = (framesB (ents F n)).take q) := Lib.hid (by rw [← L1.out]; exact (ents_cut (by omega)).symm)
          clear hc2 hk1 L1
          generalize ents F n = L at *
          go_wp2_with fail
          go_loopw [7, 8, 9] (fun s7 s8 s9 wr => ∃ j : Nat, s9 = .int .i64 j ∧ j ≤ n ∧ s7 = .int .i64 ((wholeN (L.take j) q : Nat) : Int) ∧ s8 = .int .i64 ((framesB (L.take (wholeN (L.take j) q))).length : Int) ∧ Hid (Below w1.heap.size w1 wr)) (fun _ _ s9 _ => n - (intOf s9).toNat)
          case atStart => exact ⟨0, rfl, by omega, rfl, rfl, Lib.hid (Below.refl _ _)⟩
          case round =>
            obtain ⟨j, rfl, hj, rfl, rfl, hb⟩ := hrel
            have BW := hb
            clear hb
            by_cases hlt : j < n
            · have tj : (j : Int) < (n : Int) := by omega
              have tj0 : (0 : Int) ≤ (j : Int) := by omega
              have tj1 : (j : Int) ≤ (c : Int) := by omega
              have e0 : j - 0 = j := by omega
              obtain ⟨g, o, rfl, hg, ea⟩ := evs_at (HS.out.below (B1.out.trans (BW.out.mono B1.out.size))) hlt
              have HIN := framed_in (HALL.out j hlt)
              have HEL := encE_len HIN
              have HEB := Lib.hid (encE_byte (F j))
              have EE := Lib.hid (fun w' => encode23 (F j) w' HIN)
              have HST := Lib.hid (HSTEP.out j hlt)
              have HWJ := HWL.out j (by omega)
              have hL1 := HLEN.out _ (show wholeN (L.take j) q ≤ n by omega)
              have hL2 := HLEN.out j (by omega)
              have NL := Lib.hid (fun w' (hb : Below W.heap.size W w') => lengths24 (some ⟨g, o, none⟩) j c F w' (EvSl.cut (HS.out.below hb) (by omega)) (by omega) (fun i hi => HALL.out i (by omega)))
              rw [HCE.out j (by omega)] at NL
              have HFR : Hid (frameB (F j) = sealB (encE (F j))) := Lib.hid rfl
              have HFL := frameB_len HIN
              clear HSTEP HLEN HTK HIN HRC HWL HCE L1Q HBY
              obtain ⟨y, hy⟩ : ∃ y, y = F j := ⟨_, rfl⟩
              rw [← hy] at ea HEB EE HST HFR HEL HFL
              clear hy
              obtain ⟨E, hE⟩ : ∃ E, E = encE y := ⟨_, rfl⟩
              rw [← hE] at HEB EE HFR HEL
              clear hE
              obtain ⟨Z, hZ⟩ : ∃ Z, Z = frameB y := ⟨_, rfl⟩
              rw [← hZ] at HFR HST HFL
              clear hZ
              obtain ⟨C, hC⟩ : ∃ C, C = wholeN (L.take j) q := ⟨_, rfl⟩
              obtain ⟨T, hT⟩ : ∃ T, T = (framesB (L.take C)).length := ⟨_, rfl⟩
              obtain ⟨T2, hT2⟩ : ∃ T2, T2 = (framesB (L.take j)).length := ⟨_, rfl⟩
              rw [← hC] at HST HWJ hL1 ⊢
              rw [← hT] at HST hL1 ⊢
              rw [← hT2] at HST hL2 NL
              have HCC := Lib.hid hC
              have HTT := Lib.hid hT
              clear hC hT hT2
              obtain ⟨y1, y2, y3, y4, y5, y6, y7, y8, y9⟩ := y
              unfold eC at EE
              dsimp only at EE
              (have f0 := (ea).c0; have f1 := (ea).c1; have f2 := (ea).c2; have f3 := (ea).c3; have f4 := (ea).c4; have f5 := (ea).c5; have f6 := (ea).c6; have f7 := (ea).c7; have f8 := (ea).c8); (try dsimp only at f0 f1 f2 f3 f4 f5 f6 f7 f8)
              have zg := szs hg
              clear ea
              go_wp2_with fail
              refine (EE.out _).mono ?_
              rintro e w2 ⟨u2, k2, E2, rfl, l2, r2, b2⟩
              obtain ⟨a2, cp2, rfl, s2⟩ := BRow.toSl r2
              have hk2 : k2 ≤ 90 := by
                have h := congrArg List.length l2
                rw [ents_len] at h
                omega
              have CS := seal22 a2 k2 cp2 E2 w2 s2 (ents_byte l2 HEB.out) (by omega)
              rw [l2, ← HFR.out] at CS
              replace CS := Lib.hid CS
              have B2 := Lib.hid (BW.out.trans (b2.mono BW.out.size))
              clear EE l2 r2 s2 b2 BW f0 f1 f2 f3 f4 f5 f6 f7 f8 zg
              go_wp2_with fail
              refine CS.out.mono ?_
              rintro e w3 ⟨u3, k3, E3, rfl, l3, r3, b3⟩
              obtain ⟨a3, cp3, rfl, s3⟩ := BRow.toSl r3
              have hk3 : Z.length = k3 := by have h := congrArg List.length l3; rw [ents_len] at h; exact h.symm
              have B3 := Lib.hid (B2.out.trans (b3.mono B2.out.size))
              have NL1 := Lib.hid (NL.out w3 (B1.out.trans (B3.out.mono B1.out.size)))
              rw [hk3] at HST HFL
              have HSA := Lib.hid HST.out.1
              have HSB := Lib.hid HST.out.2
              clear CS l3 r3 s3 b3 B2 NL HST hk3 HFR
              go_wp2_with fail
              refine NL1.out.mono ?_
              rintro e w4 ⟨rfl, b4⟩
              have B4 := Lib.hid (B3.out.trans (b4.mono B3.out.size))
              clear b4 NL1
              by_cases h1 : T = T2
              · subst h1
                have te : ((T : Int) == (T : Int)) = true := by simp
                by_cases h2 : T + k3 ≤ q
                · have t2 : (T : Int) + (k3 : Int) ≤ (q : Int) := by omega
                  have h3 := HSA.out ⟨rfl, h2⟩
                  have h4 : Hid ((T : Int) + (k3 : Int) = ((framesB (L.take (wholeN (L.take (j + 1)) q))).length : Int)) := Lib.hid (by rw [h3.2]; omega)
                  have h5 : Hid ((C : Int) + 1 = ((wholeN (L.take (j + 1)) q : Nat) : Int)) := Lib.hid (by rw [h3.1]; omega)
                  clear HSA HSB h3
                  go_wp2_with fail
                  go_roundw
                  case rel => exact ⟨j + 1, by go_num, by omega, by rw [← h5.out], by rw [← h4.out], B4⟩
                  case measure => simp [intOf]; omega
                · have t2 : (q : Int) < (T : Int) + (k3 : Int) := by omega
                  have h3 := Lib.hid (HSB.out (fun h => h2 h.2))
                  clear HSA HSB
                  go_wp2_with fail
                  go_roundw
                  case rel => exact ⟨j + 1, by go_num, by omega, by rw [h3.out], by rw [h3.out, HTT.out], B4⟩
                  case measure => simp [intOf]; omega
              · have te : ((T : Int) == (T2 : Int)) = false := by simp; omega
                have h3 := Lib.hid (HSB.out (fun h => h1 h.1))
                clear HSA HSB
                go_wp2_with fail
                go_roundw
                case rel => exact ⟨j + 1, by go_num, by omega, by rw [h3.out], by rw [h3.out, HTT.out], B4⟩
                case measure => simp [intOf]; omega
            · obtain rfl : j = n := by omega
              rw [HTK.out]
              have hwl := HWL.out j (Nat.le_refl _)
              rw [HTK.out] at hwl
              have CE0 := HCE.out _ hwl
              have hlen := HLEN.out _ hwl
              obtain ⟨C, hC⟩ : ∃ C, C = wholeN L q := ⟨_, rfl⟩
              rw [← hC] at hwl CE0 HRC hlen ⊢
              have SC := Lib.hid (fun w' (hb : Below W.heap.size W w') => EvSl.cut (HS.out.below hb) hwl)
              have HCE0 := Lib.hid CE0
              have B2 := Lib.hid (B1.out.trans (BW.out.mono B1.out.size))
              have RR := Lib.hid (read17 a1 q c1 R1 wr (BSl.cut (S1.out.below BW.out) (by omega)) (fun i hi => HBY.out i (by omega)) (by omega))
              rw [L1Q.out, HRC.out] at RR
              dsimp only at RR
              obtain ⟨T, hT⟩ : ∃ T, T = (framesB (L.take C)).length := ⟨_, rfl⟩
              rw [← hT] at RR hlen ⊢
              have tc0 : (0 : Int) ≤ (C : Int) := by omega
              have tc1 : (C : Int) ≤ (c : Int) := by omega
              have tq0 : (0 : Int) ≤ (q : Int) := by omega
              have e0 : q - 0 = q := by omega
              have e1 : C - 0 = C := by omega
              have te : ((T : Int) == (T : Int)) = true := by simp
              clear HSTEP HLEN HTK HRC HWL HCE L1Q HBY hC hT CE0
              cases a1 with
              | none =>
                obtain ⟨rfl, rfl⟩ := S1.out.hno rfl
                obtain rfl : q = 0 := by omega
                clear S1
                cases ao with
                | none =>
                  obtain ⟨rfl, rfl⟩ := HS.out.hno rfl
                  obtain rfl : C = 0 := by omega
                  go_wp2_with fail
                  refine RR.out.mono ?_
                  rintro e w2 ⟨u2, k2, E2, rfl, l2, r2, b2⟩
                  obtain ⟨a2, cp2, rfl, s2⟩ := EvRow.toSl r2
                  have B3 := Lib.hid (B2.out.trans (b2.mono B2.out.size))
                  have CE := same21 a2 k2 cp2 E2 none _ 0 F w2 s2 (SC.out _ B3.out)
                  rw [l2, HCE0.out, decide_eq_true rfl] at CE
                  replace CE := Lib.hid CE
                  clear RR l2 r2 s2 b2 SC HCE0
                  go_wp2_with fail
                  refine CE.out.mono ?_
                  rintro e w5 ⟨rfl, b5⟩
                  have B5 := Lib.hid (B3.out.trans (b5.mono B3.out.size))
                  clear b5 CE
                  go_wp2_with fail
                  refine (AW.out _).mono ?_
                  rintro e wz ⟨rfl, bz⟩
                  have BZ := Lib.hid (B5.out.trans (bz.mono B5.out.size))
                  clear bz
                  go_wp2_with fail
                  go_returns
                  exact ⟨rfl, BZ.out⟩
                | some ad =>
                  go_wp2_with fail
                  refine RR.out.mono ?_
                  rintro e w2 ⟨u2, k2, E2, rfl, l2, r2, b2⟩
                  obtain ⟨a2, cp2, rfl, s2⟩ := EvRow.toSl r2
                  have B3 := Lib.hid (B2.out.trans (b2.mono B2.out.size))
                  have CE := same21 a2 k2 cp2 E2 (some ad) _ c F w2 s2 (SC.out _ B3.out)
                  rw [l2, HCE0.out, decide_eq_true rfl] at CE
                  replace CE := Lib.hid CE
                  clear RR l2 r2 s2 b2 SC HCE0
                  go_wp2_with fail
                  refine CE.out.mono ?_
                  rintro e w5 ⟨rfl, b5⟩
                  have B5 := Lib.hid (B3.out.trans (b5.mono B3.out.size))
                  clear b5 CE
                  go_wp2_with fail
                  refine (AW.out _).mono ?_
                  rintro e wz ⟨rfl, bz⟩
                  have BZ := Lib.hid (B5.out.trans (bz.mono B5.out.size))
                  clear bz
                  go_wp2_with fail
                  go_returns
                  exact ⟨rfl, BZ.out⟩
              | some a1 =>
                clear S1
                cases ao with
                | none =>
                  obtain ⟨rfl, rfl⟩ := HS.out.hno rfl
                  obtain rfl : C = 0 := by omega
                  go_wp2_with fail
                  refine RR.out.mono ?_
                  rintro e w2 ⟨u2, k2, E2, rfl, l2, r2, b2⟩
                  obtain ⟨a2, cp2, rfl, s2⟩ := EvRow.toSl r2
                  have B3 := Lib.hid (B2.out.trans (b2.mono B2.out.size))
                  have CE := same21 a2 k2 cp2 E2 none _ 0 F w2 s2 (SC.out _ B3.out)
                  rw [l2, HCE0.out, decide_eq_true rfl] at CE
                  replace CE := Lib.hid CE
                  clear RR l2 r2 s2 b2 SC HCE0
                  go_wp2_with fail
                  refine CE.out.mono ?_
                  rintro e w5 ⟨rfl, b5⟩
                  have B5 := Lib.hid (B3.out.trans (b5.mono B3.out.size))
                  clear b5 CE
                  go_wp2_with fail
                  refine (AW.out _).mono ?_
                  rintro e wz ⟨rfl, bz⟩
                  have BZ := Lib.hid (B5.out.trans (bz.mono B5.out.size))
                  clear bz
                  go_wp2_with fail
                  go_returns
                  exact ⟨rfl, BZ.out⟩
                | some ad =>
                  go_wp2_with fail
                  refine RR.out.mono ?_
                  rintro e w2 ⟨u2, k2, E2, rfl, l2, r2, b2⟩
                  obtain ⟨a2, cp2, rfl, s2⟩ := EvRow.toSl r2
                  have B3 := Lib.hid (B2.out.trans (b2.mono B2.out.size))
                  have CE := same21 a2 k2 cp2 E2 (some ad) _ c F w2 s2 (SC.out _ B3.out)
                  rw [l2, HCE0.out, decide_eq_true rfl] at CE
                  replace CE := Lib.hid CE
                  clear RR l2 r2 s2 b2 SC HCE0
                  go_wp2_with fail
                  refine CE.out.mono ?_
                  rintro e w5 ⟨rfl, b5⟩
                  have B5 := Lib.hid (B3.out.trans (b5.mono B3.out.size))
                  clear b5 CE
                  go_wp2_with fail
                  refine (AW.out _).mono ?_
                  rintro e wz ⟨rfl, bz⟩
                  have BZ := Lib.hid (B5.out.trans (bz.mono B5.out.size))
                  clear bz
                  go_wp2_with fail
                  go_returns
                  exact ⟨rfl, BZ.out⟩
end Go.Proofs.Ytlnfhlmgnppcbaa
