/- The reference's Plan. -/
import Derived.Test.YtanpefjbmpohdaaG2
import Derived.BigRegion
namespace Go.Proofs.Ytanpefjbmpohdaa
open Go.RowKit Go.ChangeShapes Go.WideShapes Go.Deep
set_option linter.unusedVariables false
set_option linter.unusedSimpArgs false
set_option maxHeartbeats 8000000 in
set_option maxRecDepth 100000 in
theorem plan12 (ao am : Option Addr) (m c k c2 : Nat) (J : Nat → Jb) (M : Nat → Int) (w : World) (h : Sl w 3 ao m c (jf J)) (h2 : Sl w 1 am k c2 (mf M)) :
    Calls Try.prog 12 #[.slice ao m c, .slice am k c2] w fun e w' => Planned w m J k M e w' := by
  have hmc := h.hm
  have hcc := h.hc
  have hkc := h2.hm
  have hcc2 := h2.hc
  have HS := Lib.hid h
  have HM := Lib.hid h2
  have HC := Lib.hid (check14 ao am m c k c2 J M w h h2)
  clear h h2
  by_cases hc : chkE m J k M = 0
  · rw [hc] at HC
    have CZ := chk_zero hc
    have hm32 := CZ.1
    have hk8 := CZ.2.1
    have HCZ := Lib.hid CZ.2.2
    have H0 := Lib.hid hc
    clear CZ hc
    obtain ⟨i0, hi, hz0, hz1, hz2⟩ := info_parts info43
    have hmk := mkB m (by omega)
    have hmk2 := mkI k (by omega)
    obtain ⟨MK, hMK⟩ : ∃ MK, MK = madeCells #[.bool false] (m * 1) := ⟨_, rfl⟩
    obtain ⟨MI, hMI⟩ : ∃ MK, MK = madeCells #[.int .i64 0] (k * 1) := ⟨_, rfl⟩
    rw [← hMK] at hmk
    rw [← hMI] at hmk2
    have HMK := Lib.hid hMK
    have HMI := Lib.hid hMI
    clear hMK hMI
    go_enter Try.func12, Try.ntmps12
    go_wp2_with fail
    refine HC.out.mono ?_
    rintro e w1 ⟨rfl, b1⟩
    have B1 := Lib.hid b1
    clear b1 HC
    go_wp2_with fail
    obtain ⟨bd, hbdd⟩ : ∃ bd, bd = w1.heap.size := ⟨_, rfl⟩
    obtain ⟨bf, hbff⟩ : ∃ bf, bf = w1.heap.size + 1 := ⟨_, rfl⟩
    have S0 : Hid (PSt w ((w1.alloc (.cells MK 4)).alloc (.cells MI 3)) bd bf m J k M 0 (.slice none 0 0)) := Lib.hid (by
      have q1 : Bools (w1.alloc (.cells MK 4)) w.heap.size bd m (st m J k M 0).D := Bools.made (by rw [hbdd, ← HMK.out]; exact heap_alloc_new w1 _) (by rw [hbdd]; exact B1.out.size) (by omega)
      have q2 : Ints ((w1.alloc (.cells MK 4)).alloc (.cells MI 3)) w.heap.size bf k (st m J k M 0).F := Ints.made (by
        have := heap_alloc_new (w1.alloc (.cells MK 4)) (.cells MI 3)
        rw [show (w1.alloc (.cells MK 4)).heap.size = w1.heap.size + 1 by simp] at this
        rw [hbff, ← HMI.out]; exact this) (by rw [hbff]; have := B1.out.size; omega) (by omega)
      exact ⟨⟨rfl, .inl ⟨rfl, rfl⟩⟩, q1.keep ((Below.refl _ _).alloc (Nat.le_refl _) _), q2, (B1.out.alloc B1.out.size _).alloc (by have := B1.out.size; simp; omega) _, by simp [Value.ownBlock], by simp [Value.ownBlock]⟩)
    have hne : bd ≠ bf := by omega
    have HNE := Lib.hid hne
    rw [← hbff, ← hbdd]
    clear hmk hmk2 HMK HMI hne hbdd hbff
    generalize (w1.alloc (.cells MK 4)).alloc (.cells MI 3) = ws at *
    go_loopw [10, 9] (fun i v wr => ∃ n : Nat, i = .int .i64 n ∧ n ≤ m ∧ Hid (PSt w wr bd bf m J k M n v)) (fun i _ _ => m - (intOf i).toNat)
    case atStart => exact ⟨0, rfl, by omega, S0⟩
    case round =>
      clear S0 B1
      obtain ⟨n, rfl, hn, hrel⟩ := hrel
      by_cases hlt : n < m
      · have tj : (n : Int) < (m : Int) := by omega
        obtain ⟨j, u, stp⟩ := st_step H0.out hlt
        have SB := st_bound H0.out hn
        have hnx : st m J k M (n + 1) = _ := stp.next
        obtain ⟨S, hS⟩ : ∃ S, S = st m J k M n := ⟨_, rfl⟩
        rw [← hS] at stp SB hnx
        have HSt := Lib.hid hS
        have HNX := Lib.hid hnx
        have STP := Lib.hid stp
        have hjm := stp.hj
        have huk := stp.hu
        have hf1 := (SB u).1
        have hf2 := (SB u).2
        have HR := hrel
        have HLT := Lib.hid hlt
        clear hrel hS hnx stp SB
        obtain ⟨wo, rfl⟩ : ∃ wo : World, wo = wr := ⟨_, rfl⟩
        go_wp2_with fail
        go_loopw [12, 11] (fun i q wi => ∃ t : Nat, i = .int .i64 t ∧ t ≤ m ∧ q = .int .i64 (bj J S.D t) ∧ Hid (Below wo.heap.size wo wi)) (fun i _ _ => m - (intOf i).toNat)
        case atStart => exact ⟨0, rfl, by omega, rfl, Lib.hid (Below.refl _ _)⟩
        case round =>
          obtain ⟨t, rfl, ht, rfl, hrel⟩ := hrel
          have BI := Lib.hid hrel.out
          clear hrel
          have PS := Lib.hid (HR.out.below BI.out)
          have hqr := bj_range J S.D t
          have hnx : bj J S.D (t + 1) = if S.D t = false ∧ (bj J S.D t < 0 ∨ (J (bj J S.D t).toNat).secs < (J t).secs) then (t : Int) else bj J S.D t := rfl
          have HN := Lib.hid hnx
          clear hnx
          by_cases hlt2 : t < m
          · have tt : (t : Int) < (m : Int) := by omega
            have cd := Bools.at PS.out.2.1 hlt2
            rw [← HSt.out] at cd
            have zd := szs (cell_lt cd)
            dsimp only at zd
            obtain ⟨gj, oj, rfl, hgj, j0, j1, j2⟩ := (HS.out.below PS.out.2.2.2.1).job hlt2
            have zj := szs hgj
            obtain ⟨d, hd⟩ : ∃ d, d = S.D t := ⟨_, rfl⟩
            obtain ⟨s, hs⟩ : ∃ s, s = (J t).secs := ⟨_, rfl⟩
            rw [← hd] at cd HN
            rw [← hs] at j1 HN
            clear hd hs j0 j2
            obtain ⟨wo2, rfl⟩ : ∃ wo2 : World, wo2 = wr := ⟨_, rfl⟩
            cases d
            · by_cases hq : bj J S.D t < 0
              · have hr : bj J S.D (t + 1) = (t : Int) := by rw [HN.out, if_pos ⟨rfl, .inl hq⟩]
                have HRR := Lib.hid hr
                clear hr HN
                generalize bj J S.D t = q at *
                have d1 : decide (q < 0) = true := decide_eq_true hq
                clear hq hqr
                go_wp2_with fail
                (refine region_all (fun i : Nat => World.drewN _ i) mixed (by kernel_rfl) ⟨1, rfl⟩ ?_; (repeat (any_goals (first | go_big_quiet_step (fail) | quiet_step (fail) | (refine wpQuiet_step (fun K hK => ?_); go_simp; split <;> (refine hK _ ?_; clear hK K))))); (all_goals (refine wpQuiet_nil (fun nq => ?_))))
                go_wp2_with fail
                go_roundw
                case rel => exact ⟨t + 1, by go_num, by omega, by rw [HRR.out], Lib.hid (by have := BI.out; (have hszz := (this).size; (repeat' (first | (with_reducible exact Below.refl _ _) | (with_reducible assumption) | (with_reducible refine Below.drew ?_) | (with_reducible refine below_drewN ?_ _) | (with_reducible refine Below.alloc ?_ ?_ _) | (with_reducible refine Below.setCell ?_ ?_ _) | go_size))))⟩
                case measure => simp [intOf]; omega
              · obtain ⟨p, hp⟩ : ∃ p : Nat, bj J S.D t = (p : Int) := ⟨(bj J S.D t).toNat, by omega⟩
                rw [hp] at hqr HN ⊢
                have hpm : p < m := by omega
                obtain ⟨_, _, e', _, p0, p1, p2⟩ := (HS.out.below PS.out.2.2.2.1).job hpm
                cases e'
                rw [Int.toNat_natCast] at HN
                have tp : (p : Int) < (m : Int) := by omega
                obtain ⟨sp, hsp⟩ : ∃ sp, sp = (J p).secs := ⟨_, rfl⟩
                rw [← hsp] at p1 HN
                clear hp hq hsp p0 p2
                have d1 : decide ((p : Int) < 0) = false := decide_eq_false (by omega)
                by_cases hlt3 : sp < s
                · have hr : bj J S.D (t + 1) = (t : Int) := by rw [HN.out, if_pos ⟨rfl, .inr hlt3⟩]
                  have HRR := Lib.hid hr
                  have d2 : decide (sp < s) = true := decide_eq_true hlt3
                  clear hr HN hlt3
                  go_wp2_with fail
                  (refine region_all (fun i : Nat => World.drewN _ i) mixed (by kernel_rfl) ⟨1, rfl⟩ ?_; (repeat (any_goals (first | go_big_quiet_step (fail) | quiet_step (fail) | (refine wpQuiet_step (fun K hK => ?_); go_simp; split <;> (refine hK _ ?_; clear hK K))))); (all_goals (refine wpQuiet_nil (fun nq => ?_))))
                  go_wp2_with fail
                  go_roundw
                  case rel => exact ⟨t + 1, by go_num, by omega, by rw [HRR.out], Lib.hid (by have := BI.out; (have hszz := (this).size; (repeat' (first | (with_reducible exact Below.refl _ _) | (with_reducible assumption) | (with_reducible refine Below.drew ?_) | (with_reducible refine below_drewN ?_ _) | (with_reducible refine Below.alloc ?_ ?_ _) | (with_reducible refine Below.setCell ?_ ?_ _) | go_size))))⟩
                  case measure => simp [intOf]; omega
                · have hr : bj J S.D (t + 1) = (p : Int) := by rw [HN.out, if_neg (fun hh => hh.2.elim (fun h => absurd h (by omega)) hlt3)]
                  have HRR := Lib.hid hr
                  have d2 : decide (sp < s) = false := decide_eq_false hlt3
                  clear hr HN hlt3
                  go_wp2_with fail
                  (refine region_all (fun i : Nat => World.drewN _ i) mixed (by kernel_rfl) ⟨1, rfl⟩ ?_; (repeat (any_goals (first | go_big_quiet_step (fail) | quiet_step (fail) | (refine wpQuiet_step (fun K hK => ?_); go_simp; split <;> (refine hK _ ?_; clear hK K))))); (all_goals (refine wpQuiet_nil (fun nq => ?_))))
                  go_wp2_with fail
                  go_roundw
                  case rel => exact ⟨t + 1, by go_num, by omega, by rw [HRR.out], Lib.hid (by have := BI.out; (have hszz := (this).size; (repeat' (first | (with_reducible exact Below.refl _ _) | (with_reducible assumption) | (with_reducible refine Below.drew ?_) | (with_reducible refine below_drewN ?_ _) | (with_reducible refine Below.alloc ?_ ?_ _) | (with_reducible refine Below.setCell ?_ ?_ _) | go_size))))⟩
                  case measure => simp [intOf]; omega
            · have hr : bj J S.D (t + 1) = bj J S.D t := by rw [HN.out, if_neg (by simp)]
              have HRR := Lib.hid hr
              clear hr HN
              generalize bj J S.D t = q at *
              clear hqr
              go_wp2_with fail
              (refine region_all (fun i : Nat => World.drewN _ i) mixed (by kernel_rfl) ⟨1, rfl⟩ ?_; (repeat (any_goals (first | go_big_quiet_step (fail) | quiet_step (fail) | (refine wpQuiet_step (fun K hK => ?_); go_simp; split <;> (refine hK _ ?_; clear hK K))))); (all_goals (refine wpQuiet_nil (fun nq => ?_))))
              go_wp2_with fail
              go_roundw
              case rel => exact ⟨t + 1, by go_num, by omega, by rw [HRR.out], Lib.hid (by have := BI.out; (have hszz := (this).size; (repeat' (first | (with_reducible exact Below.refl _ _) | (with_reducible assumption) | (with_reducible refine Below.drew ?_) | (with_reducible refine below_drewN ?_ _) | (with_reducible refine Below.alloc ?_ ?_ _) | (with_reducible refine Below.setCell ?_ ?_ _) | go_size))))⟩
              case measure => simp [intOf]; omega
          · obtain rfl : t = m := by omega
            rw [STP.out.ebj]
            clear hqr HN BI
            have P2 := Lib.hid PS.out
            clear PS
            obtain ⟨w2, rfl⟩ : ∃ w2 : World, w2 = wr := ⟨_, rfl⟩
            obtain ⟨sk, hsk⟩ : ∃ sk, sk = (J j).skill := ⟨_, rfl⟩
            have HSK := Lib.hid hsk
            clear hsk HR
            go_wp2_with fail
            go_loopw [14, 13] (fun i q wi => ∃ t : Nat, i = .int .i64 t ∧ t ≤ k ∧ q = .int .i64 (bm M S.F sk t) ∧ Hid (Below w2.heap.size w2 wi)) (fun i _ _ => k - (intOf i).toNat)
            case atStart => exact ⟨0, rfl, by omega, rfl, Lib.hid (Below.refl _ _)⟩
            case round =>
              clear hlt2 ht hlt tj
              obtain ⟨q, rfl⟩ : ∃ q, q = t := ⟨_, rfl⟩
              obtain ⟨t, rfl, ht, rfl, hrel⟩ := hrel
              have BI := Lib.hid hrel.out
              clear hrel
              have PS := Lib.hid (P2.out.below BI.out)
              have hqr := bm_range M S.F sk t
              have hnx : bm M S.F sk (t + 1) = if hasB (M t) sk = true ∧ (bm M S.F sk t < 0 ∨ S.F t < S.F (bm M S.F sk t)) then (t : Int) else bm M S.F sk t := rfl
              have HN := Lib.hid hnx
              clear hnx
              by_cases hlt2 : t < k
              · have tt : (t : Int) < (k : Int) := by omega
                have tjq : (j : Int) < (q : Int) := by omega
                have ct := Ints.at PS.out.2.2.1 hlt2
                rw [← HSt.out] at ct
                have zf := szs (cell_lt ct)
                dsimp only at zf
                obtain ⟨gj, oj, rfl, hgj, j0, j1, j2⟩ := (HS.out.below PS.out.2.2.2.1).job hjm
                obtain ⟨gm, om, rfl, hgm, m0⟩ := (HM.out.below PS.out.2.2.2.1).mech hlt2
                have zj := szs hgj
                have zm := szs hgm
                have HH := Lib.hid (fun w' => has22 (M t) sk w')
                rw [← HSK.out] at j2
                obtain ⟨km, hkm⟩ : ∃ km, km = M t := ⟨_, rfl⟩
                rw [← hkm] at m0 HH HN
                obtain ⟨b, hb⟩ : ∃ b, b = hasB km sk := ⟨_, rfl⟩
                rw [← hb] at HH HN
                obtain ⟨ft, hft⟩ : ∃ ft, ft = S.F t := ⟨_, rfl⟩
                rw [← hft] at ct HN
                clear hkm hb hft j0 j1 hgj hgm
                obtain ⟨wo3, rfl⟩ : ∃ wo3 : World, wo3 = wr := ⟨_, rfl⟩
                cases b
                · have hr : bm M S.F sk (t + 1) = bm M S.F sk t := by rw [HN.out, if_neg (by simp)]
                  have HRR := Lib.hid hr
                  clear hr HN ct
                  generalize bm M S.F sk t = q at *
                  clear hqr
                  go_wp2_with fail
                  (obtain ⟨ι, hne, Fw, fb, hF⟩ := grow_family wo3); have hF : ∀ w', (gPlan wo3 (fun _ => .bool false) [9] [] []).D () w' → ∃ i, w' = Fw i := hF
                  have f0 := fun i => cell_kept (fb i) m0
                  have f2 := fun i => cell_kept (fb i) j2
                  (refine region_chain (gPlan wo3 (fun _ => .bool false) [9] [] []) () [] [0, 1, 2, 3, 4, 5, 6, 7, 8, 9, 10, 11, 12, 13, 14, 15, 16, 17, 18, 19, 20, 21, 22, 23, 24] [] mixed (by kernel_rfl) (by kernel_rfl) (gPlan_ok (by simp) (by simp)) (gPlan_start _ _ _ _ _) ?_; refine wpPure_nil ?_; simp only [List.map_cons, List.map_nil, Array.getD_eq_getD_getElem?, List.getElem?_toArray, List.getElem?_cons_zero, List.getElem?_cons_succ, Option.getD_some])
                  (repeat (first | (refine wpChain_skip rfl ?_; simp only [Act.put, List.setIfInBounds_toArray, List.set_cons_succ, List.set_cons_zero]) | (refine wpChain_quiet hF rfl rfl rfl ?_; intro K hK; go_big_quiet_op; go_big_quiet_on) | (refine wpChain_pure _ rfl rfl (fun w' _ => by go_simp; try rfl) ?_; simp only [Act.put, List.setIfInBounds_toArray, List.set_cons_succ, List.set_cons_zero])))
                  refine wpChain_gcall 22 #[.agg #[.int .i64 km], .int .i64 sk] rfl rfl (fun w' => by go_simp) (fun w' hb => HH.out w') ?_
                  simp only [Act.put, List.setIfInBounds_toArray, List.set_cons_succ, List.set_cons_zero]
                  (repeat (first | (refine wpChain_skip rfl ?_; simp only [Act.put, List.setIfInBounds_toArray, List.set_cons_succ, List.set_cons_zero]) | (refine wpChain_quiet hF rfl rfl rfl ?_; intro K hK; go_big_quiet_op; go_big_quiet_on) | (refine wpChain_pure _ rfl rfl (fun w' _ => by go_simp; try rfl) ?_; simp only [Act.put, List.setIfInBounds_toArray, List.set_cons_succ, List.set_cons_zero])))
                  refine wpChain_nil (fun w4 hb4 hl4 => ?_)
                  have B4 : Hid (Below wo3.heap.size wo3 w4) := hb4
                  clear hb4 hl4 hF fb f0 f2 hne m0 j2
                  refine onlyN_intro ?_
                  go_wp2_with fail
                  go_roundw
                  case rel => exact ⟨t + 1, by go_num, by omega, by rw [HRR.out], Lib.hid (BI.out.trans (B4.out.mono BI.out.size))⟩
                  case measure => simp [intOf]; omega
                · by_cases hq : bm M S.F sk t < 0
                  · have hr : bm M S.F sk (t + 1) = (t : Int) := by rw [HN.out, if_pos ⟨rfl, .inl hq⟩]
                    have HRR := Lib.hid hr
                    clear hr HN ct
                    generalize bm M S.F sk t = q at *
                    have d1 : decide (q < 0) = true := decide_eq_true hq
                    clear hq hqr
                    go_wp2_with fail
                    (obtain ⟨ι, hne, Fw, fb, hF⟩ := grow_family wo3); have hF : ∀ w', (gPlan wo3 (fun _ => .bool true) [9] [] []).D () w' → ∃ i, w' = Fw i := hF
                    have f0 := fun i => cell_kept (fb i) m0
                    have f2 := fun i => cell_kept (fb i) j2
                    (refine region_chain (gPlan wo3 (fun _ => .bool true) [9] [] []) () [] [0, 1, 2, 3, 4, 5, 6, 7, 8, 9, 10, 11, 12, 13, 14, 15, 16, 17, 18, 19, 20, 21, 22, 23, 24] [] mixed (by kernel_rfl) (by kernel_rfl) (gPlan_ok (by simp) (by simp)) (gPlan_start _ _ _ _ _) ?_; refine wpPure_nil ?_; simp only [List.map_cons, List.map_nil, Array.getD_eq_getD_getElem?, List.getElem?_toArray, List.getElem?_cons_zero, List.getElem?_cons_succ, Option.getD_some])
                    (repeat (first | (refine wpChain_skip rfl ?_; simp only [Act.put, List.setIfInBounds_toArray, List.set_cons_succ, List.set_cons_zero]) | (refine wpChain_quiet hF rfl rfl rfl ?_; intro K hK; go_big_quiet_op; go_big_quiet_on) | (refine wpChain_pure _ rfl rfl (fun w' _ => by go_simp; try rfl) ?_; simp only [Act.put, List.setIfInBounds_toArray, List.set_cons_succ, List.set_cons_zero])))
                    refine wpChain_gcall 22 #[.agg #[.int .i64 km], .int .i64 sk] rfl rfl (fun w' => by go_simp) (fun w' hb => HH.out w') ?_
                    simp only [Act.put, List.setIfInBounds_toArray, List.set_cons_succ, List.set_cons_zero]
                    (repeat (first | (refine wpChain_skip rfl ?_; simp only [Act.put, List.setIfInBounds_toArray, List.set_cons_succ, List.set_cons_zero]) | (refine wpChain_quiet hF rfl rfl rfl ?_; intro K hK; go_big_quiet_op; go_big_quiet_on) | (refine wpChain_pure _ rfl rfl (fun w' _ => by go_simp; try rfl) ?_; simp only [Act.put, List.setIfInBounds_toArray, List.set_cons_succ, List.set_cons_zero])))
                    refine wpChain_nil (fun w4 hb4 hl4 => ?_)
                    have B4 : Hid (Below wo3.heap.size wo3 w4) := hb4
                    clear hb4 hl4 hF fb f0 f2 hne m0 j2
                    refine onlyN_intro ?_
                    go_wp2_with fail
                    go_roundw
                    case rel => exact ⟨t + 1, by go_num, by omega, by rw [HRR.out], Lib.hid (BI.out.trans (B4.out.mono BI.out.size))⟩
                    case measure => simp [intOf]; omega
                  · obtain ⟨p, hp⟩ : ∃ p : Nat, bm M S.F sk t = (p : Int) := ⟨(bm M S.F sk t).toNat, by omega⟩
                    rw [hp] at hqr HN ⊢
                    have hpk : p < k := by omega
                    have cp := Ints.at PS.out.2.2.1 hpk
                    rw [← HSt.out] at cp
                    have tp : (p : Int) < (k : Int) := by omega
                    obtain ⟨fp, hfp⟩ : ∃ fp, fp = S.F p := ⟨_, rfl⟩
                    rw [← hfp] at cp HN
                    clear hp hq hfp
                    have d1 : decide ((p : Int) < 0) = false := decide_eq_false (by omega)
                    by_cases hlt3 : ft < fp
                    · have hr : bm M S.F sk (t + 1) = (t : Int) := by rw [HN.out, if_pos ⟨rfl, .inr hlt3⟩]
                      have HRR := Lib.hid hr
                      have d2 : decide (ft < fp) = true := decide_eq_true hlt3
                      clear hr HN hlt3
                      go_wp2_with fail
                      (obtain ⟨ι, hne, Fw, fb, hF⟩ := grow_family wo3); have hF : ∀ w', (gPlan wo3 (fun _ => .bool true) [9] [] []).D () w' → ∃ i, w' = Fw i := hF
                      have f0 := fun i => cell_kept (fb i) m0
                      have f2 := fun i => cell_kept (fb i) j2
                      have f3 := fun i => cell_kept (fb i) ct
                      have f4 := fun i => cell_kept (fb i) cp
                      (refine region_chain (gPlan wo3 (fun _ => .bool true) [9] [] []) () [] [0, 1, 2, 3, 4, 5, 6, 7, 8, 9, 10, 11, 12, 13, 14, 15, 16, 17, 18, 19, 20, 21, 22, 23, 24] [] mixed (by kernel_rfl) (by kernel_rfl) (gPlan_ok (by simp) (by simp)) (gPlan_start _ _ _ _ _) ?_; refine wpPure_nil ?_; simp only [List.map_cons, List.map_nil, Array.getD_eq_getD_getElem?, List.getElem?_toArray, List.getElem?_cons_zero, List.getElem?_cons_succ, Option.getD_some])
                      (repeat (first | (refine wpChain_skip rfl ?_; simp only [Act.put, List.setIfInBounds_toArray, List.set_cons_succ, List.set_cons_zero]) | (refine wpChain_quiet hF rfl rfl rfl ?_; intro K hK; go_big_quiet_op; go_big_quiet_on) | (refine wpChain_pure _ rfl rfl (fun w' _ => by go_simp; try rfl) ?_; simp only [Act.put, List.setIfInBounds_toArray, List.set_cons_succ, List.set_cons_zero])))
                      refine wpChain_gcall 22 #[.agg #[.int .i64 km], .int .i64 sk] rfl rfl (fun w' => by go_simp) (fun w' hb => HH.out w') ?_
                      simp only [Act.put, List.setIfInBounds_toArray, List.set_cons_succ, List.set_cons_zero]
                      (repeat (first | (refine wpChain_skip rfl ?_; simp only [Act.put, List.setIfInBounds_toArray, List.set_cons_succ, List.set_cons_zero]) | (refine wpChain_quiet hF rfl rfl rfl ?_; intro K hK; go_big_quiet_op; go_big_quiet_on) | (refine wpChain_pure _ rfl rfl (fun w' _ => by go_simp; try rfl) ?_; simp only [Act.put, List.setIfInBounds_toArray, List.set_cons_succ, List.set_cons_zero])))
                      refine wpChain_nil (fun w4 hb4 hl4 => ?_)
                      have B4 : Hid (Below wo3.heap.size wo3 w4) := hb4
                      clear hb4 hl4 hF fb f0 f2 hne m0 j2 f3 f4 ct cp
                      refine onlyN_intro ?_
                      go_wp2_with fail
                      go_roundw
                      case rel => exact ⟨t + 1, by go_num, by omega, by rw [HRR.out], Lib.hid (BI.out.trans (B4.out.mono BI.out.size))⟩
                      case measure => simp [intOf]; omega
                    · have hr : bm M S.F sk (t + 1) = (p : Int) := by rw [HN.out, if_neg (fun hh => hh.2.elim (fun h => absurd h (by omega)) hlt3)]
                      have HRR := Lib.hid hr
                      have d2 : decide (ft < fp) = false := decide_eq_false hlt3
                      clear hr HN hlt3
                      go_wp2_with fail
                      (obtain ⟨ι, hne, Fw, fb, hF⟩ := grow_family wo3); have hF : ∀ w', (gPlan wo3 (fun _ => .bool true) [9] [] []).D () w' → ∃ i, w' = Fw i := hF
                      have f0 := fun i => cell_kept (fb i) m0
                      have f2 := fun i => cell_kept (fb i) j2
                      have f3 := fun i => cell_kept (fb i) ct
                      have f4 := fun i => cell_kept (fb i) cp
                      (refine region_chain (gPlan wo3 (fun _ => .bool true) [9] [] []) () [] [0, 1, 2, 3, 4, 5, 6, 7, 8, 9, 10, 11, 12, 13, 14, 15, 16, 17, 18, 19, 20, 21, 22, 23, 24] [] mixed (by kernel_rfl) (by kernel_rfl) (gPlan_ok (by simp) (by simp)) (gPlan_start _ _ _ _ _) ?_; refine wpPure_nil ?_; simp only [List.map_cons, List.map_nil, Array.getD_eq_getD_getElem?, List.getElem?_toArray, List.getElem?_cons_zero, List.getElem?_cons_succ, Option.getD_some])
                      (repeat (first | (refine wpChain_skip rfl ?_; simp only [Act.put, List.setIfInBounds_toArray, List.set_cons_succ, List.set_cons_zero]) | (refine wpChain_quiet hF rfl rfl rfl ?_; intro K hK; go_big_quiet_op; go_big_quiet_on) | (refine wpChain_pure _ rfl rfl (fun w' _ => by go_simp; try rfl) ?_; simp only [Act.put, List.setIfInBounds_toArray, List.set_cons_succ, List.set_cons_zero])))
                      refine wpChain_gcall 22 #[.agg #[.int .i64 km], .int .i64 sk] rfl rfl (fun w' => by go_simp) (fun w' hb => HH.out w') ?_
                      simp only [Act.put, List.setIfInBounds_toArray, List.set_cons_succ, List.set_cons_zero]
                      (repeat (first | (refine wpChain_skip rfl ?_; simp only [Act.put, List.setIfInBounds_toArray, List.set_cons_succ, List.set_cons_zero]) | (refine wpChain_quiet hF rfl rfl rfl ?_; intro K hK; go_big_quiet_op; go_big_quiet_on) | (refine wpChain_pure _ rfl rfl (fun w' _ => by go_simp; try rfl) ?_; simp only [Act.put, List.setIfInBounds_toArray, List.set_cons_succ, List.set_cons_zero])))
                      refine wpChain_nil (fun w4 hb4 hl4 => ?_)
                      have B4 : Hid (Below wo3.heap.size wo3 w4) := hb4
                      clear hb4 hl4 hF fb f0 f2 hne m0 j2 f3 f4 ct cp
                      refine onlyN_intro ?_
                      go_wp2_with fail
                      go_roundw
                      case rel => exact ⟨t + 1, by go_num, by omega, by rw [HRR.out], Lib.hid (BI.out.trans (B4.out.mono BI.out.size))⟩
                      case measure => simp [intOf]; omega
              · obtain rfl : t = k := by omega
                rw [HSK.out, STP.out.ebm]
                have B3 := Lib.hid BI.out
                have P3 := Lib.hid PS.out
                clear hqr HN BI PS
                obtain ⟨w3, rfl⟩ : ∃ w3 : World, w3 = wr := ⟨_, rfl⟩
                have cu := Ints.at P3.out.2.2.1 huk
                rw [← HSt.out] at cu
                have tu : (u : Int) < (t : Int) := by omega
                have tjq : (j : Int) < (q : Int) := by omega
                obtain ⟨gj, oj, rfl, hgj, j0, j1, j2⟩ := HS.out.job hjm
                have hsb := (HCZ.out j hjm).2.2
                obtain ⟨hsb1, hsb2, _⟩ := hsb
                have hx := STP.out.hx
                have hD := STP.out.hD
                have hnx := HNX.out
                obtain ⟨fu, hfu⟩ : ∃ fu, fu = S.F u := ⟨_, rfl⟩
                obtain ⟨s, hs⟩ : ∃ s, s = (J j).secs := ⟨_, rfl⟩
                rw [← hfu] at cu hf1 hf2 hx
                rw [← hs] at j1 hsb1 hsb2 hx
                have HX := Lib.hid hx
                have HN2 : Hid (st q J t M (n + 1) = ⟨upz S.D j true, upz S.F u (fu + s)⟩) := Lib.hid (by rw [hfu, hs]; exact hnx)
                have hwr : IntKind.i64.wrap (fu + s) = fu + s := IntWalk.i64_in _ (by omega)
                have HDJ := Lib.hid hD
                have j3 := cell_kept P3.out.2.2.2.1 j1
                have hgj3 := cell_lt j3
                have zj := szs hgj3
                have zu := szs (cell_lt cu)
                dsimp only at zj zu
                have J1 := Lib.hid j1
                have STF := Lib.hid hfu
                clear hfu hs hx hD hnx j0 j1 j2 hsb1 hsb2 hlt2 ht hgj hgj3 STP HNX
                go_wp2_with fail
                (obtain ⟨ι, hne, Fw, fb, hF⟩ := grow_family w3); have hF : ∀ w', (gPlan w3 (fun _ => undef) [] [] []).D () w' → ∃ i, w' = Fw i := hF
                have f0 := fun i => cell_kept (fb i) cu
                have f1 := fun i => cell_kept (fb i) j3
                refine region_chain (gPlan w3 (fun _ => undef) [] [(18, fun b => .slice (some ⟨b, 0, none⟩) 1 1, .cells #[.int .i64 j, .int .i64 u, .int .i64 fu, .int .i64 (fu + s)] 43)] []) () [] [0, 1, 2, 3, 4, 5, 6, 7, 8, 9, 10, 11, 12, 13, 14, 15, 16, 17, 18] [19, 20] mixed (by kernel_rfl) (by kernel_rfl) (gPlan_ok (by simp) (by simp)) (gPlan_start _ _ _ _ _) ?_
                refine wpPure_nil ?_
                simp only [List.map_cons, List.map_nil, Array.getD_eq_getD_getElem?, List.getElem?_toArray, List.getElem?_cons_zero, List.getElem?_cons_succ, Option.getD_some]
                (repeat (refine wpChain_quiet hF rfl rfl rfl ?_; intro K hK; go_big_quiet_op; go_big_quiet_on))
                (refine wpChain_alloc _ _ rfl (List.mem_cons_self ..) rfl (fun w' => by go_simp) (fun b1 hb1 => ?_); simp only [Act.put, List.setIfInBounds_toArray, List.set_cons_succ, List.set_cons_zero])
                refine wpChain_nil (fun w4 hb4 hl4 => ?_)
                have hx1 : w4.heap[b1]? = some (.cells #[.int .i64 j, .int .i64 u, .int .i64 fu, .int .i64 (fu + s)] 43) := (hl4.2 (18, b1, .cells #[.int .i64 j, .int .i64 u, .int .i64 fu, .int .i64 (fu + s)] 43) (by simp)).2
                have hb4 : Below w3.heap.size w3 w4 := hb4
                have P4 := Lib.hid (P3.out.below hb4)
                have HX1 := Lib.hid hx1
                clear hb4 hl4 hF fb f0 f1 hx1 cu j3 zj zu P3 P2
                go_wp2_with (at_builtin; refine wpList_append_row _ rfl _ _ 26 rfl w.heap.size 43 i0 _ 4 32 Try.underlying26 hi hz0 hz1 hz2 rfl (by decide) _ n (wf (pl q J t M)) rfl P4.out.1 (wf_len _) b1 1 [.int .i64 j, .int .i64 u, .int .i64 fu, .int .i64 (fu + s)] rfl rfl 43 (0, 0) HX1.out (by intro x hx; simp at hx; rcases hx with rfl | rfl | rfl | rfl <;> rfl) (by omega) (by unfold maxLen; omega) P4.out.2.2.2.1.size ?_)
                intro g' cap wA hcap hcap2 hbg hgl hown hrA hgr
                have OA := Off.of_grown hgr
                have dA := Row.off P4.out.2.1 OA (fun g hg h => by cases hg; exact P4.out.2.2.2.2.1 h.symm)
                have fA := Row.off P4.out.2.2.1 OA (fun g hg h => by cases hg; exact P4.out.2.2.2.2.2 h.symm)
                rw [← HSt.out] at dA fA
                have hgd : g' ≠ bd := fun e => by
                  rcases hown with h | h
                  · exact P4.out.2.2.2.2.1 (by rw [h, e])
                  · have := (Bools.lo P4.out.2.1).2; omega
                have hgf : g' ≠ bf := fun e => by
                  rcases hown with h | h
                  · exact P4.out.2.2.2.2.2 (by rw [h, e])
                  · have := (Ints.lo P4.out.2.2.1).2; omega
                have rA : Row wA w.heap.size 43 4 (.slice (some ⟨g', 0, none⟩) (n + 1) cap) (n + 1) (wf (pl q J t M)) := Row.congr hrA (fun i _ => by
                  by_cases e : i = n
                  · subst e; rw [upd_same]; unfold wf; rw [HX.out]
                  · rw [upd_ne e])
                have bA := P4.out.2.2.2.1.trans (OA.toBelow P4.out.2.2.2.1.size (fun b hb h => by
                  have := (World.ownsRow.lt P4.out.1 b h.symm).1; omega))
                have hnb := HNE.out
                have hnb2 : bf ≠ bd := fun h => HNE.out h.symm
                have cA := Ints.at fA huk
                have dcA := Bools.at dA hjm
                have cfr := Row.free fA u
                have dfr := Row.free dA j
                rw [HDJ.out] at dcA
                have jA := cell_kept bA J1.out
                have zj := szs (cell_lt jA)
                have zu := szs (cell_lt cA)
                have zd := szs (cell_lt dcA)
                dsimp only at zj zu zd
                rw [← STF.out] at cA
                have QA := Lib.hid (And.intro rA (And.intro dA (And.intro fA bA)))
                have HG := Lib.hid (And.intro hgd hgf)
                clear OA dA fA hgd hgf rA bA hrA hgr hown P4 HX1 HDJ
                obtain ⟨wA', rfl⟩ : ∃ wA' : World, wA' = wA := ⟨_, rfl⟩
                go_wp2_with fail
                refine onlyN_intro ?_
                go_wp2_with fail
                (refine region_order (fun i : Nat => World.drewN _ i) [] [0, 1, 2, 3, 4, 5, 6, 7, 8, 9, 10, 11, 12] 13 [] mixed (by kernel_rfl) ⟨1, rfl⟩ ?_; simp only [List.map_cons, List.map_nil, Array.getD_eq_getD_getElem?, List.getElem?_toArray, List.getElem?_cons_zero, List.getElem?_cons_succ, Option.getD_some]; (repeat (refine wpPure_cons _ rfl (fun w' => by go_simp; try rfl) ?_; dsimp only [Act.put])); refine wpPure_nil ?_; (repeat (any_goals (first | go_big_quiet_step (fail) | quiet_step (fail) | (refine wpQuiet_step (fun K hK => ?_); go_simp; split <;> (refine hK _ ?_; clear hK K))))); (all_goals (refine wpQuiet_nil (fun nq => ?_))))
                go_wp2_with fail
                refine onlyN_intro ?_
                go_wp2_with fail
                go_roundw
                case rel => exact ⟨n + 1, by go_num, by have := HLT.out; omega, Lib.hid (PSt.step (Row.off QA.out.1 (X := fun _ => False) (Off.of_below (below_drewN (Below.refl _ _) nq)) (fun _ _ h => h)) (Bools.keep QA.out.2.1 (below_drewN (Below.refl _ _) nq)) (Ints.keep QA.out.2.2.1 (below_drewN (Below.refl _ _) nq)) (below_drewN QA.out.2.2.2 nq) (by simp [Value.ownBlock]; exact HG.out.1) (by simp [Value.ownBlock]; exact HG.out.2) HNE.out huk hjm HN2.out)⟩
                case measure => have := HLT.out; simp [intOf]; omega
      · obtain rfl : n = m := by omega
        have hp := Lib.hid (Planned.done H0.out hrel.out)
        clear hrel
        go_wp2_with fail
        go_returns
        exact hp.out
  · have HP := Lib.hid (fun w' (hb : Below w.heap.size w w') => Planned.fail hc hb)
    generalize chkE m J k M = ce at *
    have tb : (ce != 0) = true := by simp; exact hc
    clear hc
    go_enter Try.func12, Try.ntmps12
    go_wp2_with fail
    refine HC.out.mono ?_
    rintro e w1 ⟨rfl, b1⟩
    have B1 := Lib.hid b1
    clear b1 HC
    go_wp2_with fail
    go_returns
    exact HP.out _ B1.out
end Go.Proofs.Ytanpefjbmpohdaa
