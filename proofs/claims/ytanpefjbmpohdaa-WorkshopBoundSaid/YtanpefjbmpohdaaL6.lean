/- The law WorkshopBound. -/
import Derived.Test.YtanpefjbmpohdaaL1
namespace Go.Proofs.Ytanpefjbmpohdaa
open Go.RowKit Go.ChangeShapes Go.WideShapes Go.Deep
set_option linter.unusedVariables false
set_option linter.unusedSimpArgs false
set_option maxHeartbeats 4000000 in
theorem run_workshopBound {H : Type} {enc : TypeId × Value → H} (W : World) (base : Nat) (v0 : Value) (d0 : DataW H) (p0 : List MemPlace) (hv0 : Value.okWide Try.prog W .any base 22 v0) (h0 : DataW.Trod enc Try.prog W 0 (fun _ => true) true 22 v0 d0 p0)
    (v1 : Value) (d1 : DataW H) (p1 : List MemPlace) (hv1 : Value.okWide Try.prog W .any base 23 v1) (h1 : DataW.Trod enc Try.prog W 0 (fun _ => true) true 23 v1 d1 p1)
    (v2 : Value) (d2 : DataW H) (p2 : List MemPlace) (hv2 : Value.okWide Try.prog W .any base 26 v2) (h2 : DataW.Trod enc Try.prog W 0 (fun _ => true) true 26 v2 d2 p2) :
    Calls Try.prog 6 #[v0, v1, v2] W fun e w' => e = .returned (.bool true) ∧ Below W.heap.size W w' := by
  obtain ⟨ao, m, c, J, rfl, hj, _⟩ := open_jobs hv0 h0
  obtain ⟨am, k, c2, M, rfl, hm, _⟩ := open_mechs hv1 h1
  obtain ⟨al, n, c3, L, rfl, hl, hb⟩ := open_works hv2 h2
  have q1 := hj.hm
  have q2 := hj.hc
  have q3 := hm.hm
  have q4 := hm.hc
  have q5 := hl.hm
  have q6 := hl.hc
  have S := Lib.hid hj
  have T := Lib.hid hm
  have U := Lib.hid hl
  have HT := Lib.hid (fun i (hi : i < n) => (hb i hi).2.2.2)
  have FW := few9 ao am m c k c2 W q1 q2 q3 q4
  generalize fewB m k = f at *
  have HFW := Lib.hid FW
  clear hv0 h0 hv1 h1 hv2 h2 hj hm hl hb FW
  by_cases hf : f = true ∧ n ≤ 40
  · obtain ⟨rfl, hn⟩ := hf
    have tn : (n : Int) ≤ 40 := by omega
    have P1 := Lib.hid (plan11 ao am m c k c2 J M W S.out T.out)
    go_enter Try.func6, Try.ntmps6
    go_wp2_with fail
    refine HFW.out.mono ?_
    rintro e w1 ⟨rfl, rfl⟩
    clear HFW
    go_wp2_with fail
    refine P1.out.mono ?_
    rintro e w2 ⟨a1, cp, rfl, s1, b2⟩
    have r1 := s1.hm
    have r2 := s1.hc
    have B2 := Lib.hid b2
    have S2 := Lib.hid (S.out.below b2)
    have T2 := Lib.hid (T.out.below b2)
    have U2 := Lib.hid (U.out.below b2)
    have L2 := Lib.hid s1
    have P2 := Lib.hid (bound20 ao am m c k c2 J M w2 S2.out T2.out)
    unfold Bnd at P2
    clear b2 s1 P1 S T U
    by_cases hc : chkE m J k M = 0
    · have e1 : plN m J k M = m := by simp [plN, hc]
      rw [e1] at r1 L2 ⊢
      rw [hc] at P2 ⊢
      rw [if_pos rfl] at P2
      have HC := Lib.hid hc
      have hbr := bdK_range hc 8
      have hval := plan_valid hc
      have hbl := bound_le hval
      have hvo : vB m J k M n L = true → bndV m J k M ≤ endL L n := fun h => bound_le (vB_iff.1 h)
      have hgr := graham hc
      have hbv : bdK m J k M 8 = bndV m J k M := rfl
      rw [hbv] at hbr
      have htil : ∀ i, i < m → inI (pl m J k M i).til := fun i hi => by
        obtain ⟨j, u, s⟩ := st_step hc hi
        have h1 := st_bound hc (show i ≤ m by omega) u
        have h2 := fine_secs hc j s.hj
        have h3 := (chk_zero hc).1
        rw [s.hx]
        unfold inI
        dsimp only
        omega
      have hm32 := (chk_zero hc).1
      have HTI := Lib.hid htil
      have HVL := Lib.hid hval
      have HVO := Lib.hid hvo
      have HGR := Lib.hid hgr
      have HBL := Lib.hid hbl
      clear hc hval hvo hgr hbv hbl htil e1
      obtain ⟨bv, hbv⟩ : ∃ bv, bv = bndV m J k M := ⟨_, rfl⟩
      rw [← hbv] at P2 HVO HGR HBL hbr
      obtain ⟨hbr0, hbr1⟩ := hbr
      clear hbv
      go_wp2_with fail
      refine P2.out.mono ?_
      rintro e w3 ⟨rfl, b3⟩
      have B3 := Lib.hid (B2.out.trans (b3.mono B2.out.size))
      have S3 := Lib.hid (S2.out.below b3)
      have T3 := Lib.hid (T2.out.below b3)
      have U3 := Lib.hid (U2.out.below b3)
      have L3 := Lib.hid (L2.out.below b3)
      have C1 := Lib.hid (valid16 ao am a1 m c k c2 m _ J M (pl m J k M) w3 S3.out T3.out L3.out HTI.out)
      rw [vB_iff.2 HVL.out] at C1
      clear b3 P2 S2 T2 U2 L2 B2
      go_wp2_with fail
      refine C1.out.mono ?_
      rintro e w4 ⟨rfl, b4⟩
      have B4 := Lib.hid (B3.out.trans (b4.mono B3.out.size))
      have S4 := Lib.hid (S3.out.below b4)
      have T4 := Lib.hid (T3.out.below b4)
      have U4 := Lib.hid (U3.out.below b4)
      have L4 := Lib.hid (L3.out.below b4)
      have C2 := Lib.hid (valid17 ao am a1 m c k c2 m _ J M (pl m J k M) w4 S4.out T4.out L4.out HTI.out)
      rw [vB_iff.2 HVL.out] at C2
      clear b4 C1 S3 T3 U3 L3 B3
      go_wp2_with fail
      refine C2.out.mono ?_
      rintro e w5 ⟨rfl, b5⟩
      have B5 := Lib.hid (B4.out.trans (b5.mono B4.out.size))
      have S5 := Lib.hid (S4.out.below b5)
      have T5 := Lib.hid (T4.out.below b5)
      have U5 := Lib.hid (U4.out.below b5)
      have L5 := Lib.hid (L4.out.below b5)
      have E1 := Lib.hid (end18 a1 m _ (pl m J k M) w5 L5.out)
      clear b5 C2 S4 T4 U4 L4 B4
      obtain ⟨en, hen⟩ : ∃ en, en = endL (pl m J k M) m := ⟨_, rfl⟩
      have hbl := HBL.out
      rw [← hen] at E1 HGR hbl
      have HEN := Lib.hid hen
      clear hen HBL
      go_wp2_with fail
      refine E1.out.mono ?_
      rintro e w6 ⟨rfl, b6⟩
      have B6 := Lib.hid (B5.out.trans (b6.mono B5.out.size))
      have S6 := Lib.hid (S5.out.below b6)
      have T6 := Lib.hid (T5.out.below b6)
      have U6 := Lib.hid (U5.out.below b6)
      have L6 := Lib.hid (L5.out.below b6)
      have C3 := Lib.hid (valid16 ao am al m c k c2 n c3 J M L w6 S6.out T6.out U6.out HT.out)
      clear b6 E1 S5 T5 U5 L5 B5
      obtain ⟨vo, hvo⟩ : ∃ vo, vo = vB m J k M n L := ⟨_, rfl⟩
      rw [← hvo] at C3 HVO
      clear hvo
      go_wp2_with fail
      refine C3.out.mono ?_
      rintro e w7 ⟨rfl, b7⟩
      have B7 := Lib.hid (B6.out.trans (b7.mono B6.out.size))
      have S7 := Lib.hid (S6.out.below b7)
      have T7 := Lib.hid (T6.out.below b7)
      have U7 := Lib.hid (U6.out.below b7)
      have L7 := Lib.hid (L6.out.below b7)
      clear b7 C3 S6 T6 U6 L6 B6
      cases vo
      · go_wp2_with fail
        obtain ⟨w8, rfl⟩ : ∃ w8 : World, w8 = w7 := ⟨_, rfl⟩
        have B8 := B7
        have S8 := S7
        have T8 := T7
        have L8 := L7
        go_loopw [11] (fun i wr => ∃ t : Nat, i = .int .i64 t ∧ t ≤ m ∧ Hid ((∀ i v, i < t → v < k → hasB (M v) (J i).skill = true) ∧ Below w8.heap.size w8 wr)) (fun i _ => m - (intOf i).toNat)
        case atStart => exact ⟨0, rfl, by omega, Lib.hid ⟨fun i v hi => absurd hi (by omega), Below.refl _ _⟩⟩
        case round =>
          obtain ⟨t, rfl, ht, hrel⟩ := hrel
          have BI := Lib.hid hrel.out.2
          have HI := Lib.hid hrel.out.1
          have BR := Lib.hid (B8.out.trans (BI.out.mono B8.out.size))
          clear hrel
          obtain ⟨wo, rfl⟩ : ∃ wo : World, wo = wr := ⟨_, rfl⟩
          by_cases hlt : t < m
          · have tt : (t : Int) < (m : Int) := by omega
            obtain ⟨sk, hsk⟩ : ∃ sk, sk = (J t).skill := ⟨_, rfl⟩
            have HSK := Lib.hid hsk
            clear hsk
            go_wp2_with fail
            go_loopw [12] (fun i wr => ∃ v : Nat, i = .int .i64 v ∧ v ≤ k ∧ Hid ((∀ v', v' < v → hasB (M v') sk = true) ∧ Below wo.heap.size wo wr)) (fun i _ => k - (intOf i).toNat)
            case atStart => exact ⟨0, rfl, by omega, Lib.hid ⟨fun v hv => absurd hv (by omega), Below.refl _ _⟩⟩
            case round =>
              obtain ⟨v, rfl, hv, hrel⟩ := hrel
              have BJ := Lib.hid hrel.out.2
              have HJ := Lib.hid hrel.out.1
              have BW := Lib.hid (BR.out.trans (BJ.out.mono BR.out.size))
              have B87 := Lib.hid (BI.out.trans (BJ.out.mono BI.out.size))
              clear hrel
              obtain ⟨wi, rfl⟩ : ∃ wi : World, wi = wr := ⟨_, rfl⟩
              by_cases hlv : v < k
              · have tv : (v : Int) < (k : Int) := by omega
                obtain ⟨gj, oj, rfl, hgj, j0, j1, j2⟩ := (S8.out.below B87.out).job hlt
                obtain ⟨gm, om, rfl, hgm, m0⟩ := (T8.out.below B87.out).mech hlv
                have zj := szs hgj
                have zm := szs hgm
                rw [← HSK.out] at j2
                obtain ⟨km, hkm⟩ : ∃ km, km = M v := ⟨_, rfl⟩
                rw [← hkm] at m0
                have HH := Lib.hid (fun w' => has22 km sk w')
                obtain ⟨b, hb⟩ : ∃ b, b = hasB km sk := ⟨_, rfl⟩
                rw [← hb] at HH
                have HBB := Lib.hid (hb.trans (by rw [hkm]))
                clear j0 j1 hkm hb hgj hgm
                go_wp2_with fail
                (obtain ⟨ι, hne, Fw, fb, hF⟩ := grow_family wi); have hF : ∀ w', (gPlan wi (fun _ => .bool b) [9] [] []).D () w' → ∃ i, w' = Fw i := hF
                have f0 := fun i => cell_kept (fb i) m0
                have f2 := fun i => cell_kept (fb i) j2
                clear m0 j2
                (refine region_chain (gPlan wi (fun _ => .bool b) [9] [] []) () [] [0, 1, 2, 3, 4, 5, 6, 7, 8, 9, 10] [] mixed (by kernel_rfl) (by kernel_rfl) (gPlan_ok (by simp) (by simp)) (gPlan_start _ _ _ _ _) ?_; refine wpPure_nil ?_; simp only [List.map_cons, List.map_nil, Array.getD_eq_getD_getElem?, List.getElem?_toArray, List.getElem?_cons_zero, List.getElem?_cons_succ, Option.getD_some])
                (repeat (first | (refine wpChain_skip rfl ?_; simp only [Act.put, List.setIfInBounds_toArray, List.set_cons_succ, List.set_cons_zero]) | (refine wpChain_quiet hF rfl rfl rfl ?_; intro K hK; go_big_quiet_op; go_big_quiet_on) | (refine wpChain_pure _ rfl rfl (fun w' _ => by go_simp; try rfl) ?_; simp only [Act.put, List.setIfInBounds_toArray, List.set_cons_succ, List.set_cons_zero])))
                refine wpChain_gcall 22 #[.agg #[.int .i64 km], .int .i64 sk] rfl rfl (fun w' => by go_simp) (fun w' hb => HH.out w') ?_
                simp only [Act.put, List.setIfInBounds_toArray, List.set_cons_succ, List.set_cons_zero]
                (repeat (first | (refine wpChain_skip rfl ?_; simp only [Act.put, List.setIfInBounds_toArray, List.set_cons_succ, List.set_cons_zero]) | (refine wpChain_quiet hF rfl rfl rfl ?_; intro K hK; go_big_quiet_op; go_big_quiet_on) | (refine wpChain_pure _ rfl rfl (fun w' _ => by go_simp; try rfl) ?_; simp only [Act.put, List.setIfInBounds_toArray, List.set_cons_succ, List.set_cons_zero])))
                refine wpChain_nil (fun w9 hb4 hl4 => ?_)
                have B9 : Hid (Below wi.heap.size wi w9) := hb4
                clear hb4 hl4 hF fb f0 f2 hne
                refine onlyN_intro ?_
                cases b
                · have BX := Lib.hid (BW.out.trans (B9.out.mono BW.out.size))
                  go_wp2_with fail
                  refine (awake10 _).mono ?_
                  rintro e wa ⟨rfl, ba⟩
                  have BA := Lib.hid (BX.out.trans (ba.mono BX.out.size))
                  clear ba
                  go_wp2_with fail
                  go_returns
                  exact ⟨rfl, BA.out⟩
                · go_wp2_with fail
                  go_roundw
                  case rel => exact ⟨v + 1, by go_num, by omega, Lib.hid ⟨fun v' hv' => by
                    by_cases e : v' = v
                    · subst e; exact HBB.out.symm
                    · exact HJ.out v' (by omega), BJ.out.trans (B9.out.mono BJ.out.size)⟩⟩
                  case measure => simp [intOf]; omega
              · obtain rfl : v = k := by omega
                have HN : Hid ((∀ i v', i < t + 1 → v' < v → hasB (M v') (J i).skill = true) ∧ Below w8.heap.size w8 wi) := Lib.hid ⟨fun i v' hi hv' => by
                  by_cases e : i = t
                  · subst e; rw [← HSK.out]; exact HJ.out v' hv'
                  · exact HI.out i v' (by omega) hv', B87.out⟩
                go_wp2_with fail
                go_roundw
                case rel => exact ⟨t + 1, by go_num, by omega, HN⟩
                case measure => simp [intOf]; omega
          · obtain rfl : t = m := by omega
            have hle := HGR.out (fun i v hi hv => HI.out i v hi hv)
            have E3 := Lib.hid (end18 a1 t _ (pl t J k M) wo (L8.out.below BI.out))
            rw [← HEN.out] at E3
            have wm : IntKind.i64.wrap (2 * bv) = 2 * bv := IntWalk.i64_in _ (by omega)
            have td : decide (en ≤ 2 * bv) = true := decide_eq_true hle
            go_wp2_with fail
            refine E3.out.mono ?_
            rintro e w9 ⟨rfl, b9⟩
            have B9 := Lib.hid (BR.out.trans (b9.mono BR.out.size))
            clear b9 E3
            go_wp2_with fail
            refine (awake10 _).mono ?_
            rintro e wa ⟨rfl, ba⟩
            have BA := Lib.hid (B9.out.trans (ba.mono B9.out.size))
            clear ba
            go_wp2_with fail
            go_returns
            exact ⟨rfl, BA.out⟩
      · have hle2 := HVO.out rfl
        have E2 := Lib.hid (end18 al n c3 L w7 U7.out)
        go_wp2_with fail
        refine E2.out.mono ?_
        rintro e w8 ⟨rfl, b8⟩
        have B8 := Lib.hid (B7.out.trans (b8.mono B7.out.size))
        have S8 := Lib.hid (S7.out.below b8)
        have T8 := Lib.hid (T7.out.below b8)
        have L8 := Lib.hid (L7.out.below b8)
        clear b8 E2 B7 S7 T7 L7 U7
        generalize endL L n = en2 at *
        go_wp2_with fail
        go_loopw [11] (fun i wr => ∃ t : Nat, i = .int .i64 t ∧ t ≤ m ∧ Hid ((∀ i v, i < t → v < k → hasB (M v) (J i).skill = true) ∧ Below w8.heap.size w8 wr)) (fun i _ => m - (intOf i).toNat)
        case atStart => exact ⟨0, rfl, by omega, Lib.hid ⟨fun i v hi => absurd hi (by omega), Below.refl _ _⟩⟩
        case round =>
          obtain ⟨t, rfl, ht, hrel⟩ := hrel
          have BI := Lib.hid hrel.out.2
          have HI := Lib.hid hrel.out.1
          have BR := Lib.hid (B8.out.trans (BI.out.mono B8.out.size))
          clear hrel
          obtain ⟨wo, rfl⟩ : ∃ wo : World, wo = wr := ⟨_, rfl⟩
          by_cases hlt : t < m
          · have tt : (t : Int) < (m : Int) := by omega
            obtain ⟨sk, hsk⟩ : ∃ sk, sk = (J t).skill := ⟨_, rfl⟩
            have HSK := Lib.hid hsk
            clear hsk
            go_wp2_with fail
            go_loopw [12] (fun i wr => ∃ v : Nat, i = .int .i64 v ∧ v ≤ k ∧ Hid ((∀ v', v' < v → hasB (M v') sk = true) ∧ Below wo.heap.size wo wr)) (fun i _ => k - (intOf i).toNat)
            case atStart => exact ⟨0, rfl, by omega, Lib.hid ⟨fun v hv => absurd hv (by omega), Below.refl _ _⟩⟩
            case round =>
              obtain ⟨v, rfl, hv, hrel⟩ := hrel
              have BJ := Lib.hid hrel.out.2
              have HJ := Lib.hid hrel.out.1
              have BW := Lib.hid (BR.out.trans (BJ.out.mono BR.out.size))
              have B87 := Lib.hid (BI.out.trans (BJ.out.mono BI.out.size))
              clear hrel
              obtain ⟨wi, rfl⟩ : ∃ wi : World, wi = wr := ⟨_, rfl⟩
              by_cases hlv : v < k
              · have tv : (v : Int) < (k : Int) := by omega
                obtain ⟨gj, oj, rfl, hgj, j0, j1, j2⟩ := (S8.out.below B87.out).job hlt
                obtain ⟨gm, om, rfl, hgm, m0⟩ := (T8.out.below B87.out).mech hlv
                have zj := szs hgj
                have zm := szs hgm
                rw [← HSK.out] at j2
                obtain ⟨km, hkm⟩ : ∃ km, km = M v := ⟨_, rfl⟩
                rw [← hkm] at m0
                have HH := Lib.hid (fun w' => has22 km sk w')
                obtain ⟨b, hb⟩ : ∃ b, b = hasB km sk := ⟨_, rfl⟩
                rw [← hb] at HH
                have HBB := Lib.hid (hb.trans (by rw [hkm]))
                clear j0 j1 hkm hb hgj hgm
                go_wp2_with fail
                (obtain ⟨ι, hne, Fw, fb, hF⟩ := grow_family wi); have hF : ∀ w', (gPlan wi (fun _ => .bool b) [9] [] []).D () w' → ∃ i, w' = Fw i := hF
                have f0 := fun i => cell_kept (fb i) m0
                have f2 := fun i => cell_kept (fb i) j2
                clear m0 j2
                (refine region_chain (gPlan wi (fun _ => .bool b) [9] [] []) () [] [0, 1, 2, 3, 4, 5, 6, 7, 8, 9, 10] [] mixed (by kernel_rfl) (by kernel_rfl) (gPlan_ok (by simp) (by simp)) (gPlan_start _ _ _ _ _) ?_; refine wpPure_nil ?_; simp only [List.map_cons, List.map_nil, Array.getD_eq_getD_getElem?, List.getElem?_toArray, List.getElem?_cons_zero, List.getElem?_cons_succ, Option.getD_some])
                (repeat (first | (refine wpChain_skip rfl ?_; simp only [Act.put, List.setIfInBounds_toArray, List.set_cons_succ, List.set_cons_zero]) | (refine wpChain_quiet hF rfl rfl rfl ?_; intro K hK; go_big_quiet_op; go_big_quiet_on) | (refine wpChain_pure _ rfl rfl (fun w' _ => by go_simp; try rfl) ?_; simp only [Act.put, List.setIfInBounds_toArray, List.set_cons_succ, List.set_cons_zero])))
                refine wpChain_gcall 22 #[.agg #[.int .i64 km], .int .i64 sk] rfl rfl (fun w' => by go_simp) (fun w' hb => HH.out w') ?_
                simp only [Act.put, List.setIfInBounds_toArray, List.set_cons_succ, List.set_cons_zero]
                (repeat (first | (refine wpChain_skip rfl ?_; simp only [Act.put, List.setIfInBounds_toArray, List.set_cons_succ, List.set_cons_zero]) | (refine wpChain_quiet hF rfl rfl rfl ?_; intro K hK; go_big_quiet_op; go_big_quiet_on) | (refine wpChain_pure _ rfl rfl (fun w' _ => by go_simp; try rfl) ?_; simp only [Act.put, List.setIfInBounds_toArray, List.set_cons_succ, List.set_cons_zero])))
                refine wpChain_nil (fun w9 hb4 hl4 => ?_)
                have B9 : Hid (Below wi.heap.size wi w9) := hb4
                clear hb4 hl4 hF fb f0 f2 hne
                refine onlyN_intro ?_
                cases b
                · have BX := Lib.hid (BW.out.trans (B9.out.mono BW.out.size))
                  go_wp2_with fail
                  refine (awake10 _).mono ?_
                  rintro e wa ⟨rfl, ba⟩
                  have BA := Lib.hid (BX.out.trans (ba.mono BX.out.size))
                  clear ba
                  go_wp2_with fail
                  go_returns
                  exact ⟨rfl, BA.out⟩
                · go_wp2_with fail
                  go_roundw
                  case rel => exact ⟨v + 1, by go_num, by omega, Lib.hid ⟨fun v' hv' => by
                    by_cases e : v' = v
                    · subst e; exact HBB.out.symm
                    · exact HJ.out v' (by omega), BJ.out.trans (B9.out.mono BJ.out.size)⟩⟩
                  case measure => simp [intOf]; omega
              · obtain rfl : v = k := by omega
                have HN : Hid ((∀ i v', i < t + 1 → v' < v → hasB (M v') (J i).skill = true) ∧ Below w8.heap.size w8 wi) := Lib.hid ⟨fun i v' hi hv' => by
                  by_cases e : i = t
                  · subst e; rw [← HSK.out]; exact HJ.out v' hv'
                  · exact HI.out i v' (by omega) hv', B87.out⟩
                go_wp2_with fail
                go_roundw
                case rel => exact ⟨t + 1, by go_num, by omega, HN⟩
                case measure => simp [intOf]; omega
          · obtain rfl : t = m := by omega
            have hle := HGR.out (fun i v hi hv => HI.out i v hi hv)
            have E3 := Lib.hid (end18 a1 t _ (pl t J k M) wo (L8.out.below BI.out))
            rw [← HEN.out] at E3
            have wm : IntKind.i64.wrap (2 * bv) = 2 * bv := IntWalk.i64_in _ (by omega)
            have td : decide (en ≤ 2 * bv) = true := decide_eq_true hle
            go_wp2_with fail
            refine E3.out.mono ?_
            rintro e w9 ⟨rfl, b9⟩
            have B9 := Lib.hid (BR.out.trans (b9.mono BR.out.size))
            clear b9 E3
            go_wp2_with fail
            refine (awake10 _).mono ?_
            rintro e wa ⟨rfl, ba⟩
            have BA := Lib.hid (B9.out.trans (ba.mono B9.out.size))
            clear ba
            go_wp2_with fail
            go_returns
            exact ⟨rfl, BA.out⟩
    · have e1 : plN m J k M = 0 := by simp [plN, hc]
      rw [e1] at r1 L2 ⊢
      rw [if_neg hc] at P2
      have HV : Hid (vB m J k M n L = false) := Lib.hid (vB_chk hc)
      generalize chkE m J k M = ce at *
      have tb : (ce != 0) = true := by simp; exact hc
      have tce : (ce == ce) = true := by simp
      clear hc e1
      go_wp2_with fail
      refine P2.out.mono ?_
      rintro e w3 ⟨rfl, b3⟩
      have B3 := Lib.hid (B2.out.trans (b3.mono B2.out.size))
      have C1 := Lib.hid (valid16 ao am al m c k c2 n c3 J M L w3 (S2.out.below b3) (T2.out.below b3) (U2.out.below b3) HT.out)
      rw [HV.out] at C1
      clear b3 P2 S2 T2 U2 L2 B2
      go_wp2_with fail
      refine C1.out.mono ?_
      rintro e w4 ⟨rfl, b4⟩
      have B4 := Lib.hid (B3.out.trans (b4.mono B3.out.size))
      clear b4 C1 B3
      go_wp2_with fail
      refine (awake10 _).mono ?_
      rintro e w6 ⟨rfl, b6⟩
      have B6 := Lib.hid (B4.out.trans (b6.mono B4.out.size))
      clear b6 B4
      go_wp2_with fail
      go_returns
      exact ⟨rfl, B6.out⟩
  · cases f
    · go_enter Try.func6, Try.ntmps6
      go_wp2_with fail
      refine HFW.out.mono ?_
      rintro e w1 ⟨rfl, rfl⟩
      clear HFW
      go_wp2_with fail
      refine (awake10 _).mono ?_
      rintro e w2 ⟨rfl, b2⟩
      have B2 := Lib.hid b2
      clear b2
      go_wp2_with fail
      go_returns
      exact ⟨rfl, B2.out⟩
    · have tn : (40 : Int) < (n : Int) := by
        have : ¬ n ≤ 40 := fun h => hf ⟨rfl, h⟩
        omega
      clear hf
      go_enter Try.func6, Try.ntmps6
      go_wp2_with fail
      refine HFW.out.mono ?_
      rintro e w1 ⟨rfl, rfl⟩
      clear HFW
      go_wp2_with fail
      refine (awake10 _).mono ?_
      rintro e w2 ⟨rfl, b2⟩
      have B2 := Lib.hid b2
      clear b2
      go_wp2_with fail
      go_returns
      exact ⟨rfl, B2.out⟩
end Go.Proofs.Ytanpefjbmpohdaa
