/- The law WorkshopBusy. -/
import Derived.Test.YtanpefjbmpohdaaL1
namespace Go.Proofs.Ytanpefjbmpohdaa
open Go.RowKit Go.ChangeShapes Go.WideShapes Go.Deep
set_option linter.unusedVariables false
set_option linter.unusedSimpArgs false
set_option maxHeartbeats 8000000 in
set_option maxRecDepth 100000 in
theorem run_workshopBusy {H : Type} {enc : TypeId × Value → H} (W : World) (base : Nat) (v0 : Value) (d0 : DataW H) (p0 : List MemPlace) (hv0 : Value.okWide Try.prog W .any base 22 v0) (h0 : DataW.Trod enc Try.prog W 0 (fun _ => true) true 22 v0 d0 p0)
    (v1 : Value) (d1 : DataW H) (p1 : List MemPlace) (hv1 : Value.okWide Try.prog W .any base 23 v1) (h1 : DataW.Trod enc Try.prog W 0 (fun _ => true) true 23 v1 d1 p1) :
    Calls Try.prog 7 #[v0, v1] W fun e w' => e = .returned (.bool true) ∧ Below W.heap.size W w' := by
  obtain ⟨ao, m, c, J, rfl, hj, _⟩ := open_jobs hv0 h0
  obtain ⟨am, k, c2, M, rfl, hm, _⟩ := open_mechs hv1 h1
  have q1 := hj.hm
  have q2 := hj.hc
  have q3 := hm.hm
  have q4 := hm.hc
  have S := Lib.hid hj
  have T := Lib.hid hm
  have FW := few9 ao am m c k c2 W q1 q2 q3 q4
  generalize fewB m k = f at *
  have HFW := Lib.hid FW
  clear hv0 h0 hv1 h1 hj hm FW
  go_enter Try.func7, Try.ntmps7
  go_wp2_with fail
  refine HFW.out.mono ?_
  rintro e w1 ⟨rfl, rfl⟩
  cases f
  · go_wp2_with fail
    refine (awake10 _).mono ?_
    rintro e w2 ⟨rfl, b2⟩
    have B2 := Lib.hid b2
    clear b2
    go_wp2_with fail
    go_returns
    exact ⟨rfl, B2.out⟩
  · have P1 := Lib.hid (plan11 ao am m c k c2 J M W S.out T.out)
    clear HFW
    go_wp2_with fail
    refine P1.out.mono ?_
    rintro e w1 ⟨a1, cp, rfl, s1, b1⟩
    have r1 := s1.hm
    have r2 := s1.hc
    have B1 := Lib.hid b1
    have S1 := Lib.hid (S.out.below b1)
    have T1 := Lib.hid (T.out.below b1)
    have L1 := Lib.hid s1
    clear b1 s1 P1 S T
    by_cases hc : chkE m J k M = 0
    · have e1 : plN m J k M = m := by simp [plN, hc]
      rw [e1] at r1 L1 ⊢
      rw [hc]
      have hm32 := (chk_zero hc).1
      have hk8 := (chk_zero hc).2.1
      have HC := Lib.hid hc
      have hmk2 := mkI k (by omega)
      obtain ⟨MI, hMI⟩ : ∃ MK, MK = madeCells #[.int .i64 0] (k * 1) := ⟨_, rfl⟩
      rw [← hMI] at hmk2
      have HMI := Lib.hid hMI
      clear hc e1 hMI
      go_wp2_with fail
      obtain ⟨bf, hbf⟩ : ∃ bf, bf = w1.heap.size := ⟨_, rfl⟩
      have F0 : Hid (Ints (w1.alloc (.cells MI 3)) w1.heap.size bf k (st m J k M 0).F ∧ Below w1.heap.size w1 (w1.alloc (.cells MI 3))) := Lib.hid ⟨Ints.made (by rw [hbf, ← HMI.out]; exact heap_alloc_new w1 _) (by omega) (by omega), (Below.refl _ _).alloc (Nat.le_refl _) _⟩
      rw [← hbf]
      clear hbf hmk2 HMI
      generalize w1.alloc (.cells MI 3) = ws at *
      go_loopw [8] (fun i wr => ∃ t : Nat, i = .int .i64 t ∧ t ≤ m ∧ Hid (Ints wr w1.heap.size bf k (st m J k M t).F ∧ Below w1.heap.size w1 wr)) (fun i _ => m - (intOf i).toNat)
      case atStart => exact ⟨0, rfl, by omega, F0⟩
      case round =>
        clear F0
        obtain ⟨t, rfl, ht, hrel⟩ := hrel
        by_cases hlt : t < m
        · have tt : (t : Int) < (m : Int) := by omega
          obtain ⟨wo, rfl⟩ : ∃ wo : World, wo = wr := ⟨_, rfl⟩
          obtain ⟨j, u, stp⟩ := st_step HC.out hlt
          have SB := st_bound HC.out ht u
          have hnx : st m J k M (t + 1) = _ := stp.next
          have hjm := stp.hj
          have huk := stp.hu
          have hpl := stp.hx
          have hord : ∀ t', t = t' + 1 → ∃ a : Nat, (pl m J k M t').job = a ∧ a < m ∧ (J j).secs ≤ (J a).secs ∧ ((J a).secs = (J j).secs → a < j) := fun t' e => by
            subst e
            obtain ⟨a, ua, sa⟩ := st_step HC.out (show t' < m by omega)
            have := plan_order HC.out hlt sa stp
            exact ⟨a, by rw [sa.hx], sa.hj, this⟩
          have hfr := stp.free
          obtain ⟨F, hF0⟩ : ∃ F, F = (st m J k M t).F := ⟨_, rfl⟩
          rw [← hF0] at SB hnx hpl hfr
          obtain ⟨fu, hfu⟩ : ∃ fu, fu = F u := ⟨_, rfl⟩
          obtain ⟨s, hs⟩ : ∃ s, s = (J j).secs := ⟨_, rfl⟩
          have hsb := fine_secs HC.out j hjm
          rw [← hfu] at SB hnx hpl hfr
          rw [← hs] at hnx hpl hord hsb
          obtain ⟨sb0, sb1⟩ := SB
          obtain ⟨hs1, hs2⟩ := hsb
          have HIN := hrel
          have HNX := Lib.hid hnx
          have HOR := Lib.hid hord
          have HFR := Lib.hid hfr
          have HF0 := Lib.hid hF0
          have hFU := Lib.hid hfu
          have HSE := Lib.hid hs
          obtain ⟨g, o, rfl, hg, y0, y1, y2, y3⟩ := (L1.out.below hrel.out.2).work hlt
          rw [hpl] at y0 y1 y2 y3
          dsimp only at y0 y1 y2 y3
          have zg := szs hg
          obtain ⟨gj, oj, rfl, hgj, j0, j1, j2⟩ := (S1.out.below hrel.out.2).job hjm
          rw [← hs] at j1
          have zj := szs hgj
          have cu := Ints.at hrel.out.1 huk
          rw [← hF0, ← hfu] at cu
          have zu := szs (cell_lt cu)
          dsimp only at zu
          have wfs : IntKind.i64.wrap (fu + s) = fu + s := IntWalk.i64_in _ (by omega)
          have t1 : (j : Int) < (m : Int) := by omega
          have t2 : (u : Int) < (k : Int) := by omega
          have d1 : decide ((j : Int) < 0) = false := decide_eq_false (by omega)
          have d2 : decide ((m : Int) ≤ (j : Int)) = false := decide_eq_false (by omega)
          have d3 : decide (m ≤ j) = false := decide_eq_false (by omega)
          have d4 : decide ((u : Int) < 0) = false := decide_eq_false (by omega)
          have d5 : decide ((k : Int) ≤ (u : Int)) = false := decide_eq_false (by omega)
          have d6 : decide (k ≤ u) = false := decide_eq_false (by omega)
          have d7 : (fu != fu) = false := by simp
          have d8 : (fu + s != fu + s) = false := by simp
          clear hrel hF0 hfu hs hnx hpl hord hfr hg hgj j0 j2 stp
          go_wp2_with fail
          obtain ⟨w2, hw2⟩ : ∃ w2, w2 = wo.alloc (.cells #[.int .i64 j, .int .i64 u, .int .i64 fu, .int .i64 (fu + s)] 43) := ⟨_, rfl⟩
          rw [← hw2]
          have b2 : Below wo.heap.size wo w2 := by rw [hw2]; exact (Below.refl _ _).alloc (Nat.le_refl _) _
          have x2 : w2.heap[wo.heap.size]? = some (.cells #[.int .i64 j, .int .i64 u, .int .i64 fu, .int .i64 (fu + s)] 43) := by rw [hw2]; exact heap_alloc_new wo _
          have j1' := cell_kept b2 j1
          have cu' := cell_kept b2 cu
          have c0 : w2.cell? ⟨wo.heap.size, 0, none⟩ = some (.int .i64 j) := cell_at x2 0
          have c1 : w2.cell? ⟨wo.heap.size, 1, none⟩ = some (.int .i64 u) := cell_at x2 1
          have c3 : w2.cell? ⟨wo.heap.size, 2, none⟩ = some (.int .i64 fu) := cell_at x2 2
          have c4 : w2.cell? ⟨wo.heap.size, 3, none⟩ = some (.int .i64 (fu + s)) := cell_at x2 3
          have zx := szs (block_lt x2)
          have B2 := Lib.hid b2
          have X2 := Lib.hid x2
          clear hw2 b2 x2 y0 y1 y2 y3 j1 cu zg zj zu
          (focus (refine region_all (fun i : Nat => World.drewN _ i) mixed (by kernel_rfl) ⟨1, rfl⟩ ?_; (repeat (any_goals (first | go_big_quiet_step (fail) | quiet_step (fail) | (refine wpQuiet_step (fun K hK => ?_); go_simp; split <;> (refine hK _ ?_; clear hK K))))); (all_goals (refine wpQuiet_nil (fun nq => ?_)))))
          obtain ⟨w3, hw3⟩ : ∃ w3, w3 = w2.drewN nq := ⟨_, rfl⟩
          rw [← hw3]
          have b3 : Below w2.heap.size w2 w3 := by rw [hw3]; exact below_drewN (Below.refl _ _) nq
          have X3 := Lib.hid ((b3.block _ (block_lt X2.out)).trans X2.out)
          have B3 := Lib.hid (B2.out.trans (b3.mono B2.out.size))
          have I3 := Lib.hid (And.intro (Ints.keep HIN.out.1 B3.out) (HIN.out.2.trans (B3.out.mono HIN.out.2.size)))
          clear hw3 b3 j1' cu' c0 c1 c3 c4 zx X2 B2 HIN wfs d1 d2 d3 d4 d5 d6 d7 d8 B3
          have key : ∀ w4, Below w3.heap.size w3 w4 → Hid (Ints w4 w1.heap.size bf k F ∧ Below w1.heap.size w1 w4 ∧ w4.heap[wo.heap.size]? = some (.cells #[.int .i64 j, .int .i64 u, .int .i64 fu, .int .i64 (fu + s)] 43)) := fun w4 b => Lib.hid ⟨by rw [HF0.out]; exact Ints.keep I3.out.1 b, I3.out.2.trans (b.mono I3.out.2.size), (b.block _ (block_lt X3.out)).trans X3.out⟩
          have KEY := Lib.hid key
          clear key
          by_cases ht0 : t = 0
          · have tz : decide ((0 : Int) < (t : Int)) = false := decide_eq_false (by omega)
            have tz2 : (t : Int) ≤ 0 := by omega
            go_wp2_with fail
            have K4 := KEY.out w3 (Below.refl _ _)
            obtain ⟨w4, rfl⟩ : ∃ w4 : World, w4 = w3 := ⟨_, rfl⟩
            go_loopw [12] (fun i wr => ∃ v : Nat, i = .int .i64 v ∧ v ≤ k ∧ Hid (Below w4.heap.size w4 wr)) (fun i _ => k - (intOf i).toNat)
            case atStart => exact ⟨0, rfl, by omega, Lib.hid (Below.refl _ _)⟩
            case round =>
              obtain ⟨v, rfl, hv, hrel⟩ := hrel
              have BJ := hrel
              clear hrel
              obtain ⟨wi, rfl⟩ : ∃ wi : World, wi = wr := ⟨_, rfl⟩
              have BI1 := Lib.hid (K4.out.2.1.trans (BJ.out.mono K4.out.2.1.size))
              have xi := (BJ.out.block _ (block_lt K4.out.2.2)).trans K4.out.2.2
              have zx := szs (block_lt xi)
              have c1 : wi.cell? ⟨wo.heap.size, 1, none⟩ = some (.int .i64 u) := cell_at xi 1
              by_cases hlv : v < k
              · have tv : (v : Int) < (k : Int) := by omega
                have c0 : wi.cell? ⟨wo.heap.size, 0, none⟩ = some (.int .i64 j) := cell_at xi 0
                have c3 : wi.cell? ⟨wo.heap.size, 2, none⟩ = some (.int .i64 fu) := cell_at xi 2
                obtain ⟨_, _, e', hgj, j0, j1, j2⟩ := (S1.out.below BI1.out).job hjm
                cases e'
                obtain ⟨gm, om, rfl, hgm, m0⟩ := (T1.out.below BI1.out).mech hlv
                have zj := szs hgj
                have zm := szs hgm
                have cv := Ints.at (Ints.keep K4.out.1 BJ.out) hlv
                have zv := szs (cell_lt cv)
                dsimp only at zv
                have hfr := HFR.out v hlv
                obtain ⟨fv, hfv⟩ : ∃ fv, fv = F v := ⟨_, rfl⟩
                rw [← hfv] at cv hfr
                obtain ⟨km, hkm⟩ : ∃ km, km = M v := ⟨_, rfl⟩
                obtain ⟨sk, hsk⟩ : ∃ sk, sk = (J j).skill := ⟨_, rfl⟩
                rw [← hsk] at j2 hfr
                rw [← hkm] at m0 hfr
                have HH := Lib.hid (fun w' => has22 km sk w')
                obtain ⟨b, hb⟩ : ∃ b, b = hasB km sk := ⟨_, rfl⟩
                rw [← hb] at HH hfr
                clear hfv hkm hsk hb j0 j1 hgj hgm xi
                cases b
                · clear hfr
                  go_wp2_with fail
                  (obtain ⟨ι, hne, Fw, fb, hF⟩ := grow_family wi); have hF : ∀ w', (gPlan wi (fun _ => .bool false) [10] [] []).D () w' → ∃ i, w' = Fw i := hF
                  have f0 := fun i => cell_kept (fb i) m0
                  have f2 := fun i => cell_kept (fb i) j2
                  have g0 := fun i => cell_kept (fb i) c0
                  have g1 := fun i => cell_kept (fb i) c1
                  have g2 := fun i => cell_kept (fb i) c3
                  have g4 := fun i => cell_kept (fb i) cv
                  clear m0 j2 c0 c1 c3 cv
                  (refine region_chain (gPlan wi (fun _ => .bool false) [10] [] []) () [] [0, 1, 2, 3, 4, 5, 6, 7, 8, 9, 10, 11, 12, 13, 14, 15, 16, 17, 18, 19, 20, 21, 22, 23, 24, 25, 26, 27, 28, 29, 30, 31, 32, 33, 34] [] mixed (by kernel_rfl) (by kernel_rfl) (gPlan_ok (by simp) (by simp)) (gPlan_start _ _ _ _ _) ?_; refine wpPure_nil ?_; simp only [List.map_cons, List.map_nil, Array.getD_eq_getD_getElem?, List.getElem?_toArray, List.getElem?_cons_zero, List.getElem?_cons_succ, Option.getD_some])
                  (repeat (first | (refine wpChain_skip rfl ?_; simp only [Act.put, List.setIfInBounds_toArray, List.set_cons_succ, List.set_cons_zero]) | (refine wpChain_quiet hF rfl rfl rfl ?_; intro K hK; go_big_quiet_op; go_big_quiet_on) | (refine wpChain_pure _ rfl rfl (fun w' _ => by go_simp; try rfl) ?_; simp only [Act.put, List.setIfInBounds_toArray, List.set_cons_succ, List.set_cons_zero])))
                  refine wpChain_gcall 22 #[.agg #[.int .i64 km], .int .i64 sk] rfl rfl (fun w' => by go_simp) (fun w' hb => HH.out w') ?_
                  simp only [Act.put, List.setIfInBounds_toArray, List.set_cons_succ, List.set_cons_zero]
                  (repeat (first | (refine wpChain_skip rfl ?_; simp only [Act.put, List.setIfInBounds_toArray, List.set_cons_succ, List.set_cons_zero]) | (refine wpChain_quiet hF rfl rfl rfl ?_; intro K hK; go_big_quiet_op; go_big_quiet_on) | (refine wpChain_pure _ rfl rfl (fun w' _ => by go_simp; try rfl) ?_; simp only [Act.put, List.setIfInBounds_toArray, List.set_cons_succ, List.set_cons_zero])))
                  refine wpChain_nil (fun w9 hb4 hl4 => ?_)
                  have B9 : Hid (Below wi.heap.size wi w9) := hb4
                  clear hb4 hl4 hF fb f0 f2 g0 g1 g2 g4 hne
                  refine onlyN_intro ?_
                  go_wp2_with fail
                  go_roundw
                  case rel => exact ⟨v + 1, by go_num, by omega, Lib.hid (BJ.out.trans (B9.out.mono BJ.out.size))⟩
                  case measure => simp [intOf]; omega
                · obtain ⟨h1, h2⟩ := hfr rfl
                  have d1 : decide (fv < fu) = false := decide_eq_false (by omega)
                  by_cases he : fv = fu
                  · have d2 : (fv == fu) = true := by simp [he]
                    have hvu : ¬ v < u := fun h => by have := h2 h; omega
                    have d3 : decide ((v : Int) < (u : Int)) = false := decide_eq_false (by omega)
                    have d4 : decide (v < u) = false := decide_eq_false (by omega)
                    clear he h1 h2 hfr hvu
                    go_wp2_with fail
                    (obtain ⟨ι, hne, Fw, fb, hF⟩ := grow_family wi); have hF : ∀ w', (gPlan wi (fun _ => .bool true) [10] [] []).D () w' → ∃ i, w' = Fw i := hF
                    have f0 := fun i => cell_kept (fb i) m0
                    have f2 := fun i => cell_kept (fb i) j2
                    have g0 := fun i => cell_kept (fb i) c0
                    have g1 := fun i => cell_kept (fb i) c1
                    have g2 := fun i => cell_kept (fb i) c3
                    have g4 := fun i => cell_kept (fb i) cv
                    clear m0 j2 c0 c1 c3 cv
                    (refine region_chain (gPlan wi (fun _ => .bool true) [10] [] []) () [] [0, 1, 2, 3, 4, 5, 6, 7, 8, 9, 10, 11, 12, 13, 14, 15, 16, 17, 18, 19, 20, 21, 22, 23, 24, 25, 26, 27, 28, 29, 30, 31, 32, 33, 34] [] mixed (by kernel_rfl) (by kernel_rfl) (gPlan_ok (by simp) (by simp)) (gPlan_start _ _ _ _ _) ?_; refine wpPure_nil ?_; simp only [List.map_cons, List.map_nil, Array.getD_eq_getD_getElem?, List.getElem?_toArray, List.getElem?_cons_zero, List.getElem?_cons_succ, Option.getD_some])
                    (repeat (first | (refine wpChain_skip rfl ?_; simp only [Act.put, List.setIfInBounds_toArray, List.set_cons_succ, List.set_cons_zero]) | (refine wpChain_quiet hF rfl rfl rfl ?_; intro K hK; go_big_quiet_op; go_big_quiet_on) | (refine wpChain_pure _ rfl rfl (fun w' _ => by go_simp; try rfl) ?_; simp only [Act.put, List.setIfInBounds_toArray, List.set_cons_succ, List.set_cons_zero])))
                    refine wpChain_gcall 22 #[.agg #[.int .i64 km], .int .i64 sk] rfl rfl (fun w' => by go_simp) (fun w' hb => HH.out w') ?_
                    simp only [Act.put, List.setIfInBounds_toArray, List.set_cons_succ, List.set_cons_zero]
                    (repeat (first | (refine wpChain_skip rfl ?_; simp only [Act.put, List.setIfInBounds_toArray, List.set_cons_succ, List.set_cons_zero]) | (refine wpChain_quiet hF rfl rfl rfl ?_; intro K hK; go_big_quiet_op; go_big_quiet_on) | (refine wpChain_pure _ rfl rfl (fun w' _ => by go_simp; try rfl) ?_; simp only [Act.put, List.setIfInBounds_toArray, List.set_cons_succ, List.set_cons_zero])))
                    refine wpChain_nil (fun w9 hb4 hl4 => ?_)
                    have B9 : Hid (Below wi.heap.size wi w9) := hb4
                    clear hb4 hl4 hF fb f0 f2 g0 g1 g2 g4 hne
                    refine onlyN_intro ?_
                    go_wp2_with fail
                    go_roundw
                    case rel => exact ⟨v + 1, by go_num, by omega, Lib.hid (BJ.out.trans (B9.out.mono BJ.out.size))⟩
                    case measure => simp [intOf]; omega
                  · have d2 : (fv == fu) = false := by simp [he]
                    clear he h1 h2 hfr
                    go_wp2_with fail
                    (obtain ⟨ι, hne, Fw, fb, hF⟩ := grow_family wi); have hF : ∀ w', (gPlan wi (fun _ => .bool true) [10] [] []).D () w' → ∃ i, w' = Fw i := hF
                    have f0 := fun i => cell_kept (fb i) m0
                    have f2 := fun i => cell_kept (fb i) j2
                    have g0 := fun i => cell_kept (fb i) c0
                    have g1 := fun i => cell_kept (fb i) c1
                    have g2 := fun i => cell_kept (fb i) c3
                    have g4 := fun i => cell_kept (fb i) cv
                    clear m0 j2 c0 c1 c3 cv
                    (refine region_chain (gPlan wi (fun _ => .bool true) [10] [] []) () [] [0, 1, 2, 3, 4, 5, 6, 7, 8, 9, 10, 11, 12, 13, 14, 15, 16, 17, 18, 19, 20, 21, 22, 23, 24, 25, 26, 27, 28, 29, 30, 31, 32, 33, 34] [] mixed (by kernel_rfl) (by kernel_rfl) (gPlan_ok (by simp) (by simp)) (gPlan_start _ _ _ _ _) ?_; refine wpPure_nil ?_; simp only [List.map_cons, List.map_nil, Array.getD_eq_getD_getElem?, List.getElem?_toArray, List.getElem?_cons_zero, List.getElem?_cons_succ, Option.getD_some])
                    (repeat (first | (refine wpChain_skip rfl ?_; simp only [Act.put, List.setIfInBounds_toArray, List.set_cons_succ, List.set_cons_zero]) | (refine wpChain_quiet hF rfl rfl rfl ?_; intro K hK; go_big_quiet_op; go_big_quiet_on) | (refine wpChain_pure _ rfl rfl (fun w' _ => by go_simp; try rfl) ?_; simp only [Act.put, List.setIfInBounds_toArray, List.set_cons_succ, List.set_cons_zero])))
                    refine wpChain_gcall 22 #[.agg #[.int .i64 km], .int .i64 sk] rfl rfl (fun w' => by go_simp) (fun w' hb => HH.out w') ?_
                    simp only [Act.put, List.setIfInBounds_toArray, List.set_cons_succ, List.set_cons_zero]
                    (repeat (first | (refine wpChain_skip rfl ?_; simp only [Act.put, List.setIfInBounds_toArray, List.set_cons_succ, List.set_cons_zero]) | (refine wpChain_quiet hF rfl rfl rfl ?_; intro K hK; go_big_quiet_op; go_big_quiet_on) | (refine wpChain_pure _ rfl rfl (fun w' _ => by go_simp; try rfl) ?_; simp only [Act.put, List.setIfInBounds_toArray, List.set_cons_succ, List.set_cons_zero])))
                    refine wpChain_nil (fun w9 hb4 hl4 => ?_)
                    have B9 : Hid (Below wi.heap.size wi w9) := hb4
                    clear hb4 hl4 hF fb f0 f2 g0 g1 g2 g4 hne
                    refine onlyN_intro ?_
                    go_wp2_with fail
                    go_roundw
                    case rel => exact ⟨v + 1, by go_num, by omega, Lib.hid (BJ.out.trans (B9.out.mono BJ.out.size))⟩
                    case measure => simp [intOf]; omega
              · obtain rfl : v = k := by omega
                have c4 : wi.cell? ⟨wo.heap.size, 3, none⟩ = some (.int .i64 (fu + s)) := cell_at xi 3
                have ci := Ints.at (Ints.keep K4.out.1 BJ.out) huk
                have cfr := Row.free (Ints.keep K4.out.1 BJ.out) u
                have zu := szs (cell_lt ci)
                dsimp only at zu
                have hlo := (Ints.lo (Ints.keep K4.out.1 BJ.out)).1
                have HN : Hid (Ints (wi.setCell ⟨bf, u, none⟩ (.int .i64 (fu + s))) w1.heap.size bf v (st m J v M (t + 1)).F ∧ Below w1.heap.size w1 (wi.setCell ⟨bf, u, none⟩ (.int .i64 (fu + s)))) := Lib.hid ⟨by rw [HNX.out]; exact Ints.put (Ints.keep K4.out.1 BJ.out) huk (fu + s), BI1.out.setCell (by show _ ≤ bf; exact hlo) _⟩
                clear xi
                go_wp2_with fail
                go_roundw
                case rel => exact ⟨t + 1, by go_num, by omega, HN⟩
                case measure => simp [intOf]; omega
          · obtain ⟨t', rfl⟩ : ∃ t', t = t' + 1 := ⟨t - 1, by omega⟩
            obtain ⟨a, ha1, ha2, ha3, ha4⟩ := HOR.out t' rfl
            obtain ⟨_, _, e', hg', p0, p1, p2, p3⟩ := (L1.out.below I3.out.2).work (show t' < m by omega)
            cases e'
            rw [ha1] at p0
            have zg := szs hg'
            obtain ⟨_, _, e', hgj, q0, q1, q2⟩ := (S1.out.below I3.out.2).job ha2
            cases e'
            obtain ⟨sa, hsa⟩ : ∃ sa, sa = (J a).secs := ⟨_, rfl⟩
            rw [← hsa] at q1 ha3 ha4
            have zj := szs hgj
            have c0 : w3.cell? ⟨wo.heap.size, 0, none⟩ = some (.int .i64 j) := cell_at X3.out 0
            have zx := szs (block_lt X3.out)
            have tz : (0 : Int) < ((t' + 1 : Nat) : Int) := by omega
            have tw : IntKind.i64.wrap (((t' + 1 : Nat) : Int) - 1) = (t' : Int) := by rw [IntWalk.i64_in _ (by omega)]; omega
            have tp : (t' : Int) < (m : Int) := by omega
            have ta : (a : Int) < (m : Int) := by omega
            have hj1 := (S1.out.below I3.out.2).job hjm
            obtain ⟨_, _, e', _, _, j1, _⟩ := hj1
            cases e'
            have hs3 : Hid (s = (J j).secs) := HSE
            rw [← hs3.out] at j1
            clear hsa p1 p2 p3 q0 q2 hg' hgj ha1
            go_wp2_with fail
            (focus (refine region_all (fun i : Nat => World.drewN _ i) mixed (by kernel_rfl) ⟨1, rfl⟩ ?_; (repeat (any_goals (first | go_big_quiet_step (fail) | quiet_step (fail) | (refine wpQuiet_step (fun K hK => ?_); go_simp; split <;> (refine hK _ ?_; clear hK K))))); (all_goals (refine wpQuiet_nil (fun nq => ?_)))))
            obtain ⟨w5, hw5⟩ : ∃ w5, w5 = w3.drewN nq := ⟨_, rfl⟩
            go_wp2_with fail
            rw [← hw5]
            have b5 : Below w3.heap.size w3 w5 := by rw [hw5]; exact below_drewN (Below.refl _ _) nq
            have q5 := cell_kept b5 q1
            have j5 := cell_kept b5 j1
            have z5 := szs (cell_lt j5)
            dsimp only at z5
            have B5 := Lib.hid b5
            clear hw5 b5 q1 j1 p0 c0 zx zj zg tw
            have e1 : decide (sa < s) = false := decide_eq_false (by omega)
            by_cases hq : sa = s
            · have e2 : (sa == s) = true := by simp [hq]
              have haj := ha4 hq
              have e3 : decide ((j : Int) ≤ (a : Int)) = false := decide_eq_false (by omega)
              have e4 : decide (j ≤ a) = false := decide_eq_false (by omega)
              clear hq ha3 ha4 haj
              go_wp2_with fail
              (focus (refine region_all (fun i : Nat => World.drewN _ i) mixed (by kernel_rfl) ⟨1, rfl⟩ ?_; (repeat (any_goals (first | go_big_quiet_step (fail) | quiet_step (fail) | (refine wpQuiet_step (fun K hK => ?_); go_simp; split <;> (refine hK _ ?_; clear hK K))))); (all_goals (refine wpQuiet_nil (fun nq => ?_)))))
              obtain ⟨w6, hw6⟩ : ∃ w6, w6 = w5.drewN nq := ⟨_, rfl⟩
              go_wp2_with fail
              rw [← hw6]
              have K4 := KEY.out w6 (by rw [hw6]; exact below_drewN B5.out nq)
              clear hw6
              obtain ⟨w4, rfl⟩ : ∃ w4 : World, w4 = w6 := ⟨_, rfl⟩
              go_loopw [12] (fun i wr => ∃ v : Nat, i = .int .i64 v ∧ v ≤ k ∧ Hid (Below w4.heap.size w4 wr)) (fun i _ => k - (intOf i).toNat)
              case atStart => exact ⟨0, rfl, by omega, Lib.hid (Below.refl _ _)⟩
              case round =>
                obtain ⟨v, rfl, hv, hrel⟩ := hrel
                have BJ := hrel
                clear hrel
                obtain ⟨wi, rfl⟩ : ∃ wi : World, wi = wr := ⟨_, rfl⟩
                have BI1 := Lib.hid (K4.out.2.1.trans (BJ.out.mono K4.out.2.1.size))
                have xi := (BJ.out.block _ (block_lt K4.out.2.2)).trans K4.out.2.2
                have zx := szs (block_lt xi)
                have c1 : wi.cell? ⟨wo.heap.size, 1, none⟩ = some (.int .i64 u) := cell_at xi 1
                by_cases hlv : v < k
                · have tv : (v : Int) < (k : Int) := by omega
                  have c0 : wi.cell? ⟨wo.heap.size, 0, none⟩ = some (.int .i64 j) := cell_at xi 0
                  have c3 : wi.cell? ⟨wo.heap.size, 2, none⟩ = some (.int .i64 fu) := cell_at xi 2
                  obtain ⟨_, _, e', hgj, j0, j1, j2⟩ := (S1.out.below BI1.out).job hjm
                  cases e'
                  obtain ⟨gm, om, rfl, hgm, m0⟩ := (T1.out.below BI1.out).mech hlv
                  have zj := szs hgj
                  have zm := szs hgm
                  have cv := Ints.at (Ints.keep K4.out.1 BJ.out) hlv
                  have zv := szs (cell_lt cv)
                  dsimp only at zv
                  have hfr := HFR.out v hlv
                  obtain ⟨fv, hfv⟩ : ∃ fv, fv = F v := ⟨_, rfl⟩
                  rw [← hfv] at cv hfr
                  obtain ⟨km, hkm⟩ : ∃ km, km = M v := ⟨_, rfl⟩
                  obtain ⟨sk, hsk⟩ : ∃ sk, sk = (J j).skill := ⟨_, rfl⟩
                  rw [← hsk] at j2 hfr
                  rw [← hkm] at m0 hfr
                  have HH := Lib.hid (fun w' => has22 km sk w')
                  obtain ⟨b, hb⟩ : ∃ b, b = hasB km sk := ⟨_, rfl⟩
                  rw [← hb] at HH hfr
                  clear hfv hkm hsk hb j0 j1 hgj hgm xi
                  cases b
                  · clear hfr
                    go_wp2_with fail
                    (obtain ⟨ι, hne, Fw, fb, hF⟩ := grow_family wi); have hF : ∀ w', (gPlan wi (fun _ => .bool false) [10] [] []).D () w' → ∃ i, w' = Fw i := hF
                    have f0 := fun i => cell_kept (fb i) m0
                    have f2 := fun i => cell_kept (fb i) j2
                    have g0 := fun i => cell_kept (fb i) c0
                    have g1 := fun i => cell_kept (fb i) c1
                    have g2 := fun i => cell_kept (fb i) c3
                    have g4 := fun i => cell_kept (fb i) cv
                    clear m0 j2 c0 c1 c3 cv
                    (refine region_chain (gPlan wi (fun _ => .bool false) [10] [] []) () [] [0, 1, 2, 3, 4, 5, 6, 7, 8, 9, 10, 11, 12, 13, 14, 15, 16, 17, 18, 19, 20, 21, 22, 23, 24, 25, 26, 27, 28, 29, 30, 31, 32, 33, 34] [] mixed (by kernel_rfl) (by kernel_rfl) (gPlan_ok (by simp) (by simp)) (gPlan_start _ _ _ _ _) ?_; refine wpPure_nil ?_; simp only [List.map_cons, List.map_nil, Array.getD_eq_getD_getElem?, List.getElem?_toArray, List.getElem?_cons_zero, List.getElem?_cons_succ, Option.getD_some])
                    (repeat (first | (refine wpChain_skip rfl ?_; simp only [Act.put, List.setIfInBounds_toArray, List.set_cons_succ, List.set_cons_zero]) | (refine wpChain_quiet hF rfl rfl rfl ?_; intro K hK; go_big_quiet_op; go_big_quiet_on) | (refine wpChain_pure _ rfl rfl (fun w' _ => by go_simp; try rfl) ?_; simp only [Act.put, List.setIfInBounds_toArray, List.set_cons_succ, List.set_cons_zero])))
                    refine wpChain_gcall 22 #[.agg #[.int .i64 km], .int .i64 sk] rfl rfl (fun w' => by go_simp) (fun w' hb => HH.out w') ?_
                    simp only [Act.put, List.setIfInBounds_toArray, List.set_cons_succ, List.set_cons_zero]
                    (repeat (first | (refine wpChain_skip rfl ?_; simp only [Act.put, List.setIfInBounds_toArray, List.set_cons_succ, List.set_cons_zero]) | (refine wpChain_quiet hF rfl rfl rfl ?_; intro K hK; go_big_quiet_op; go_big_quiet_on) | (refine wpChain_pure _ rfl rfl (fun w' _ => by go_simp; try rfl) ?_; simp only [Act.put, List.setIfInBounds_toArray, List.set_cons_succ, List.set_cons_zero])))
                    refine wpChain_nil (fun w9 hb4 hl4 => ?_)
                    have B9 : Hid (Below wi.heap.size wi w9) := hb4
                    clear hb4 hl4 hF fb f0 f2 g0 g1 g2 g4 hne
                    refine onlyN_intro ?_
                    go_wp2_with fail
                    go_roundw
                    case rel => exact ⟨v + 1, by go_num, by omega, Lib.hid (BJ.out.trans (B9.out.mono BJ.out.size))⟩
                    case measure => simp [intOf]; omega
                  · obtain ⟨h1, h2⟩ := hfr rfl
                    have d1 : decide (fv < fu) = false := decide_eq_false (by omega)
                    by_cases he : fv = fu
                    · have d2 : (fv == fu) = true := by simp [he]
                      have hvu : ¬ v < u := fun h => by have := h2 h; omega
                      have d3 : decide ((v : Int) < (u : Int)) = false := decide_eq_false (by omega)
                      have d4 : decide (v < u) = false := decide_eq_false (by omega)
                      clear he h1 h2 hfr hvu
                      go_wp2_with fail
                      (obtain ⟨ι, hne, Fw, fb, hF⟩ := grow_family wi); have hF : ∀ w', (gPlan wi (fun _ => .bool true) [10] [] []).D () w' → ∃ i, w' = Fw i := hF
                      have f0 := fun i => cell_kept (fb i) m0
                      have f2 := fun i => cell_kept (fb i) j2
                      have g0 := fun i => cell_kept (fb i) c0
                      have g1 := fun i => cell_kept (fb i) c1
                      have g2 := fun i => cell_kept (fb i) c3
                      have g4 := fun i => cell_kept (fb i) cv
                      clear m0 j2 c0 c1 c3 cv
                      (refine region_chain (gPlan wi (fun _ => .bool true) [10] [] []) () [] [0, 1, 2, 3, 4, 5, 6, 7, 8, 9, 10, 11, 12, 13, 14, 15, 16, 17, 18, 19, 20, 21, 22, 23, 24, 25, 26, 27, 28, 29, 30, 31, 32, 33, 34] [] mixed (by kernel_rfl) (by kernel_rfl) (gPlan_ok (by simp) (by simp)) (gPlan_start _ _ _ _ _) ?_; refine wpPure_nil ?_; simp only [List.map_cons, List.map_nil, Array.getD_eq_getD_getElem?, List.getElem?_toArray, List.getElem?_cons_zero, List.getElem?_cons_succ, Option.getD_some])
                      (repeat (first | (refine wpChain_skip rfl ?_; simp only [Act.put, List.setIfInBounds_toArray, List.set_cons_succ, List.set_cons_zero]) | (refine wpChain_quiet hF rfl rfl rfl ?_; intro K hK; go_big_quiet_op; go_big_quiet_on) | (refine wpChain_pure _ rfl rfl (fun w' _ => by go_simp; try rfl) ?_; simp only [Act.put, List.setIfInBounds_toArray, List.set_cons_succ, List.set_cons_zero])))
                      refine wpChain_gcall 22 #[.agg #[.int .i64 km], .int .i64 sk] rfl rfl (fun w' => by go_simp) (fun w' hb => HH.out w') ?_
                      simp only [Act.put, List.setIfInBounds_toArray, List.set_cons_succ, List.set_cons_zero]
                      (repeat (first | (refine wpChain_skip rfl ?_; simp only [Act.put, List.setIfInBounds_toArray, List.set_cons_succ, List.set_cons_zero]) | (refine wpChain_quiet hF rfl rfl rfl ?_; intro K hK; go_big_quiet_op; go_big_quiet_on) | (refine wpChain_pure _ rfl rfl (fun w' _ => by go_simp; try rfl) ?_; simp only [Act.put, List.setIfInBounds_toArray, List.set_cons_succ, List.set_cons_zero])))
                      refine wpChain_nil (fun w9 hb4 hl4 => ?_)
                      have B9 : Hid (Below wi.heap.size wi w9) := hb4
                      clear hb4 hl4 hF fb f0 f2 g0 g1 g2 g4 hne
                      refine onlyN_intro ?_
                      go_wp2_with fail
                      go_roundw
                      case rel => exact ⟨v + 1, by go_num, by omega, Lib.hid (BJ.out.trans (B9.out.mono BJ.out.size))⟩
                      case measure => simp [intOf]; omega
                    · have d2 : (fv == fu) = false := by simp [he]
                      clear he h1 h2 hfr
                      go_wp2_with fail
                      (obtain ⟨ι, hne, Fw, fb, hF⟩ := grow_family wi); have hF : ∀ w', (gPlan wi (fun _ => .bool true) [10] [] []).D () w' → ∃ i, w' = Fw i := hF
                      have f0 := fun i => cell_kept (fb i) m0
                      have f2 := fun i => cell_kept (fb i) j2
                      have g0 := fun i => cell_kept (fb i) c0
                      have g1 := fun i => cell_kept (fb i) c1
                      have g2 := fun i => cell_kept (fb i) c3
                      have g4 := fun i => cell_kept (fb i) cv
                      clear m0 j2 c0 c1 c3 cv
                      (refine region_chain (gPlan wi (fun _ => .bool true) [10] [] []) () [] [0, 1, 2, 3, 4, 5, 6, 7, 8, 9, 10, 11, 12, 13, 14, 15, 16, 17, 18, 19, 20, 21, 22, 23, 24, 25, 26, 27, 28, 29, 30, 31, 32, 33, 34] [] mixed (by kernel_rfl) (by kernel_rfl) (gPlan_ok (by simp) (by simp)) (gPlan_start _ _ _ _ _) ?_; refine wpPure_nil ?_; simp only [List.map_cons, List.map_nil, Array.getD_eq_getD_getElem?, List.getElem?_toArray, List.getElem?_cons_zero, List.getElem?_cons_succ, Option.getD_some])
                      (repeat (first | (refine wpChain_skip rfl ?_; simp only [Act.put, List.setIfInBounds_toArray, List.set_cons_succ, List.set_cons_zero]) | (refine wpChain_quiet hF rfl rfl rfl ?_; intro K hK; go_big_quiet_op; go_big_quiet_on) | (refine wpChain_pure _ rfl rfl (fun w' _ => by go_simp; try rfl) ?_; simp only [Act.put, List.setIfInBounds_toArray, List.set_cons_succ, List.set_cons_zero])))
                      refine wpChain_gcall 22 #[.agg #[.int .i64 km], .int .i64 sk] rfl rfl (fun w' => by go_simp) (fun w' hb => HH.out w') ?_
                      simp only [Act.put, List.setIfInBounds_toArray, List.set_cons_succ, List.set_cons_zero]
                      (repeat (first | (refine wpChain_skip rfl ?_; simp only [Act.put, List.setIfInBounds_toArray, List.set_cons_succ, List.set_cons_zero]) | (refine wpChain_quiet hF rfl rfl rfl ?_; intro K hK; go_big_quiet_op; go_big_quiet_on) | (refine wpChain_pure _ rfl rfl (fun w' _ => by go_simp; try rfl) ?_; simp only [Act.put, List.setIfInBounds_toArray, List.set_cons_succ, List.set_cons_zero])))
                      refine wpChain_nil (fun w9 hb4 hl4 => ?_)
                      have B9 : Hid (Below wi.heap.size wi w9) := hb4
                      clear hb4 hl4 hF fb f0 f2 g0 g1 g2 g4 hne
                      refine onlyN_intro ?_
                      go_wp2_with fail
                      go_roundw
                      case rel => exact ⟨v + 1, by go_num, by omega, Lib.hid (BJ.out.trans (B9.out.mono BJ.out.size))⟩
                      case measure => simp [intOf]; omega
                · obtain rfl : v = k := by omega
                  have c4 : wi.cell? ⟨wo.heap.size, 3, none⟩ = some (.int .i64 (fu + s)) := cell_at xi 3
                  have ci := Ints.at (Ints.keep K4.out.1 BJ.out) huk
                  have cfr := Row.free (Ints.keep K4.out.1 BJ.out) u
                  have zu := szs (cell_lt ci)
                  dsimp only at zu
                  have hlo := (Ints.lo (Ints.keep K4.out.1 BJ.out)).1
                  have HN : Hid (Ints (wi.setCell ⟨bf, u, none⟩ (.int .i64 (fu + s))) w1.heap.size bf v (st m J v M ((t' + 1) + 1)).F ∧ Below w1.heap.size w1 (wi.setCell ⟨bf, u, none⟩ (.int .i64 (fu + s)))) := Lib.hid ⟨by rw [HNX.out]; exact Ints.put (Ints.keep K4.out.1 BJ.out) huk (fu + s), BI1.out.setCell (by show _ ≤ bf; exact hlo) _⟩
                  clear xi
                  go_wp2_with fail
                  go_roundw
                  case rel => exact ⟨(t' + 1) + 1, by go_num, by omega, HN⟩
                  case measure => simp [intOf]; omega
            · have e2 : (sa == s) = false := by simp [hq]
              clear hq ha3 ha4
              go_wp2_with fail
              (focus (refine region_all (fun i : Nat => World.drewN _ i) mixed (by kernel_rfl) ⟨1, rfl⟩ ?_; (repeat (any_goals (first | go_big_quiet_step (fail) | quiet_step (fail) | (refine wpQuiet_step (fun K hK => ?_); go_simp; split <;> (refine hK _ ?_; clear hK K))))); (all_goals (refine wpQuiet_nil (fun nq => ?_)))))
              obtain ⟨w6, hw6⟩ : ∃ w6, w6 = w5.drewN nq := ⟨_, rfl⟩
              go_wp2_with fail
              rw [← hw6]
              have K4 := KEY.out w6 (by rw [hw6]; exact below_drewN B5.out nq)
              clear hw6
              obtain ⟨w4, rfl⟩ : ∃ w4 : World, w4 = w6 := ⟨_, rfl⟩
              go_loopw [12] (fun i wr => ∃ v : Nat, i = .int .i64 v ∧ v ≤ k ∧ Hid (Below w4.heap.size w4 wr)) (fun i _ => k - (intOf i).toNat)
              case atStart => exact ⟨0, rfl, by omega, Lib.hid (Below.refl _ _)⟩
              case round =>
                obtain ⟨v, rfl, hv, hrel⟩ := hrel
                have BJ := hrel
                clear hrel
                obtain ⟨wi, rfl⟩ : ∃ wi : World, wi = wr := ⟨_, rfl⟩
                have BI1 := Lib.hid (K4.out.2.1.trans (BJ.out.mono K4.out.2.1.size))
                have xi := (BJ.out.block _ (block_lt K4.out.2.2)).trans K4.out.2.2
                have zx := szs (block_lt xi)
                have c1 : wi.cell? ⟨wo.heap.size, 1, none⟩ = some (.int .i64 u) := cell_at xi 1
                by_cases hlv : v < k
                · have tv : (v : Int) < (k : Int) := by omega
                  have c0 : wi.cell? ⟨wo.heap.size, 0, none⟩ = some (.int .i64 j) := cell_at xi 0
                  have c3 : wi.cell? ⟨wo.heap.size, 2, none⟩ = some (.int .i64 fu) := cell_at xi 2
                  obtain ⟨_, _, e', hgj, j0, j1, j2⟩ := (S1.out.below BI1.out).job hjm
                  cases e'
                  obtain ⟨gm, om, rfl, hgm, m0⟩ := (T1.out.below BI1.out).mech hlv
                  have zj := szs hgj
                  have zm := szs hgm
                  have cv := Ints.at (Ints.keep K4.out.1 BJ.out) hlv
                  have zv := szs (cell_lt cv)
                  dsimp only at zv
                  have hfr := HFR.out v hlv
                  obtain ⟨fv, hfv⟩ : ∃ fv, fv = F v := ⟨_, rfl⟩
                  rw [← hfv] at cv hfr
                  obtain ⟨km, hkm⟩ : ∃ km, km = M v := ⟨_, rfl⟩
                  obtain ⟨sk, hsk⟩ : ∃ sk, sk = (J j).skill := ⟨_, rfl⟩
                  rw [← hsk] at j2 hfr
                  rw [← hkm] at m0 hfr
                  have HH := Lib.hid (fun w' => has22 km sk w')
                  obtain ⟨b, hb⟩ : ∃ b, b = hasB km sk := ⟨_, rfl⟩
                  rw [← hb] at HH hfr
                  clear hfv hkm hsk hb j0 j1 hgj hgm xi
                  cases b
                  · clear hfr
                    go_wp2_with fail
                    (obtain ⟨ι, hne, Fw, fb, hF⟩ := grow_family wi); have hF : ∀ w', (gPlan wi (fun _ => .bool false) [10] [] []).D () w' → ∃ i, w' = Fw i := hF
                    have f0 := fun i => cell_kept (fb i) m0
                    have f2 := fun i => cell_kept (fb i) j2
                    have g0 := fun i => cell_kept (fb i) c0
                    have g1 := fun i => cell_kept (fb i) c1
                    have g2 := fun i => cell_kept (fb i) c3
                    have g4 := fun i => cell_kept (fb i) cv
                    clear m0 j2 c0 c1 c3 cv
                    (refine region_chain (gPlan wi (fun _ => .bool false) [10] [] []) () [] [0, 1, 2, 3, 4, 5, 6, 7, 8, 9, 10, 11, 12, 13, 14, 15, 16, 17, 18, 19, 20, 21, 22, 23, 24, 25, 26, 27, 28, 29, 30, 31, 32, 33, 34] [] mixed (by kernel_rfl) (by kernel_rfl) (gPlan_ok (by simp) (by simp)) (gPlan_start _ _ _ _ _) ?_; refine wpPure_nil ?_; simp only [List.map_cons, List.map_nil, Array.getD_eq_getD_getElem?, List.getElem?_toArray, List.getElem?_cons_zero, List.getElem?_cons_succ, Option.getD_some])
                    (repeat (first | (refine wpChain_skip rfl ?_; simp only [Act.put, List.setIfInBounds_toArray, List.set_cons_succ, List.set_cons_zero]) | (refine wpChain_quiet hF rfl rfl rfl ?_; intro K hK; go_big_quiet_op; go_big_quiet_on) | (refine wpChain_pure _ rfl rfl (fun w' _ => by go_simp; try rfl) ?_; simp only [Act.put, List.setIfInBounds_toArray, List.set_cons_succ, List.set_cons_zero])))
                    refine wpChain_gcall 22 #[.agg #[.int .i64 km], .int .i64 sk] rfl rfl (fun w' => by go_simp) (fun w' hb => HH.out w') ?_
                    simp only [Act.put, List.setIfInBounds_toArray, List.set_cons_succ, List.set_cons_zero]
                    (repeat (first | (refine wpChain_skip rfl ?_; simp only [Act.put, List.setIfInBounds_toArray, List.set_cons_succ, List.set_cons_zero]) | (refine wpChain_quiet hF rfl rfl rfl ?_; intro K hK; go_big_quiet_op; go_big_quiet_on) | (refine wpChain_pure _ rfl rfl (fun w' _ => by go_simp; try rfl) ?_; simp only [Act.put, List.setIfInBounds_toArray, List.set_cons_succ, List.set_cons_zero])))
                    refine wpChain_nil (fun w9 hb4 hl4 => ?_)
                    have B9 : Hid (Below wi.heap.size wi w9) := hb4
                    clear hb4 hl4 hF fb f0 f2 g0 g1 g2 g4 hne
                    refine onlyN_intro ?_
                    go_wp2_with fail
                    go_roundw
                    case rel => exact ⟨v + 1, by go_num, by omega, Lib.hid (BJ.out.trans (B9.out.mono BJ.out.size))⟩
                    case measure => simp [intOf]; omega
                  · obtain ⟨h1, h2⟩ := hfr rfl
                    have d1 : decide (fv < fu) = false := decide_eq_false (by omega)
                    by_cases he : fv = fu
                    · have d2 : (fv == fu) = true := by simp [he]
                      have hvu : ¬ v < u := fun h => by have := h2 h; omega
                      have d3 : decide ((v : Int) < (u : Int)) = false := decide_eq_false (by omega)
                      have d4 : decide (v < u) = false := decide_eq_false (by omega)
                      clear he h1 h2 hfr hvu
                      go_wp2_with fail
                      (obtain ⟨ι, hne, Fw, fb, hF⟩ := grow_family wi); have hF : ∀ w', (gPlan wi (fun _ => .bool true) [10] [] []).D () w' → ∃ i, w' = Fw i := hF
                      have f0 := fun i => cell_kept (fb i) m0
                      have f2 := fun i => cell_kept (fb i) j2
                      have g0 := fun i => cell_kept (fb i) c0
                      have g1 := fun i => cell_kept (fb i) c1
                      have g2 := fun i => cell_kept (fb i) c3
                      have g4 := fun i => cell_kept (fb i) cv
                      clear m0 j2 c0 c1 c3 cv
                      (refine region_chain (gPlan wi (fun _ => .bool true) [10] [] []) () [] [0, 1, 2, 3, 4, 5, 6, 7, 8, 9, 10, 11, 12, 13, 14, 15, 16, 17, 18, 19, 20, 21, 22, 23, 24, 25, 26, 27, 28, 29, 30, 31, 32, 33, 34] [] mixed (by kernel_rfl) (by kernel_rfl) (gPlan_ok (by simp) (by simp)) (gPlan_start _ _ _ _ _) ?_; refine wpPure_nil ?_; simp only [List.map_cons, List.map_nil, Array.getD_eq_getD_getElem?, List.getElem?_toArray, List.getElem?_cons_zero, List.getElem?_cons_succ, Option.getD_some])
                      (repeat (first | (refine wpChain_skip rfl ?_; simp only [Act.put, List.setIfInBounds_toArray, List.set_cons_succ, List.set_cons_zero]) | (refine wpChain_quiet hF rfl rfl rfl ?_; intro K hK; go_big_quiet_op; go_big_quiet_on) | (refine wpChain_pure _ rfl rfl (fun w' _ => by go_simp; try rfl) ?_; simp only [Act.put, List.setIfInBounds_toArray, List.set_cons_succ, List.set_cons_zero])))
                      refine wpChain_gcall 22 #[.agg #[.int .i64 km], .int .i64 sk] rfl rfl (fun w' => by go_simp) (fun w' hb => HH.out w') ?_
                      simp only [Act.put, List.setIfInBounds_toArray, List.set_cons_succ, List.set_cons_zero]
                      (repeat (first | (refine wpChain_skip rfl ?_; simp only [Act.put, List.setIfInBounds_toArray, List.set_cons_succ, List.set_cons_zero]) | (refine wpChain_quiet hF rfl rfl rfl ?_; intro K hK; go_big_quiet_op; go_big_quiet_on) | (refine wpChain_pure _ rfl rfl (fun w' _ => by go_simp; try rfl) ?_; simp only [Act.put, List.setIfInBounds_toArray, List.set_cons_succ, List.set_cons_zero])))
                      refine wpChain_nil (fun w9 hb4 hl4 => ?_)
                      have B9 : Hid (Below wi.heap.size wi w9) := hb4
                      clear hb4 hl4 hF fb f0 f2 g0 g1 g2 g4 hne
                      refine onlyN_intro ?_
                      go_wp2_with fail
                      go_roundw
                      case rel => exact ⟨v + 1, by go_num, by omega, Lib.hid (BJ.out.trans (B9.out.mono BJ.out.size))⟩
                      case measure => simp [intOf]; omega
                    · have d2 : (fv == fu) = false := by simp [he]
                      clear he h1 h2 hfr
                      go_wp2_with fail
                      (obtain ⟨ι, hne, Fw, fb, hF⟩ := grow_family wi); have hF : ∀ w', (gPlan wi (fun _ => .bool true) [10] [] []).D () w' → ∃ i, w' = Fw i := hF
                      have f0 := fun i => cell_kept (fb i) m0
                      have f2 := fun i => cell_kept (fb i) j2
                      have g0 := fun i => cell_kept (fb i) c0
                      have g1 := fun i => cell_kept (fb i) c1
                      have g2 := fun i => cell_kept (fb i) c3
                      have g4 := fun i => cell_kept (fb i) cv
                      clear m0 j2 c0 c1 c3 cv
                      (refine region_chain (gPlan wi (fun _ => .bool true) [10] [] []) () [] [0, 1, 2, 3, 4, 5, 6, 7, 8, 9, 10, 11, 12, 13, 14, 15, 16, 17, 18, 19, 20, 21, 22, 23, 24, 25, 26, 27, 28, 29, 30, 31, 32, 33, 34] [] mixed (by kernel_rfl) (by kernel_rfl) (gPlan_ok (by simp) (by simp)) (gPlan_start _ _ _ _ _) ?_; refine wpPure_nil ?_; simp only [List.map_cons, List.map_nil, Array.getD_eq_getD_getElem?, List.getElem?_toArray, List.getElem?_cons_zero, List.getElem?_cons_succ, Option.getD_some])
                      (repeat (first | (refine wpChain_skip rfl ?_; simp only [Act.put, List.setIfInBounds_toArray, List.set_cons_succ, List.set_cons_zero]) | (refine wpChain_quiet hF rfl rfl rfl ?_; intro K hK; go_big_quiet_op; go_big_quiet_on) | (refine wpChain_pure _ rfl rfl (fun w' _ => by go_simp; try rfl) ?_; simp only [Act.put, List.setIfInBounds_toArray, List.set_cons_succ, List.set_cons_zero])))
                      refine wpChain_gcall 22 #[.agg #[.int .i64 km], .int .i64 sk] rfl rfl (fun w' => by go_simp) (fun w' hb => HH.out w') ?_
                      simp only [Act.put, List.setIfInBounds_toArray, List.set_cons_succ, List.set_cons_zero]
                      (repeat (first | (refine wpChain_skip rfl ?_; simp only [Act.put, List.setIfInBounds_toArray, List.set_cons_succ, List.set_cons_zero]) | (refine wpChain_quiet hF rfl rfl rfl ?_; intro K hK; go_big_quiet_op; go_big_quiet_on) | (refine wpChain_pure _ rfl rfl (fun w' _ => by go_simp; try rfl) ?_; simp only [Act.put, List.setIfInBounds_toArray, List.set_cons_succ, List.set_cons_zero])))
                      refine wpChain_nil (fun w9 hb4 hl4 => ?_)
                      have B9 : Hid (Below wi.heap.size wi w9) := hb4
                      clear hb4 hl4 hF fb f0 f2 g0 g1 g2 g4 hne
                      refine onlyN_intro ?_
                      go_wp2_with fail
                      go_roundw
                      case rel => exact ⟨v + 1, by go_num, by omega, Lib.hid (BJ.out.trans (B9.out.mono BJ.out.size))⟩
                      case measure => simp [intOf]; omega
                · obtain rfl : v = k := by omega
                  have c4 : wi.cell? ⟨wo.heap.size, 3, none⟩ = some (.int .i64 (fu + s)) := cell_at xi 3
                  have ci := Ints.at (Ints.keep K4.out.1 BJ.out) huk
                  have cfr := Row.free (Ints.keep K4.out.1 BJ.out) u
                  have zu := szs (cell_lt ci)
                  dsimp only at zu
                  have hlo := (Ints.lo (Ints.keep K4.out.1 BJ.out)).1
                  have HN : Hid (Ints (wi.setCell ⟨bf, u, none⟩ (.int .i64 (fu + s))) w1.heap.size bf v (st m J v M ((t' + 1) + 1)).F ∧ Below w1.heap.size w1 (wi.setCell ⟨bf, u, none⟩ (.int .i64 (fu + s)))) := Lib.hid ⟨by rw [HNX.out]; exact Ints.put (Ints.keep K4.out.1 BJ.out) huk (fu + s), BI1.out.setCell (by show _ ≤ bf; exact hlo) _⟩
                  clear xi
                  go_wp2_with fail
                  go_roundw
                  case rel => exact ⟨(t' + 1) + 1, by go_num, by omega, HN⟩
                  case measure => simp [intOf]; omega
        · obtain rfl : t = m := by omega
          have tmm : ((t : Int) == (t : Int)) = true := by simp
          have HB := Lib.hid (B1.out.trans (hrel.out.2.mono B1.out.size))
          clear hrel
          go_wp2_with fail
          refine (awake10 _).mono ?_
          rintro e w2 ⟨rfl, b2⟩
          have B2 := Lib.hid (HB.out.trans (b2.mono HB.out.size))
          clear b2
          go_wp2_with fail
          go_returns
          exact ⟨rfl, B2.out⟩
    · have e1 : plN m J k M = 0 := by simp [plN, hc]
      rw [e1] at r1 L1 ⊢
      generalize chkE m J k M = ce at *
      have tb : (ce != 0) = true := by simp; exact hc
      clear hc e1
      go_wp2_with fail
      refine (awake10 _).mono ?_
      rintro e w2 ⟨rfl, b2⟩
      have B2 := Lib.hid (B1.out.trans (b2.mono B1.out.size))
      clear b2
      go_wp2_with fail
      go_returns
      exact ⟨rfl, B2.out⟩
end Go.Proofs.Ytanpefjbmpohdaa
