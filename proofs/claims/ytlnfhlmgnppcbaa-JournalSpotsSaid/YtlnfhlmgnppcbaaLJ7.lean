/- The law JournalSpots. -/
import Derived.Test.YtlnfhlmgnppcbaaCMB
import Derived.Test.YtlnfhlmgnppcbaaOPL
import Derived.Test.YtlnfhlmgnppcbaaSB
import Derived.Test.YtlnfhlmgnppcbaaLJ4
namespace Go.Proofs.Ytlnfhlmgnppcbaa
open Go.RowKit Go.ChangeShapes Go.WideShapes Go.Deep
set_option linter.unusedVariables false
set_option linter.unusedSimpArgs false
theorem whole_all {l : List Ev} (hf : ∀ v ∈ l, framedB v = true) (hl : l.length ≤ 511) : l.take (wholeN l (framesB l).length) = l := by
  have h1 := read_cut hf hl (Nat.le_refl _)
  rw [List.take_of_length_le (Nat.le_refl _), read_frames hf (by omega)] at h1
  exact (congrArg Prod.fst h1).symm
theorem same027 (w : World) : Calls Try.prog 27 #[.slice none 0 0, .slice none 0 0] w fun e w' => e = .returned (.bool true) ∧ Below w.heap.size w w' := by
  go_enter Try.func27, Try.ntmps27
  go_wp2_with fail
  go_loopw [5] (fun s5 wr => s5 = .int .i64 0 ∧ Hid (Below w.heap.size w wr)) (fun s5 _ => 0)
  case atStart => exact ⟨rfl, Lib.hid (Below.refl _ _)⟩
  case round =>
    obtain ⟨rfl, hb⟩ := hrel
    have BW := hb
    clear hb
    go_wp2_with fail
    go_returns
    exact ⟨rfl, BW.out⟩
set_option maxRecDepth 8000 in
set_option maxHeartbeats 8000000 in
theorem run_journalSpots {H : Type} {enc : TypeId × Value → H} (W : World) (base : Nat) (v0 : Value) (d0 : DataW H) (p0 : List MemPlace) (hv0 : Value.okWide Try.prog W .any base 44 v0) (h0 : DataW.Trod enc Try.prog W 0 (fun _ => true) true 44 v0 d0 p0)
    (v1 : Value) (d1 : DataW H) (p1 : List MemPlace) (hv1 : Value.okWide Try.prog W .any base 30 v1) (h1 : DataW.Trod enc Try.prog W 0 (fun _ => true) true 30 v1 d1 p1)
    (v2 : Value) (d2 : DataW H) (p2 : List MemPlace) (hv2 : Value.okWide Try.prog W .any base 3 v2) (h2 : DataW.Trod enc Try.prog W 0 (fun _ => true) true 3 v2 d2 p2) :
    Calls Try.prog 9 #[v0, v1, v2] W fun e w' => e = .returned (.bool true) ∧ Below W.heap.size W w' := by
  obtain ⟨f, rfl, hf, _⟩ := open_fleet hv0 h0
  obtain ⟨ao, n, c, F, rfl, hs, hF⟩ := open_events hv1 h1
  obtain ⟨cut, rfl, rfl, rfl, _⟩ := open_int Try.underlying3 hv2 h2
  clear hv0 h0 hv1 h1 hv2 h2
  have AW := Lib.hid (fun w' => awake12 w')
  have hmc := hs.hm
  have hcc := hs.hc
  have B0 : Hid (Below W.heap.size W (W.alloc (.cells f.cells 44))) := Lib.hid (by (repeat' (first | (with_reducible exact Below.refl _ _) | (with_reducible assumption) | (with_reducible refine Below.drew ?_) | (with_reducible refine below_drewN ?_ _) | (with_reducible refine Below.alloc ?_ ?_ _) | (with_reducible refine Below.setCell ?_ ?_ _) | go_size)))
  obtain ⟨w0, hw0⟩ : ∃ w0, w0 = W.alloc (.cells f.cells 44) := ⟨_, rfl⟩
  rw [← hw0] at B0
  have HW0 := Lib.hid hw0
  have X0 : w0.heap[W.heap.size]? = some (.cells f.cells 44 (0, 0)) := by rw [hw0]; exact heap_alloc_new W _
  have HF0 := Lib.hid (hf.below B0.out)
  have HS := Lib.hid (hs.below B0.out)
  have HFI : Hid (∀ e ∈ ents F n, inN e) := Lib.hid (fun e he => by
    obtain ⟨i, hi, rfl⟩ := mem_ents.1 he
    exact hF i hi)
  have FEW := Lib.hid (few25 f w0 HF0.out)
  obtain ⟨q, hq⟩ : ∃ q, q = (decide (f.nd ≤ 100) && decide (f.nt ≤ 100)) := ⟨_, rfl⟩
  rw [← hq] at FEW
  have HFC : Hid (f.cells = #[.int .i64 f.bikes, .int .i64 f.riders, .int .i64 f.devs, .slice f.ad f.nd f.cd, .slice f.a2 f.nt f.ct]) := Lib.hid rfl
  rw [HFC.out] at X0 HW0 FEW ⊢
  have x0 := cell_at X0 0
  have x1 := cell_at X0 1
  have x2 := cell_at X0 2
  have x3 := cell_at X0 3
  have x4 := cell_at X0 4
  have zx := szs (block_lt X0)
  clear hw0 hf hs hF X0 hq
  by_cases hn : 30 < n
  · have tn : (30 : Int) < (n : Int) := by omega
    go_enter Try.func9, Try.ntmps9
    go_wp2_with fail
    rw [← HW0.out]
    go_wp2_with fail
    refine (AW.out _).mono ?_
    rintro e wz ⟨rfl, bz⟩
    have BZ := Lib.hid (B0.out.trans (bz.mono B0.out.size))
    clear bz
    go_wp2_with fail
    go_returns
    exact ⟨rfl, BZ.out⟩
  · have t30 : decide ((30 : Int) < (n : Int)) = false := decide_eq_false (by omega)
    have tn : (n : Int) ≤ 30 := by omega
    go_enter Try.func9, Try.ntmps9
    go_wp2_with fail
    rw [← HW0.out]
    go_wp2_with fail
    refine FEW.out.mono ?_
    rintro e wf ⟨rfl, bf⟩
    have BF := Lib.hid (B0.out.trans (bf.mono B0.out.size))
    cases q with
    | false =>
      clear FEW bf
      go_wp2_with fail
      refine (AW.out _).mono ?_
      rintro e wz ⟨rfl, bz⟩
      have BZ := Lib.hid (BF.out.trans (bz.mono BF.out.size))
      clear bz
      go_wp2_with fail
      go_returns
      exact ⟨rfl, BZ.out⟩
    | true =>
      have N1 := Lib.hid (write15 ao n c F wf (HS.out.below bf) (by omega))
      have HWF := Lib.hid (write_fine (F := F) (n := n) (by omega))
      obtain ⟨⟨bl, x⟩, hX⟩ : ∃ X, X = writeE (ents F n) := ⟨_, rfl⟩
      rw [← hX] at N1 HWF
      dsimp only at N1 HWF
      have HSf := Lib.hid (HS.out.below bf)
      have HFf := Lib.hid (HF0.out.below bf)
      replace x0 := cell_kept bf x0
      replace x1 := cell_kept bf x1
      replace x2 := cell_kept bf x2
      replace x3 := cell_kept bf x3
      replace x4 := cell_kept bf x4
      clear FEW bf hX zx HS HF0
      go_wp2_with fail
      refine N1.out.mono ?_
      rintro e w1 ⟨u1, k1, R1, rfl, l1, r1, b1⟩
      obtain ⟨a1, c1, rfl, s1⟩ := BRow.toSl r1
      have hm1 := s1.hm
      have hc1 := s1.hc
      have B1 := Lib.hid (BF.out.trans (b1.mono BF.out.size))
      have S1 := Lib.hid s1
      have L1 := Lib.hid l1
      have HS := Lib.hid (HSf.out.below b1)
      have HF1 := Lib.hid (HFf.out.below b1)
      replace x0 := cell_kept b1 x0
      replace x1 := cell_kept b1 x1
      replace x2 := cell_kept b1 x2
      replace x3 := cell_kept b1 x3
      replace x4 := cell_kept b1 x4
      have zx := szs (cell_lt x0)
      dsimp only at zx
      clear N1 r1 b1 s1 l1 HSf HFf
      rcases HWF.out with rfl | ⟨rfl, rfl, hall⟩
      · clear HWF
        go_wp2_with fail
        refine (AW.out _).mono ?_
        rintro e wz ⟨rfl, bz⟩
        have BZ := Lib.hid (B1.out.trans (bz.mono B1.out.size))
        clear bz
        go_wp2_with fail
        go_returns
        exact ⟨rfl, BZ.out⟩
      · clear HWF
        have HALL : Hid (∀ v ∈ ents F n, framedB v = true) := Lib.hid (fun v hv => by
          obtain ⟨i, hi, rfl⟩ := mem_ents.1 hv
          exact hall i hi)
        clear hall
        by_cases hc0 : cut < 0
        · go_wp2_with fail
          refine (AW.out _).mono ?_
          rintro e wz ⟨rfl, bz⟩
          have BZ := Lib.hid (B1.out.trans (bz.mono B1.out.size))
          clear bz
          go_wp2_with fail
          go_returns
          exact ⟨rfl, BZ.out⟩
        · obtain ⟨q, rfl⟩ := Int.eq_ofNat_of_zero_le (show 0 ≤ cut by omega)
          clear hc0
          have d0 : decide ((q : Int) < 0) = false := decide_eq_false (by omega)
          by_cases hc2 : k1 < q
          · have tq : (k1 : Int) < (q : Int) := by omega
            go_wp2_with fail
            refine (AW.out _).mono ?_
            rintro e wz ⟨rfl, bz⟩
            have BZ := Lib.hid (B1.out.trans (bz.mono B1.out.size))
            clear bz
            go_wp2_with fail
            go_returns
            exact ⟨rfl, BZ.out⟩
          · have d1 : decide ((k1 : Int) < (q : Int)) = false := decide_eq_false (by omega)
            have d1n : decide (k1 < q) = false := decide_eq_false (by omega)
            have tq : (q : Int) ≤ (k1 : Int) := by omega
            have tq2 : (q : Int) ≤ (c1 : Int) := by omega
            have hk1 : (framesB (ents F n)).length = k1 := by rw [← L1.out, ents_len]
            have HRC := Lib.hid (read_cut (l := ents F n) HALL.out (by rw [ents_len]; omega) (c := q) (by omega))
            have HALLQ : Hid (q = k1 → wholeN (ents F n) q = n) := Lib.hid (fun e => by
              have := whole_all HALL.out (by rw [ents_len]; omega)
              rw [hk1, ← e] at this
              have h2 := congrArg List.length this
              rw [List.length_take, ents_len] at h2
              have := wholeN_le (ents F n) q
              rw [ents_len] at this
              omega)
            have HBY := Lib.hid (ents_byte L1.out (framesB_byte (ents F n)))
            have L1Q : Hid (ents R1 q = (framesB (ents F n)).take q) := Lib.hid (by rw [← L1.out]; exact (ents_cut (by omega)).symm)
            have HWL : wholeN (ents F n) q ≤ n := by have := wholeN_le (ents F n) q; rwa [ents_len] at this
            have HCE := Lib.hid (ents_cutE (F := F) HWL)
            have RR := Lib.hid (read17 a1 q c1 R1 w1 (BSl.cut S1.out (by omega)) (fun i hi => HBY.out i (by omega)) (by have h9 := framesB_len (l := ents F n) HALL.out; rw [ents_len] at h9; omega))
            rw [L1Q.out, HRC.out] at RR
            dsimp only at RR
            have tq0 : (0 : Int) ≤ (q : Int) := by omega
            have e0 : q - 0 = q := by omega
            obtain ⟨T, hT⟩ : ∃ T, T = (framesB ((ents F n).take (wholeN (ents F n) q))).length := ⟨_, rfl⟩
            rw [← hT] at RR
            obtain ⟨C, hC⟩ : ∃ C, C = wholeN (ents F n) q := ⟨_, rfl⟩
            rw [← hC] at HWL HCE RR HALLQ
            clear hk1 HRC hT hC L1Q L1 HBY hc2 HALL
            cases a1 with
            | none =>
              obtain ⟨rfl, rfl⟩ := S1.out.hno rfl
              obtain rfl : q = 0 := by omega
              clear S1
              cases ao with
              | none =>
                obtain ⟨rfl, rfl⟩ := HS.out.hno rfl
                obtain rfl : C = 0 := by omega
                go_wp2_with fail
                refine RR.out.mono ?_
                rintro e w2 ⟨u2, k2, E2, rfl, l2, r2, b2⟩
                obtain ⟨a2, cp2, rfl, s2⟩ := EvRow.toSl r2
                obtain rfl : k2 = 0 := by
                  have h9 := congrArg List.length l2
                  rw [ents_len, ← HCE.out, ents_len] at h9; exact h9
                rw [← HCE.out] at l2
                have hm2 := s2.hm
                have hc2 := s2.hc
                have B3 := Lib.hid (B1.out.trans (b2.mono B1.out.size))
                have HF2 := Lib.hid (HF1.out.below b2)
                have SP := Lib.hid (spots26 f a2 0 cp2 E2 w2 HF2.out s2 (by omega) (fun e he => HFI.out e (by rw [l2, HCE.out] at he; exact List.mem_of_mem_take he)))
                have SQ := Lib.hid (fun w' (hb : Below w2.heap.size w2 w') => spots26 f none 0 0 F w' (HF2.out.below hb) (EvSl.cut (HS.out.below (b2.trans (hb.mono b2.size))) HWL) (by omega) (fun e he => HFI.out e (by rw [HCE.out] at he; exact List.mem_of_mem_take he)))
                rw [l2, HFC.out] at SP
                rw [HFC.out] at SQ
                replace x0 := cell_kept b2 x0
                replace x1 := cell_kept b2 x1
                replace x2 := cell_kept b2 x2
                replace x3 := cell_kept b2 x3
                replace x4 := cell_kept b2 x4
                have zx := szs (cell_lt x0)
                dsimp only at zx
                have tc0 : (0 : Int) ≤ (0 : Int) := by omega
                have tc2 : decide ((0 : Int) < (0 : Int)) = false := decide_eq_false (by omega)
                have tc1 : (0 : Int) ≤ (0 : Int) := by omega
                have e1 : 0 - 0 = 0 := by omega
                clear RR r2 s2 b2 HS HF1 l2 HCE
                go_wp2_with fail
                refine SP.out.mono ?_
                rintro e w3 ⟨b3, ho3⟩
                have B4 := Lib.hid (B3.out.trans (b3.mono B3.out.size))
                replace x0 := cell_kept b3 x0
                replace x1 := cell_kept b3 x1
                replace x2 := cell_kept b3 x2
                replace x3 := cell_kept b3 x3
                replace x4 := cell_kept b3 x4
                have zx := szs (cell_lt x0)
                dsimp only at zx
                have b4 : ∀ i, Below w2.heap.size w2 (w3.drewN i) := fun i => below_drewN b3 i
                have HB3 := Lib.hid b3
                clear SP
                rcases ho3 with ⟨h1, rfl⟩ | ⟨h1, hbk, base1, p1, rfl, hr1⟩
                · have H1 := Lib.hid h1
                  clear h1 b3
                  go_wp2_with fail
                  (refine region_order (fun i : Nat => World.drewN _ i) [] [0, 1, 2, 3, 4] 5 [6, 7, 8, 9, 10] mixed (by kernel_rfl) ⟨1, rfl⟩ ?_; simp only [List.map_cons, List.map_nil, Array.getD_eq_getD_getElem?, List.getElem?_toArray, List.getElem?_cons_zero, List.getElem?_cons_succ, Option.getD_some]; (repeat (refine wpPure_cons _ rfl (fun w' => by go_simp; try rfl) ?_; dsimp only [Act.put])); refine wpPure_nil ?_; (repeat (any_goals (first | go_big_quiet_step (fail) | quiet_step (fail) | (refine wpQuiet_step (fun K hK => ?_); go_simp; split <;> (refine hK _ ?_; clear hK K))))); (all_goals (refine wpQuiet_nil (fun nq => ?_))))
                  go_wp2_with fail
                  refine (SQ.out _ (b4 nq)).mono ?_
                  rintro e w5 ⟨b5, ho5⟩
                  rcases ho5 with ⟨h2, rfl⟩ | ⟨h2, _⟩
                  · have B5 := Lib.hid (B3.out.trans ((b4 nq).trans (b5.mono (b4 nq).size) |>.mono B3.out.size))
                    clear SQ b4 b5 x0 x1 x2 x3 x4 zx HB3
                    obtain ⟨y, hy⟩ : ∃ y, y = fleetE f := ⟨_, rfl⟩
                    rw [← hy]
                    have ty : (y == y) = true := by simp
                    clear hy H1 h2
                    have SA := Lib.hid (same027 w5)
                    go_wp2_with fail
                    refine onlyN_intro ?_
                    go_wp2_with fail
                    refine SA.out.mono ?_
                    rintro e w6 ⟨rfl, b6⟩
                    have B6 := Lib.hid (B5.out.trans (b6.mono B5.out.size))
                    clear SA b6 B5
                    have tl2 : ((0 : Int) == (0 : Int)) = true := by first | (rw [HALLQ.out (by simp)]; simp) | (rw [HALLQ.out]; simp) | simp
                    go_wp2_with fail
                    refine (AW.out _).mono ?_
                    rintro e wz ⟨rfl, bz⟩
                    have BZ := Lib.hid (B6.out.trans (bz.mono B6.out.size))
                    clear bz
                    go_wp2_with fail
                    go_returns
                    exact ⟨rfl, BZ.out⟩
                  · exact absurd h2 H1.out
                · have H1 := Lib.hid h1
                  have R1 := Lib.hid hr1
                  clear h1 b3 hr1
                  go_wp2_with fail
                  (refine region_order (fun i : Nat => World.drewN _ i) [] [0, 1, 2, 3, 4] 5 [6, 7, 8, 9, 10] mixed (by kernel_rfl) ⟨1, rfl⟩ ?_; simp only [List.map_cons, List.map_nil, Array.getD_eq_getD_getElem?, List.getElem?_toArray, List.getElem?_cons_zero, List.getElem?_cons_succ, Option.getD_some]; (repeat (refine wpPure_cons _ rfl (fun w' => by go_simp; try rfl) ?_; dsimp only [Act.put])); refine wpPure_nil ?_; (repeat (any_goals (first | go_big_quiet_step (fail) | quiet_step (fail) | (refine wpQuiet_step (fun K hK => ?_); go_simp; split <;> (refine hK _ ?_; clear hK K))))); (all_goals (refine wpQuiet_nil (fun nq => ?_))))
                  go_wp2_with fail
                  refine (SQ.out _ (b4 nq)).mono ?_
                  rintro e w5 ⟨b5, ho5⟩
                  rcases ho5 with ⟨h2, rfl⟩ | ⟨h2, _, base2, p2, rfl, hr2⟩
                  · exact absurd H1.out h2
                  · have B5 := Lib.hid (B3.out.trans ((b4 nq).trans (b5.mono (b4 nq).size) |>.mono B3.out.size))
                    have b35 : Below w3.heap.size w3 w5 := (below_drewN (Below.refl _ _) nq).trans (b5.mono (by simp))
                    have SA := Lib.hid (same27 base1 p1 f.bikes.toNat base2 p2 (runE f (ents F 0)).1.F w5 (Row.off (X := fun _ => False) R1.out (Off.of_below b35) (fun _ _ h => h)) hr2 (by omega))
                    generalize f.bikes.toNat = nb at *
                    clear SQ b4 b5 b35 x0 x1 x2 x3 x4 zx HB3 R1 hr2 H1 h2
                    go_wp2_with fail
                    refine onlyN_intro ?_
                    go_wp2_with fail
                    refine SA.out.mono ?_
                    rintro e w6 ⟨rfl, b6⟩
                    have B6 := Lib.hid (B5.out.trans (b6.mono B5.out.size))
                    clear SA b6 B5
                    have tl2 : ((0 : Int) == (0 : Int)) = true := by first | (rw [HALLQ.out (by simp)]; simp) | (rw [HALLQ.out]; simp) | simp
                    go_wp2_with fail
                    refine (AW.out _).mono ?_
                    rintro e wz ⟨rfl, bz⟩
                    have BZ := Lib.hid (B6.out.trans (bz.mono B6.out.size))
                    clear bz
                    go_wp2_with fail
                    go_returns
                    exact ⟨rfl, BZ.out⟩
              | some ad =>
                go_wp2_with fail
                refine RR.out.mono ?_
                rintro e w2 ⟨u2, k2, E2, rfl, l2, r2, b2⟩
                obtain ⟨a2, cp2, rfl, s2⟩ := EvRow.toSl r2
                obtain rfl : k2 = C := by
                  have h9 := congrArg List.length l2
                  rw [ents_len, ← HCE.out, ents_len] at h9; exact h9
                rw [← HCE.out] at l2
                have hm2 := s2.hm
                have hc2 := s2.hc
                have B3 := Lib.hid (B1.out.trans (b2.mono B1.out.size))
                have HF2 := Lib.hid (HF1.out.below b2)
                have SP := Lib.hid (spots26 f a2 k2 cp2 E2 w2 HF2.out s2 (by omega) (fun e he => HFI.out e (by rw [l2, HCE.out] at he; exact List.mem_of_mem_take he)))
                have SQ := Lib.hid (fun w' (hb : Below w2.heap.size w2 w') => spots26 f (some ad) k2 c F w' (HF2.out.below hb) (EvSl.cut (HS.out.below (b2.trans (hb.mono b2.size))) HWL) (by omega) (fun e he => HFI.out e (by rw [HCE.out] at he; exact List.mem_of_mem_take he)))
                rw [l2, HFC.out] at SP
                rw [HFC.out] at SQ
                replace x0 := cell_kept b2 x0
                replace x1 := cell_kept b2 x1
                replace x2 := cell_kept b2 x2
                replace x3 := cell_kept b2 x3
                replace x4 := cell_kept b2 x4
                have zx := szs (cell_lt x0)
                dsimp only at zx
                have tc0 : (0 : Int) ≤ (k2 : Int) := by omega
                have tc2 : decide ((n : Int) < (k2 : Int)) = false := decide_eq_false (by omega)
                have tc1 : (k2 : Int) ≤ (c : Int) := by omega
                have e1 : k2 - 0 = k2 := by omega
                clear RR r2 s2 b2 HS HF1 l2 HCE
                go_wp2_with fail
                refine SP.out.mono ?_
                rintro e w3 ⟨b3, ho3⟩
                have B4 := Lib.hid (B3.out.trans (b3.mono B3.out.size))
                replace x0 := cell_kept b3 x0
                replace x1 := cell_kept b3 x1
                replace x2 := cell_kept b3 x2
                replace x3 := cell_kept b3 x3
                replace x4 := cell_kept b3 x4
                have zx := szs (cell_lt x0)
                dsimp only at zx
                have b4 : ∀ i, Below w2.heap.size w2 (w3.drewN i) := fun i => below_drewN b3 i
                have HB3 := Lib.hid b3
                clear SP
                rcases ho3 with ⟨h1, rfl⟩ | ⟨h1, hbk, base1, p1, rfl, hr1⟩
                · have H1 := Lib.hid h1
                  clear h1 b3
                  go_wp2_with fail
                  (refine region_order (fun i : Nat => World.drewN _ i) [] [0, 1, 2, 3, 4] 5 [6, 7, 8, 9, 10] mixed (by kernel_rfl) ⟨1, rfl⟩ ?_; simp only [List.map_cons, List.map_nil, Array.getD_eq_getD_getElem?, List.getElem?_toArray, List.getElem?_cons_zero, List.getElem?_cons_succ, Option.getD_some]; (repeat (refine wpPure_cons _ rfl (fun w' => by go_simp; try rfl) ?_; dsimp only [Act.put])); refine wpPure_nil ?_; (repeat (any_goals (first | go_big_quiet_step (fail) | quiet_step (fail) | (refine wpQuiet_step (fun K hK => ?_); go_simp; split <;> (refine hK _ ?_; clear hK K))))); (all_goals (refine wpQuiet_nil (fun nq => ?_))))
                  go_wp2_with fail
                  refine (SQ.out _ (b4 nq)).mono ?_
                  rintro e w5 ⟨b5, ho5⟩
                  rcases ho5 with ⟨h2, rfl⟩ | ⟨h2, _⟩
                  · have B5 := Lib.hid (B3.out.trans ((b4 nq).trans (b5.mono (b4 nq).size) |>.mono B3.out.size))
                    clear SQ b4 b5 x0 x1 x2 x3 x4 zx HB3
                    obtain ⟨y, hy⟩ : ∃ y, y = fleetE f := ⟨_, rfl⟩
                    rw [← hy]
                    have ty : (y == y) = true := by simp
                    clear hy H1 h2
                    have SA := Lib.hid (same027 w5)
                    go_wp2_with fail
                    refine onlyN_intro ?_
                    go_wp2_with fail
                    refine SA.out.mono ?_
                    rintro e w6 ⟨rfl, b6⟩
                    have B6 := Lib.hid (B5.out.trans (b6.mono B5.out.size))
                    clear SA b6 B5
                    have tl2 : ((k2 : Int) == (n : Int)) = true := by first | (rw [HALLQ.out (by simp)]; simp) | (rw [HALLQ.out]; simp) | simp
                    go_wp2_with fail
                    refine (AW.out _).mono ?_
                    rintro e wz ⟨rfl, bz⟩
                    have BZ := Lib.hid (B6.out.trans (bz.mono B6.out.size))
                    clear bz
                    go_wp2_with fail
                    go_returns
                    exact ⟨rfl, BZ.out⟩
                  · exact absurd h2 H1.out
                · have H1 := Lib.hid h1
                  have R1 := Lib.hid hr1
                  clear h1 b3 hr1
                  go_wp2_with fail
                  (refine region_order (fun i : Nat => World.drewN _ i) [] [0, 1, 2, 3, 4] 5 [6, 7, 8, 9, 10] mixed (by kernel_rfl) ⟨1, rfl⟩ ?_; simp only [List.map_cons, List.map_nil, Array.getD_eq_getD_getElem?, List.getElem?_toArray, List.getElem?_cons_zero, List.getElem?_cons_succ, Option.getD_some]; (repeat (refine wpPure_cons _ rfl (fun w' => by go_simp; try rfl) ?_; dsimp only [Act.put])); refine wpPure_nil ?_; (repeat (any_goals (first | go_big_quiet_step (fail) | quiet_step (fail) | (refine wpQuiet_step (fun K hK => ?_); go_simp; split <;> (refine hK _ ?_; clear hK K))))); (all_goals (refine wpQuiet_nil (fun nq => ?_))))
                  go_wp2_with fail
                  refine (SQ.out _ (b4 nq)).mono ?_
                  rintro e w5 ⟨b5, ho5⟩
                  rcases ho5 with ⟨h2, rfl⟩ | ⟨h2, _, base2, p2, rfl, hr2⟩
                  · exact absurd H1.out h2
                  · have B5 := Lib.hid (B3.out.trans ((b4 nq).trans (b5.mono (b4 nq).size) |>.mono B3.out.size))
                    have b35 : Below w3.heap.size w3 w5 := (below_drewN (Below.refl _ _) nq).trans (b5.mono (by simp))
                    have SA := Lib.hid (same27 base1 p1 f.bikes.toNat base2 p2 (runE f (ents F k2)).1.F w5 (Row.off (X := fun _ => False) R1.out (Off.of_below b35) (fun _ _ h => h)) hr2 (by omega))
                    generalize f.bikes.toNat = nb at *
                    clear SQ b4 b5 b35 x0 x1 x2 x3 x4 zx HB3 R1 hr2 H1 h2
                    go_wp2_with fail
                    refine onlyN_intro ?_
                    go_wp2_with fail
                    refine SA.out.mono ?_
                    rintro e w6 ⟨rfl, b6⟩
                    have B6 := Lib.hid (B5.out.trans (b6.mono B5.out.size))
                    clear SA b6 B5
                    have tl2 : ((k2 : Int) == (n : Int)) = true := by first | (rw [HALLQ.out (by simp)]; simp) | (rw [HALLQ.out]; simp) | simp
                    go_wp2_with fail
                    refine (AW.out _).mono ?_
                    rintro e wz ⟨rfl, bz⟩
                    have BZ := Lib.hid (B6.out.trans (bz.mono B6.out.size))
                    clear bz
                    go_wp2_with fail
                    go_returns
                    exact ⟨rfl, BZ.out⟩
            | some a1 =>
              clear S1
              cases ao with
              | none =>
                obtain ⟨rfl, rfl⟩ := HS.out.hno rfl
                obtain rfl : C = 0 := by omega
                go_wp2_with fail
                refine RR.out.mono ?_
                rintro e w2 ⟨u2, k2, E2, rfl, l2, r2, b2⟩
                obtain ⟨a2, cp2, rfl, s2⟩ := EvRow.toSl r2
                obtain rfl : k2 = 0 := by
                  have h9 := congrArg List.length l2
                  rw [ents_len, ← HCE.out, ents_len] at h9; exact h9
                rw [← HCE.out] at l2
                have hm2 := s2.hm
                have hc2 := s2.hc
                have B3 := Lib.hid (B1.out.trans (b2.mono B1.out.size))
                have HF2 := Lib.hid (HF1.out.below b2)
                have SP := Lib.hid (spots26 f a2 0 cp2 E2 w2 HF2.out s2 (by omega) (fun e he => HFI.out e (by rw [l2, HCE.out] at he; exact List.mem_of_mem_take he)))
                have SQ := Lib.hid (fun w' (hb : Below w2.heap.size w2 w') => spots26 f none 0 0 F w' (HF2.out.below hb) (EvSl.cut (HS.out.below (b2.trans (hb.mono b2.size))) HWL) (by omega) (fun e he => HFI.out e (by rw [HCE.out] at he; exact List.mem_of_mem_take he)))
                rw [l2, HFC.out] at SP
                rw [HFC.out] at SQ
                replace x0 := cell_kept b2 x0
                replace x1 := cell_kept b2 x1
                replace x2 := cell_kept b2 x2
                replace x3 := cell_kept b2 x3
                replace x4 := cell_kept b2 x4
                have zx := szs (cell_lt x0)
                dsimp only at zx
                have tc0 : (0 : Int) ≤ (0 : Int) := by omega
                have tc2 : decide ((0 : Int) < (0 : Int)) = false := decide_eq_false (by omega)
                have tc1 : (0 : Int) ≤ (0 : Int) := by omega
                have e1 : 0 - 0 = 0 := by omega
                clear RR r2 s2 b2 HS HF1 l2 HCE
                go_wp2_with fail
                refine SP.out.mono ?_
                rintro e w3 ⟨b3, ho3⟩
                have B4 := Lib.hid (B3.out.trans (b3.mono B3.out.size))
                replace x0 := cell_kept b3 x0
                replace x1 := cell_kept b3 x1
                replace x2 := cell_kept b3 x2
                replace x3 := cell_kept b3 x3
                replace x4 := cell_kept b3 x4
                have zx := szs (cell_lt x0)
                dsimp only at zx
                have b4 : ∀ i, Below w2.heap.size w2 (w3.drewN i) := fun i => below_drewN b3 i
                have HB3 := Lib.hid b3
                clear SP
                rcases ho3 with ⟨h1, rfl⟩ | ⟨h1, hbk, base1, p1, rfl, hr1⟩
                · have H1 := Lib.hid h1
                  clear h1 b3
                  go_wp2_with fail
                  (refine region_order (fun i : Nat => World.drewN _ i) [] [0, 1, 2, 3, 4] 5 [6, 7, 8, 9, 10] mixed (by kernel_rfl) ⟨1, rfl⟩ ?_; simp only [List.map_cons, List.map_nil, Array.getD_eq_getD_getElem?, List.getElem?_toArray, List.getElem?_cons_zero, List.getElem?_cons_succ, Option.getD_some]; (repeat (refine wpPure_cons _ rfl (fun w' => by go_simp; try rfl) ?_; dsimp only [Act.put])); refine wpPure_nil ?_; (repeat (any_goals (first | go_big_quiet_step (fail) | quiet_step (fail) | (refine wpQuiet_step (fun K hK => ?_); go_simp; split <;> (refine hK _ ?_; clear hK K))))); (all_goals (refine wpQuiet_nil (fun nq => ?_))))
                  go_wp2_with fail
                  refine (SQ.out _ (b4 nq)).mono ?_
                  rintro e w5 ⟨b5, ho5⟩
                  rcases ho5 with ⟨h2, rfl⟩ | ⟨h2, _⟩
                  · have B5 := Lib.hid (B3.out.trans ((b4 nq).trans (b5.mono (b4 nq).size) |>.mono B3.out.size))
                    clear SQ b4 b5 x0 x1 x2 x3 x4 zx HB3
                    obtain ⟨y, hy⟩ : ∃ y, y = fleetE f := ⟨_, rfl⟩
                    rw [← hy]
                    have ty : (y == y) = true := by simp
                    clear hy H1 h2
                    have SA := Lib.hid (same027 w5)
                    go_wp2_with fail
                    refine onlyN_intro ?_
                    go_wp2_with fail
                    refine SA.out.mono ?_
                    rintro e w6 ⟨rfl, b6⟩
                    have B6 := Lib.hid (B5.out.trans (b6.mono B5.out.size))
                    clear SA b6 B5
                    have hcl : q < k1 ∨ q = k1 := by omega
                    rcases hcl with hcl | hcl
                    · have tl : (q : Int) < (k1 : Int) := by omega
                      go_wp2_with fail
                      refine (AW.out _).mono ?_
                      rintro e wz ⟨rfl, bz⟩
                      have BZ := Lib.hid (B6.out.trans (bz.mono B6.out.size))
                      clear bz
                      go_wp2_with fail
                      go_returns
                      exact ⟨rfl, BZ.out⟩
                    · obtain rfl := hcl
                      have tl : decide ((q : Int) < (q : Int)) = false := decide_eq_false (by omega)
                      have tl2 : ((0 : Int) == (0 : Int)) = true := by first | (rw [HALLQ.out (by simp)]; simp) | (rw [HALLQ.out]; simp) | simp
                      go_wp2_with fail
                      refine (AW.out _).mono ?_
                      rintro e wz ⟨rfl, bz⟩
                      have BZ := Lib.hid (B6.out.trans (bz.mono B6.out.size))
                      clear bz
                      go_wp2_with fail
                      go_returns
                      exact ⟨rfl, BZ.out⟩
                  · exact absurd h2 H1.out
                · have H1 := Lib.hid h1
                  have R1 := Lib.hid hr1
                  clear h1 b3 hr1
                  go_wp2_with fail
                  (refine region_order (fun i : Nat => World.drewN _ i) [] [0, 1, 2, 3, 4] 5 [6, 7, 8, 9, 10] mixed (by kernel_rfl) ⟨1, rfl⟩ ?_; simp only [List.map_cons, List.map_nil, Array.getD_eq_getD_getElem?, List.getElem?_toArray, List.getElem?_cons_zero, List.getElem?_cons_succ, Option.getD_some]; (repeat (refine wpPure_cons _ rfl (fun w' => by go_simp; try rfl) ?_; dsimp only [Act.put])); refine wpPure_nil ?_; (repeat (any_goals (first | go_big_quiet_step (fail) | quiet_step (fail) | (refine wpQuiet_step (fun K hK => ?_); go_simp; split <;> (refine hK _ ?_; clear hK K))))); (all_goals (refine wpQuiet_nil (fun nq => ?_))))
                  go_wp2_with fail
                  refine (SQ.out _ (b4 nq)).mono ?_
                  rintro e w5 ⟨b5, ho5⟩
                  rcases ho5 with ⟨h2, rfl⟩ | ⟨h2, _, base2, p2, rfl, hr2⟩
                  · exact absurd H1.out h2
                  · have B5 := Lib.hid (B3.out.trans ((b4 nq).trans (b5.mono (b4 nq).size) |>.mono B3.out.size))
                    have b35 : Below w3.heap.size w3 w5 := (below_drewN (Below.refl _ _) nq).trans (b5.mono (by simp))
                    have SA := Lib.hid (same27 base1 p1 f.bikes.toNat base2 p2 (runE f (ents F 0)).1.F w5 (Row.off (X := fun _ => False) R1.out (Off.of_below b35) (fun _ _ h => h)) hr2 (by omega))
                    generalize f.bikes.toNat = nb at *
                    clear SQ b4 b5 b35 x0 x1 x2 x3 x4 zx HB3 R1 hr2 H1 h2
                    go_wp2_with fail
                    refine onlyN_intro ?_
                    go_wp2_with fail
                    refine SA.out.mono ?_
                    rintro e w6 ⟨rfl, b6⟩
                    have B6 := Lib.hid (B5.out.trans (b6.mono B5.out.size))
                    clear SA b6 B5
                    have hcl : q < k1 ∨ q = k1 := by omega
                    rcases hcl with hcl | hcl
                    · have tl : (q : Int) < (k1 : Int) := by omega
                      go_wp2_with fail
                      refine (AW.out _).mono ?_
                      rintro e wz ⟨rfl, bz⟩
                      have BZ := Lib.hid (B6.out.trans (bz.mono B6.out.size))
                      clear bz
                      go_wp2_with fail
                      go_returns
                      exact ⟨rfl, BZ.out⟩
                    · obtain rfl := hcl
                      have tl : decide ((q : Int) < (q : Int)) = false := decide_eq_false (by omega)
                      have tl2 : ((0 : Int) == (0 : Int)) = true := by first | (rw [HALLQ.out (by simp)]; simp) | (rw [HALLQ.out]; simp) | simp
                      go_wp2_with fail
                      refine (AW.out _).mono ?_
                      rintro e wz ⟨rfl, bz⟩
                      have BZ := Lib.hid (B6.out.trans (bz.mono B6.out.size))
                      clear bz
                      go_wp2_with fail
                      go_returns
                      exact ⟨rfl, BZ.out⟩
              | some ad =>
                go_wp2_with fail
                refine RR.out.mono ?_
                rintro e w2 ⟨u2, k2, E2, rfl, l2, r2, b2⟩
                obtain ⟨a2, cp2, rfl, s2⟩ := EvRow.toSl r2
                obtain rfl : k2 = C := by
                  have h9 := congrArg List.length l2
                  rw [ents_len, ← HCE.out, ents_len] at h9; exact h9
                rw [← HCE.out] at l2
                have hm2 := s2.hm
                have hc2 := s2.hc
                have B3 := Lib.hid (B1.out.trans (b2.mono B1.out.size))
                have HF2 := Lib.hid (HF1.out.below b2)
                have SP := Lib.hid (spots26 f a2 k2 cp2 E2 w2 HF2.out s2 (by omega) (fun e he => HFI.out e (by rw [l2, HCE.out] at he; exact List.mem_of_mem_take he)))
                have SQ := Lib.hid (fun w' (hb : Below w2.heap.size w2 w') => spots26 f (some ad) k2 c F w' (HF2.out.below hb) (EvSl.cut (HS.out.below (b2.trans (hb.mono b2.size))) HWL) (by omega) (fun e he => HFI.out e (by rw [HCE.out] at he; exact List.mem_of_mem_take he)))
                rw [l2, HFC.out] at SP
                rw [HFC.out] at SQ
                replace x0 := cell_kept b2 x0
                replace x1 := cell_kept b2 x1
                replace x2 := cell_kept b2 x2
                replace x3 := cell_kept b2 x3
                replace x4 := cell_kept b2 x4
                have zx := szs (cell_lt x0)
                dsimp only at zx
                have tc0 : (0 : Int) ≤ (k2 : Int) := by omega
                have tc2 : decide ((n : Int) < (k2 : Int)) = false := decide_eq_false (by omega)
                have tc1 : (k2 : Int) ≤ (c : Int) := by omega
                have e1 : k2 - 0 = k2 := by omega
                clear RR r2 s2 b2 HS HF1 l2 HCE
                go_wp2_with fail
                refine SP.out.mono ?_
                rintro e w3 ⟨b3, ho3⟩
                have B4 := Lib.hid (B3.out.trans (b3.mono B3.out.size))
                replace x0 := cell_kept b3 x0
                replace x1 := cell_kept b3 x1
                replace x2 := cell_kept b3 x2
                replace x3 := cell_kept b3 x3
                replace x4 := cell_kept b3 x4
                have zx := szs (cell_lt x0)
                dsimp only at zx
                have b4 : ∀ i, Below w2.heap.size w2 (w3.drewN i) := fun i => below_drewN b3 i
                have HB3 := Lib.hid b3
                clear SP
                rcases ho3 with ⟨h1, rfl⟩ | ⟨h1, hbk, base1, p1, rfl, hr1⟩
                · have H1 := Lib.hid h1
                  clear h1 b3
                  go_wp2_with fail
                  (refine region_order (fun i : Nat => World.drewN _ i) [] [0, 1, 2, 3, 4] 5 [6, 7, 8, 9, 10] mixed (by kernel_rfl) ⟨1, rfl⟩ ?_; simp only [List.map_cons, List.map_nil, Array.getD_eq_getD_getElem?, List.getElem?_toArray, List.getElem?_cons_zero, List.getElem?_cons_succ, Option.getD_some]; (repeat (refine wpPure_cons _ rfl (fun w' => by go_simp; try rfl) ?_; dsimp only [Act.put])); refine wpPure_nil ?_; (repeat (any_goals (first | go_big_quiet_step (fail) | quiet_step (fail) | (refine wpQuiet_step (fun K hK => ?_); go_simp; split <;> (refine hK _ ?_; clear hK K))))); (all_goals (refine wpQuiet_nil (fun nq => ?_))))
                  go_wp2_with fail
                  refine (SQ.out _ (b4 nq)).mono ?_
                  rintro e w5 ⟨b5, ho5⟩
                  rcases ho5 with ⟨h2, rfl⟩ | ⟨h2, _⟩
                  · have B5 := Lib.hid (B3.out.trans ((b4 nq).trans (b5.mono (b4 nq).size) |>.mono B3.out.size))
                    clear SQ b4 b5 x0 x1 x2 x3 x4 zx HB3
                    obtain ⟨y, hy⟩ : ∃ y, y = fleetE f := ⟨_, rfl⟩
                    rw [← hy]
                    have ty : (y == y) = true := by simp
                    clear hy H1 h2
                    have SA := Lib.hid (same027 w5)
                    go_wp2_with fail
                    refine onlyN_intro ?_
                    go_wp2_with fail
                    refine SA.out.mono ?_
                    rintro e w6 ⟨rfl, b6⟩
                    have B6 := Lib.hid (B5.out.trans (b6.mono B5.out.size))
                    clear SA b6 B5
                    have hcl : q < k1 ∨ q = k1 := by omega
                    rcases hcl with hcl | hcl
                    · have tl : (q : Int) < (k1 : Int) := by omega
                      go_wp2_with fail
                      refine (AW.out _).mono ?_
                      rintro e wz ⟨rfl, bz⟩
                      have BZ := Lib.hid (B6.out.trans (bz.mono B6.out.size))
                      clear bz
                      go_wp2_with fail
                      go_returns
                      exact ⟨rfl, BZ.out⟩
                    · obtain rfl := hcl
                      have tl : decide ((q : Int) < (q : Int)) = false := decide_eq_false (by omega)
                      have tl2 : ((k2 : Int) == (n : Int)) = true := by first | (rw [HALLQ.out (by simp)]; simp) | (rw [HALLQ.out]; simp) | simp
                      go_wp2_with fail
                      refine (AW.out _).mono ?_
                      rintro e wz ⟨rfl, bz⟩
                      have BZ := Lib.hid (B6.out.trans (bz.mono B6.out.size))
                      clear bz
                      go_wp2_with fail
                      go_returns
                      exact ⟨rfl, BZ.out⟩
                  · exact absurd h2 H1.out
                · have H1 := Lib.hid h1
                  have R1 := Lib.hid hr1
                  clear h1 b3 hr1
                  go_wp2_with fail
                  (refine region_order (fun i : Nat => World.drewN _ i) [] [0, 1, 2, 3, 4] 5 [6, 7, 8, 9, 10] mixed (by kernel_rfl) ⟨1, rfl⟩ ?_; simp only [List.map_cons, List.map_nil, Array.getD_eq_getD_getElem?, List.getElem?_toArray, List.getElem?_cons_zero, List.getElem?_cons_succ, Option.getD_some]; (repeat (refine wpPure_cons _ rfl (fun w' => by go_simp; try rfl) ?_; dsimp only [Act.put])); refine wpPure_nil ?_; (repeat (any_goals (first | go_big_quiet_step (fail) | quiet_step (fail) | (refine wpQuiet_step (fun K hK => ?_); go_simp; split <;> (refine hK _ ?_; clear hK K))))); (all_goals (refine wpQuiet_nil (fun nq => ?_))))
                  go_wp2_with fail
                  refine (SQ.out _ (b4 nq)).mono ?_
                  rintro e w5 ⟨b5, ho5⟩
                  rcases ho5 with ⟨h2, rfl⟩ | ⟨h2, _, base2, p2, rfl, hr2⟩
                  · exact absurd H1.out h2
                  · have B5 := Lib.hid (B3.out.trans ((b4 nq).trans (b5.mono (b4 nq).size) |>.mono B3.out.size))
                    have b35 : Below w3.heap.size w3 w5 := (below_drewN (Below.refl _ _) nq).trans (b5.mono (by simp))
                    have SA := Lib.hid (same27 base1 p1 f.bikes.toNat base2 p2 (runE f (ents F k2)).1.F w5 (Row.off (X := fun _ => False) R1.out (Off.of_below b35) (fun _ _ h => h)) hr2 (by omega))
                    generalize f.bikes.toNat = nb at *
                    clear SQ b4 b5 b35 x0 x1 x2 x3 x4 zx HB3 R1 hr2 H1 h2
                    go_wp2_with fail
                    refine onlyN_intro ?_
                    go_wp2_with fail
                    refine SA.out.mono ?_
                    rintro e w6 ⟨rfl, b6⟩
                    have B6 := Lib.hid (B5.out.trans (b6.mono B5.out.size))
                    clear SA b6 B5
                    have hcl : q < k1 ∨ q = k1 := by omega
                    rcases hcl with hcl | hcl
                    · have tl : (q : Int) < (k1 : Int) := by omega
                      go_wp2_with fail
                      refine (AW.out _).mono ?_
                      rintro e wz ⟨rfl, bz⟩
                      have BZ := Lib.hid (B6.out.trans (bz.mono B6.out.size))
                      clear bz
                      go_wp2_with fail
                      go_returns
                      exact ⟨rfl, BZ.out⟩
                    · obtain rfl := hcl
                      have tl : decide ((q : Int) < (q : Int)) = false := decide_eq_false (by omega)
                      have tl2 : ((k2 : Int) == (n : Int)) = true := by first | (rw [HALLQ.out (by simp)]; simp) | (rw [HALLQ.out]; simp) | simp
                      go_wp2_with fail
                      refine (AW.out _).mono ?_
                      rintro e wz ⟨rfl, bz⟩
                      have BZ := Lib.hid (B6.out.trans (bz.mono B6.out.size))
                      clear bz
                      go_wp2_with fail
                      go_returns
                      exact ⟨rfl, BZ.out⟩
end Go.Proofs.Ytlnfhlmgnppcbaa
