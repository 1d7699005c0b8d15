/- slices.CompactFunc at levels: the first of each run of one count. -/
import Derived.Test.YtlnfhlmgnppcbaaGreatZLC0
import Derived.BigQuiet
import Derived.BigRegion
namespace Go.Proofs.YtlnfhlmgnppcbaaGreat
open Go.RowKit Go.ChangeShapes Go.WideShapes Go.Deep
set_option linter.unusedVariables false
set_option linter.unusedSimpArgs false
theorem eq40 (a b : Int × Int) (w : World) : Calls Tryz.prog 40 #[.agg #[.int .i64 a.1, .int .i64 a.2], .agg #[.int .i64 b.1, .int .i64 b.2]] w fun e w' => e = .returned (.bool (decide (a.2 = b.2))) ∧ Grew w w' := by
  obtain ⟨a1, a2⟩ := a
  obtain ⟨b1, b2⟩ := b
  dsimp only
  have BB : Hid (Grew w ((w.alloc (.cells #[.int .i64 a1, .int .i64 a2] 46)).alloc (.cells #[.int .i64 b1, .int .i64 b2] 46))) := Lib.hid (by (repeat' (first | (with_reducible exact Grew.refl _) | (with_reducible assumption) | (with_reducible refine Grew.drew ?_) | (with_reducible refine Grew.drewN ?_ _) | (with_reducible refine Grew.alloc ?_ _))))
  by_cases h : a2 = b2
  · subst h
    have t : decide (a2 = a2) = true := decide_eq_true rfl
    go_enter Tryz.func40, Tryz.ntmps40
    go_wp2_with fail
    go_returns
    exact ⟨by simp, BB.out⟩
  · have t : (a2 == b2) = false := by simpa using h
    have t2 : decide (a2 = b2) = false := decide_eq_false h
    go_enter Tryz.func40, Tryz.ntmps40
    go_wp2_with fail
    go_returns
    exact ⟨by simp [h], BB.out⟩
def DdW (w : World) (base b n c : Nat) (F : Nat → Int × Int) (e : Ending) (w' : World) : Prop :=
  ∃ (m : Nat) (F' : Nat → Int × Int), e = .returned (.slice (some ⟨b, 0, none⟩) m c) ∧ m ≤ n ∧ ents F' m = ddL (ents F n) ∧ LvR w' base (.slice (some ⟨b, 0, none⟩) m c) m F' ∧ Off (fun k => k = b) w w'
set_option maxHeartbeats 4000000 in
theorem compact39 (base b n c : Nat) (F : Nat → Int × Int) (w : World) (hR : LvR w base (.slice (some ⟨b, 0, none⟩) n c) n F) : Calls Tryz.prog 39 #[.slice (some ⟨b, 0, none⟩) n c, .func (.func 40) #[] #[]] w (DdW w base b n c F) := by
  obtain ⟨hb, hn, hc⟩ : b < w.heap.size ∧ n ≤ c ∧ c ≤ 9223372036854775807 := by
    rcases Row.shape hR with ⟨h, _⟩ | ⟨g', cap', he, _, h1, h2, h3⟩
    · cases h
    · cases he; exact ⟨h1, h2, h3⟩
  have HR := Lib.hid hR
  clear hR
  have zb := szs hb
  by_cases h2 : n < 2
  · have t2 : (n : Int) < 2 := by omega
    have HF := Lib.hid (dd_few F h2)
    clear h2
    go_enter Tryz.func39, Tryz.ntmps39
    go_wp2_with fail
    go_returns
    exact ⟨n, F, rfl, Nat.le_refl _, HF.out.symm, HR.out, Off.refl _ _⟩
  · have t2 : (2 : Int) ≤ (n : Int) := by omega
    go_enter Tryz.func39, Tryz.ntmps39
    go_wp2_with fail
    go_loopw [5] (fun i wr => ∃ k : Nat, i = .int .i64 k ∧ 1 ≤ k ∧ k ≤ n ∧ Hid (ddL (ents F k) = ents F k ∧ Below w.heap.size w wr)) (fun i _ => n - (intOf i).toNat)
    case atStart => exact ⟨1, rfl, by omega, by omega, Lib.hid ⟨rfl, by (repeat' (first | (with_reducible exact Below.refl _ _) | (with_reducible assumption) | (with_reducible refine Below.drew ?_) | (with_reducible refine below_drewN ?_ _) | (with_reducible refine Below.alloc ?_ ?_ _) | (with_reducible refine Below.setCell ?_ ?_ _) | go_size))⟩⟩
    case round =>
      obtain ⟨k, rfl, hk1, hk, hrel⟩ := hrel
      obtain ⟨kk, rfl⟩ : ∃ kk, k = kk + 1 := ⟨k - 1, by omega⟩
      by_cases hlt : kk + 1 < n
      · have k1 : ((kk : Int) + 1) < (n : Int) := by omega
        have k2 : (kk : Int) < (n : Int) := by omega
        have C47 := fun w' => eq40 (F (kk + 1)) (F kk) w'
        have RR : LvR wr base (.slice (some ⟨b, 0, none⟩) n c) n F := Row.off (X := fun _ => False) HR.out (Off.of_below hrel.out.2) (fun _ _ h => h)
        have A1 := RR.at hlt
        have A0 := RR.at (show kk < n by omega)
        have zr := szs (Nat.lt_of_lt_of_le hb hrel.out.2.size)
        have HE : Hid ((F (kk + 1)).2 = (F kk).2 ↔ decide ((F (kk + 1)).2 = (F kk).2) = true) := Lib.hid (decide_eq_true_iff).symm
        obtain ⟨r, hr⟩ : ∃ r, r = decide ((F (kk + 1)).2 = (F kk).2) := ⟨_, rfl⟩
        obtain ⟨v, hv⟩ : ∃ v, v = F (kk + 1) := ⟨_, rfl⟩
        obtain ⟨u, hu⟩ : ∃ u, u = F kk := ⟨_, rfl⟩
        rw [← hr] at C47 HE
        rw [← hv] at A1 C47
        rw [← hu] at A0 C47
        clear RR hr hv hu
        obtain ⟨v1, v2⟩ := v
        obtain ⟨n1, n2⟩ := u
        obtain ⟨a0, a1⟩ := A1
        obtain ⟨d0, d1⟩ := A0
        dsimp only at C47 a0 a1 d0 d1
        have C47 := Lib.hid C47
        have HREL := hrel
        clear hrel
        go_wp2_with fail
        (obtain ⟨ι, hne, Fw, fb, hF⟩ := dfamily wr); have hF : ∀ w', (dPlan wr (fun i => .bool r) [10] [] []).D () w' → ∃ i, w' = Fw i := hF
        have f0 := fun i => cell_kept (fb i) a0
        have f1 := fun i => cell_kept (fb i) a1
        have g0 := fun i => cell_kept (fb i) d0
        have g1 := fun i => cell_kept (fb i) d1
        clear a0 a1 d0 d1
        (refine region_chain (dPlan wr (fun i => .bool r) [10] [] []) () [] [0, 1, 2, 3, 4, 5, 6, 7, 8, 9, 10] [] mixed (by kernel_rfl) (by kernel_rfl) (dPlan_ok (by simp) (by simp)) (dPlan_start _ _ _ _ _) ?_; refine wpPure_nil ?_; simp only [List.map_cons, List.map_nil, Array.getD_eq_getD_getElem?, List.getElem?_toArray, List.getElem?_cons_zero, List.getElem?_cons_succ, Option.getD_some])
        (repeat (first | (refine wpChain_skip rfl ?_; simp only [Act.put, List.setIfInBounds_toArray, List.set_cons_succ, List.set_cons_zero]) | (refine wpChain_quiet hF rfl rfl rfl ?_; intro K hK; go_big_quiet_op; go_big_quiet_on) | (refine wpChain_pure _ rfl rfl (fun w' _ => by go_simp; try rfl) ?_; simp only [Act.put, List.setIfInBounds_toArray, List.set_cons_succ, List.set_cons_zero])))
        refine wpChain_dcall 40 _ rfl rfl (fun w' => by go_simp) (fun w' hb => C47.out w') ?_
        simp only [Act.put, List.setIfInBounds_toArray, List.set_cons_succ, List.set_cons_zero]
        refine wpChain_nil (fun w4 hb4 hl4 => ?_)
        have B4 : Hid (Grew wr w4) := hb4
        clear hb4 hl4 hF fb hne C47 f0 f1 g0 g1
        go_wp2_with fail
        refine onlyN_intro ?_
        cases r
        · go_wp2_with fail
          go_roundw
          case rel =>
            refine ⟨kk + 2, by go_num, by omega, by omega, Lib.hid ⟨?_, ?_⟩⟩
            · rw [dd_step F (by omega), HREL.out.1, ents_succ F (kk + 1), if_neg]
              rw [Nat.add_sub_cancel, HE.out]; decide
            · exact HREL.out.2.trans (B4.out.1.mono HREL.out.2.size)
          case measure => simp [intOf]; omega
        · have HEQ : Hid (ddL (ents F (kk + 2)) = ents F (kk + 1)) := Lib.hid (by
            rw [dd_step F (show 0 < kk + 1 by omega), if_pos (by rw [Nat.add_sub_cancel, HE.out]), HREL.out.1])
          have BW := Lib.hid (HREL.out.2.trans (B4.out.1.mono HREL.out.2.size))
          have O4 := Lib.hid (Off.of_below (X := fun k => k = b) BW.out)
          clear HREL B4 C47 HE hF zr
          go_wp2_with fail
          obtain ⟨m, hm⟩ : ∃ m, n - (kk + 1) = m := ⟨_, rfl⟩
          obtain ⟨c2, hc2⟩ : ∃ c2, c - (kk + 1) = c2 := ⟨_, rfl⟩
          rw [hm, hc2]
          have hmn : kk + 1 + m = n := by omega
          have hm1 : m ≤ c2 := by omega
          have hm2 : c2 ≤ 9223372036854775807 := by omega
          clear hm hc2 ι Fw
          go_loopw [5, 7] (fun s5 s7 wr => ∃ (j i : Nat) (F' : Nat → Int × Int), s5 = .int .i64 j ∧ s7 = .int .i64 ((i : Int) + 1) ∧ i + 1 ≤ m ∧ j ≤ kk + 1 + i ∧ Hid (ents F' j = ddL (ents F (kk + 1 + (i + 1))) ∧ (∀ x, j ≤ x → F' x = F x) ∧ LvR wr base (.slice (some ⟨b, 0, none⟩) n c) n F' ∧ Off (fun k => k = b) w wr)) (fun _ s7 _ => m - (intOf s7).toNat)
          case atStart => exact ⟨kk + 1, 0, F, rfl, rfl, by omega, by omega, Lib.hid ⟨HEQ.out.symm, fun x _ => rfl, Row.off (X := fun _ => False) HR.out (Off.of_below BW.out) (fun _ _ h => h), O4.out⟩⟩
          case round =>
            obtain ⟨j, i, F', rfl, rfl, hi, hj, hrel⟩ := hrel
            have HREL := hrel
            clear hrel O4 BW HEQ
            have zr := szs (Nat.lt_of_lt_of_le hb HREL.out.2.2.2.size)
            by_cases hlt2 : i + 1 < m
            · have i1 : ((i : Int) + 1) < (m : Int) := by omega
              have i2 : (i : Int) < (m : Int) := by omega
              have RR := HREL.out.2.2.1
              have A1 := RR.at2 (k := kk + 1) (i := i + 1) (by omega)
              have A0 := RR.at2 (k := kk + 1) (i := i) (by omega)
              have e1 : F' (kk + 1 + (i + 1)) = F (kk + 1 + (i + 1)) := HREL.out.2.1 _ (by omega)
              have e0 : F' (kk + 1 + i) = F (kk + 1 + i) := HREL.out.2.1 _ (by omega)
              rw [e1] at A1
              rw [e0] at A0
              have C47 := fun w' => eq40 (F (kk + 1 + (i + 1))) (F (kk + 1 + i)) w'
              have HE : Hid ((F (kk + 1 + (i + 1))).2 = (F (kk + 1 + i)).2 ↔ decide ((F (kk + 1 + (i + 1))).2 = (F (kk + 1 + i)).2) = true) := Lib.hid (decide_eq_true_iff).symm
              obtain ⟨r, hr⟩ : ∃ r, r = decide ((F (kk + 1 + (i + 1))).2 = (F (kk + 1 + i)).2) := ⟨_, rfl⟩
              obtain ⟨v, hv⟩ : ∃ v, v = F (kk + 1 + (i + 1)) := ⟨_, rfl⟩
              obtain ⟨u, hu⟩ : ∃ u, u = F (kk + 1 + i) := ⟨_, rfl⟩
              rw [← hr] at C47 HE
              rw [← hv] at A1 C47
              rw [← hu] at A0 C47
              have HV := Lib.hid hv
              clear RR hr hv hu e1 e0
              obtain ⟨x1, x2⟩ := v
              obtain ⟨y1, y2⟩ := u
              obtain ⟨a0, a1⟩ := A1
              obtain ⟨d0, d1⟩ := A0
              dsimp only at C47 a0 a1 d0 d1
              have C47 := Lib.hid C47
              go_wp2_with fail
              (obtain ⟨ι, hne, Fw, fb, hF⟩ := dfamily wr); have hF : ∀ w', (dPlan wr (fun i => .bool r) [10] [] []).D () w' → ∃ i, w' = Fw i := hF
              have f0 := fun i => cell_kept (fb i) a0
              have f1 := fun i => cell_kept (fb i) a1
              have g0 := fun i => cell_kept (fb i) d0
              have g1 := fun i => cell_kept (fb i) d1
              clear a0 a1 d0 d1
              (refine region_chain (dPlan wr (fun i => .bool r) [10] [] []) () [] [0, 1, 2, 3, 4, 5, 6, 7, 8, 9, 10, 11] [] mixed (by kernel_rfl) (by kernel_rfl) (dPlan_ok (by simp) (by simp)) (dPlan_start _ _ _ _ _) ?_; refine wpPure_nil ?_; simp only [List.map_cons, List.map_nil, Array.getD_eq_getD_getElem?, List.getElem?_toArray, List.getElem?_cons_zero, List.getElem?_cons_succ, Option.getD_some])
              (repeat (first | (refine wpChain_skip rfl ?_; simp only [Act.put, List.setIfInBounds_toArray, List.set_cons_succ, List.set_cons_zero]) | (refine wpChain_quiet hF rfl rfl rfl ?_; intro K hK; go_big_quiet_op; go_big_quiet_on) | (refine wpChain_pure _ rfl rfl (fun w' _ => by go_simp; try rfl) ?_; simp only [Act.put, List.setIfInBounds_toArray, List.set_cons_succ, List.set_cons_zero])))
              refine wpChain_dcall 40 _ rfl rfl (fun w' => by go_simp) (fun w' hb => C47.out w') ?_
              simp only [Act.put, List.setIfInBounds_toArray, List.set_cons_succ, List.set_cons_zero]
              (repeat (first | (refine wpChain_skip rfl ?_; simp only [Act.put, List.setIfInBounds_toArray, List.set_cons_succ, List.set_cons_zero]) | (refine wpChain_quiet hF rfl rfl rfl ?_; intro K hK; go_big_quiet_op; go_big_quiet_on) | (refine wpChain_pure _ rfl rfl (fun w' _ => by go_simp; try rfl) ?_; simp only [Act.put, List.setIfInBounds_toArray, List.set_cons_succ, List.set_cons_zero])))
              refine wpChain_nil (fun w4 hb4 hl4 => ?_)
              have B4 : Hid (Grew wr w4) := hb4
              clear hb4 hl4 hF fb hne C47 f0 f1 g0 g1
              go_wp2_with fail
              refine onlyN_intro ?_
              have RR4 : LvR w4 base (.slice (some ⟨b, 0, none⟩) n c) n F' := Row.off (X := fun _ => False) HREL.out.2.2.1 (Off.of_below B4.out.1) (fun _ _ h => h)
              have z4 := szs (Nat.lt_of_lt_of_le hb (Nat.le_trans HREL.out.2.2.2.size B4.out.1.size))
              have ST := dd_step F (show 0 < kk + 1 + (i + 1) by omega)
              have e2 : kk + 1 + (i + 1) - 1 = kk + 1 + i := by omega
              rw [e2] at ST
              have OW := Lib.hid (HREL.out.2.2.2.trans (Off.of_below (X := fun k => k = b) B4.out.1) (fun _ _ h => h))
              cases r
              · rw [if_neg (by rw [HE.out]; decide)] at ST
                have HST := Lib.hid ST
                have A2 := RR4.at2 (k := kk + 1) (i := i + 1) (by omega)
                have A3 := RR4.at (show j < n by omega)
                have e1 : F' (kk + 1 + (i + 1)) = F (kk + 1 + (i + 1)) := HREL.out.2.1 _ (by omega)
                rw [e1, ← HV.out] at A2
                have fr : ∀ o, w4.frozen? ⟨b, o, none⟩ = false := fun o => Row.free RR4 o
                have tj : (j : Int) < (n : Int) := by omega
                have HR4 := Lib.hid RR4
                obtain ⟨a0, a1⟩ := A2
                obtain ⟨d0, d1⟩ := A3
                dsimp only at a0 a1
                clear ST e2 RR4 e1 zr HE
                go_wp2_with fail
                go_roundw
                case rel =>
                  have hput := (HR4.out).put (show j < n by omega) (x1, x2)
                  refine ⟨j + 1, i + 1, upd F' j (F (kk + 1 + (i + 1))), by go_num, by go_num, by omega, by omega, Lib.hid ⟨?_, fun x hx => ?_, ?_, ?_⟩⟩
                  · rw [ents_push, HREL.out.1]; exact HST.out.symm
                  · rw [upd_ne (by omega)]; exact HREL.out.2.1 x (by omega)
                  · rw [← HV.out]; exact hput
                  · exact off_putCells (X := fun k => k = b) rfl [.int .i64 x1, .int .i64 x2] (j * 2) w4 OW.out
                case measure => simp [intOf]; omega
              · rw [if_pos (by rw [HE.out])] at ST
                have HST := Lib.hid ST
                have HR4 := Lib.hid RR4
                clear ST e2 RR4 zr HE
                go_wp2_with fail
                go_roundw
                case rel =>
                  exact ⟨j, i + 1, F', rfl, by go_num, by omega, by omega, Lib.hid ⟨HREL.out.1.trans HST.out.symm, HREL.out.2.1, HR4.out, OW.out⟩⟩
                case measure => simp [intOf]; omega
            · obtain rfl : m = i + 1 := by omega
              obtain ⟨w5, hcl, hr5, ho5⟩ := clear_rest (P := Tryz.prog) (fun i => lvf_len F' i) HREL.out.2.2.1 (k := j) (by omega) Tryz.underlying42 (zv := .agg #[.int .i64 0, .int .i64 0]) (fun w => by kernel_rfl) (by rfl) (by simp [Value.cells]; rfl)
              have H5 := Lib.hid hr5
              have O5 := Lib.hid ho5
              have tj : (j : Int) ≤ (n : Int) := by omega
              have tc : (j : Int) ≤ (c : Int) := by omega
              clear hr5 ho5
              go_wp2_with fail
              go_returns
              refine ⟨j, F', rfl, by omega, ?_, H5.out, HREL.out.2.2.2.trans O5.out (fun _ _ h => h)⟩
              rw [HREL.out.1, hmn]
      · obtain rfl : n = kk + 1 := by omega
        go_wp2_with fail
        go_returns
        exact ⟨_, F, rfl, Nat.le_refl _, hrel.out.1.symm, Row.off (X := fun _ => False) HR.out (Off.of_below hrel.out.2) (fun _ _ h => h), Off.of_below hrel.out.2⟩
end Go.Proofs.YtlnfhlmgnppcbaaGreat
