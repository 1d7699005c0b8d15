/- The reference's Bound. -/
import Derived.Test.YtanpefjbmpohdaaBD20
namespace Go.Proofs.Ytanpefjbmpohdaa
open Go.RowKit Go.ChangeShapes Go.WideShapes Go.Deep
set_option linter.unusedVariables false
set_option linter.unusedSimpArgs false
def One (W0 wr : World) (ba : Nat) (A : Int → Int) : Prop := wr.heap[ba]? = some (.cells (arr A) 56 (0, 0)) ∧ Below W0.heap.size W0 wr ∧ W0.heap.size ≤ ba
theorem One.below {W0 wr w' : World} {ba : Nat} {A : Int → Int} (h : One W0 wr ba A) (hb : Below wr.heap.size wr w') : One W0 w' ba A :=
  ⟨(hb.block _ (block_lt h.1)).trans h.1, h.2.1.trans (hb.mono h.2.1.size), h.2.2⟩
theorem One.set {W0 wr : World} {ba : Nat} {A : Int → Int} (h : One W0 wr ba A) {s : Nat} (hs : s < 8) (x : Int) : One W0 (wr.setCell ⟨ba, s, none⟩ (.int .i64 x)) ba (upz A s x) := by
  refine ⟨?_, h.2.1.setCell h.2.2 _, h.2.2⟩
  rw [setCell_at h.1, setAt_same (block_lt h.1), arr_set A hs]
set_option maxHeartbeats 8000000 in
set_option maxRecDepth 100000 in
theorem bound21 (ao am : Option Addr) (m c k c2 : Nat) (J : Nat → Jb) (M : Nat → Int) (w : World) (h : Sl w 3 ao m c (jf J)) (h2 : Sl w 1 am k c2 (mf M)) :
    Calls Try.prog 21 #[.slice ao m c, .slice am k c2] w fun e w' => Bnd w m J k M e w' := by
  have hmc := h.hm
  have hcc := h.hc
  have hkc := h2.hm
  have hcc2 := h2.hc
  have HS := Lib.hid h
  have HM := Lib.hid h2
  have HC := Lib.hid (check14 ao am m c k c2 J M w h h2)
  clear h h2
  by_cases hc : chkE m J k M = 0
  · rw [hc] at HC
    have CZ := chk_zero hc
    have hm32 := CZ.1
    have hk8 := CZ.2.1
    have HCZ := Lib.hid CZ.2.2
    have H0 := Lib.hid hc
    clear CZ hc
    go_enter Try.func21, Try.ntmps21
    go_wp2_with fail
    refine HC.out.mono ?_
    rintro e w1 ⟨rfl, b1⟩
    have B1 := Lib.hid b1
    clear b1 HC
    go_wp2_with fail
    obtain ⟨ba, hba⟩ : ∃ ba, ba = w1.heap.size := ⟨_, rfl⟩
    have S0 : Hid (One w (w1.alloc (.cells (arr (fun _ => 0)) 56)) ba (skL J 0)) := Lib.hid (by
      refine ⟨?_, B1.out.alloc B1.out.size _, by rw [hba]; exact B1.out.size⟩
      rw [hba]; exact heap_alloc_new w1 _)
    rw [← hba]
    clear hba
    unfold arr at S0
    generalize w1.alloc (.cells #[.int .i64 0, .int .i64 0, .int .i64 0, .int .i64 0, .int .i64 0, .int .i64 0, .int .i64 0, .int .i64 0] 56) = ws at *
    go_loopw [10, 7, 8] (fun i b a wr => ∃ j : Nat, i = .int .i64 j ∧ j ≤ m ∧ b = .int .i64 (mostL J j) ∧ a = .int .i64 (sumL J j) ∧ Hid (One w wr ba (skL J j))) (fun i _ _ _ => m - (intOf i).toNat)
    case atStart => exact ⟨0, rfl, by omega, rfl, rfl, S0⟩
    case round =>
      clear S0 B1
      obtain ⟨j, rfl, hj, rfl, rfl, hrel⟩ := hrel
      by_cases hlt : j < m
      · have tj : (j : Int) < (m : Int) := by omega
        obtain ⟨wo, rfl⟩ : ∃ wo : World, wo = wr := ⟨_, rfl⟩
        obtain ⟨gj, oj, rfl, hgj, j0, j1, j2⟩ := (HS.out.below hrel.out.2.1).job hlt
        have zj := szs hgj
        obtain ⟨_, _, hs1, hs2, hk0, hk1, _⟩ := HCZ.out j hlt
        have sr := sumL_range (fine_secs H0.out) hj
        obtain ⟨s, hs⟩ : ∃ s : Nat, (J j).skill = (s : Int) := ⟨(J j).skill.toNat, by omega⟩
        have kr := skL_range (fine_secs H0.out) (s : Int) hj
        have KS := skL_step J j hs
        have hs8 : s < 8 := by omega
        have ts : (s : Int) < 8 := by omega
        have za := szs (block_lt hrel.out.1)
        rw [hs] at j2
        have HMS : Hid (mostL J (j + 1) = mx (mostL J j) (J j).secs) := Lib.hid rfl
        have HSS : Hid (sumL J (j + 1) = sumL J j + (J j).secs) := Lib.hid rfl
        obtain ⟨x, hx⟩ : ∃ x, x = (J j).secs := ⟨_, rfl⟩
        rw [← hx] at j1 hs1 hs2 KS HMS HSS
        have HKS := Lib.hid KS
        have w1 : IntKind.i64.wrap (sumL J j + x) = sumL J j + x := IntWalk.i64_in _ (by omega)
        have w2 : IntKind.i64.wrap (skL J j s + x) = skL J j s + x := IntWalk.i64_in _ (by omega)
        have HR := hrel
        clear hrel hx KS hs hk0 hk1 sr kr j0
        obtain ⟨y, hy⟩ : ∃ y, y = skL J j s := ⟨_, rfl⟩
        rw [← hy] at w2
        have HY := Lib.hid hy
        clear hy
        have ca : wo.cell? ⟨ba, s, none⟩ = some (.int .i64 y) := by rw [cell_at HR.out.1, arr_get _ hs8, HY.out]
        have fa := free_at HR.out.1 s
        by_cases hmx : mostL J j < x
        all_goals
          have hmv : mostL J (j + 1) = (if mostL J j < x then x else mostL J j) := HMS.out
          simp only [hmx, if_true, if_false] at hmv
          have HMV := Lib.hid hmv
          first | (have hge : x ≤ mostL J j := by omega) | skip
          clear hmv HMS
          generalize mostL J j = mo at *
          generalize sumL J j = su at *
          go_wp2_with fail
          (focus (refine region_order (fun i : Nat => World.drewN _ i) [] [0, 1, 2, 3, 4, 5, 6, 7, 8, 9, 10, 11, 12, 13, 14, 15, 16, 17, 18] 19 [] mixed (by kernel_rfl) ⟨1, rfl⟩ ?_; simp only [List.map_cons, List.map_nil, Array.getD_eq_getD_getElem?, List.getElem?_toArray, List.getElem?_cons_zero, List.getElem?_cons_succ, Option.getD_some]; (repeat (refine wpPure_cons _ rfl (fun w' => by go_simp; try rfl) ?_; dsimp only [Act.put])); refine wpPure_nil ?_; (repeat (any_goals (first | go_big_quiet_step (fail) | quiet_step (fail) | (refine wpQuiet_step (fun K hK => ?_); go_simp; split <;> (refine hK _ ?_; clear hK K))))); (all_goals (refine wpQuiet_nil (fun nq => ?_)))))
          go_wp2_with fail
          refine onlyN_intro ?_
          go_wp2_with fail
          go_roundw
          case rel => exact ⟨j + 1, by go_num, by omega, by rw [HMV.out], by rw [HSS.out], Lib.hid (by rw [HKS.out, ← HY.out]; exact (HR.out.below (below_drewN (Below.refl _ _) nq)).set hs8 (y + x))⟩
          case measure => simp [intOf]; omega
      · obtain rfl : j = m := by omega
        by_cases h00 : j = 0
        · subst h00
          have hp := Lib.hid (Bnd.done H0.out hrel.out.2.1)
          rw [bndV_none] at hp
          clear hrel
          go_wp2_with fail
          go_returns
          exact hp.out
        · have tj0 : ((j : Int) == 0) = false := by simp [h00]
          obtain ⟨hk0, hf⟩ := ref_first H0.out (show 0 < j by omega)
          have sr := sumL_range (fine_secs H0.out) (Nat.le_refl j)
          have mr := mostL_range (fine_secs H0.out) (Nat.le_refl j)
          have cr := cei_range sr.1 hk0
          have HR := hrel
          have HF := Lib.hid hf
          have w1 : IntKind.i64.wrap (sumL J j + k) = sumL J j + k := IntWalk.i64_in _ (by omega)
          have w2 : IntKind.i64.wrap (sumL J j + k - 1) = sumL J j + k - 1 := IntWalk.i64_in _ (by omega)
          have w3 : Int.tdiv (sumL J j + k - 1) k = cei (sumL J j) k := Int.tdiv_eq_ediv_of_nonneg (by omega)
          have w4 : IntKind.i64.wrap (cei (sumL J j) k) = cei (sumL J j) k := IntWalk.i64_in _ (by omega)
          have tz : ((k : Int) == 0) = false := by simp; omega
          have tk0 : (0 : Int) < (k : Int) := by omega
          obtain ⟨wo, rfl⟩ : ∃ wo : World, wo = wr := ⟨_, rfl⟩
          clear hrel hf
          have hv0 : bdK j J k M 0 = (if mostL J j < cei (sumL J j) k then cei (sumL J j) k else mostL J j) := HF.out
          by_cases hmx : mostL J j < cei (sumL J j) k
          all_goals
            simp only [hmx, if_true, if_false] at hv0
            have HV0 := Lib.hid hv0
            first | (have hge : cei (sumL J j) k ≤ mostL J j := by omega) | skip
            clear hv0
            go_wp2_with fail
            clear w1 w2 w3 w4 tz
            go_loopw [12, 7] (fun i b wr => ∃ s : Nat, i = .int .i64 s ∧ s ≤ 8 ∧ b = .int .i64 (bdK j J k M s) ∧ Hid (One w wr ba (skL J j))) (fun i _ _ => 8 - (intOf i).toNat)
            case atStart => exact ⟨0, rfl, by omega, by rw [HV0.out], HR⟩
            case round =>
              clear HR HV0
              obtain ⟨s, rfl, hs, rfl, hrel⟩ := hrel
              by_cases hlt2 : s < 8
              · have ts : (s : Int) < 8 := by omega
                obtain ⟨wo2, rfl⟩ : ∃ wo2 : World, wo2 = wr := ⟨_, rfl⟩
                have CT := Lib.hid (count29 am k c2 M s wo2 (HM.out.below hrel.out.2.1))
                have RS := ref_step H0.out s
                have HR := hrel
                have HRS := Lib.hid RS
                have kr := skL_range (fine_secs H0.out) (s : Int) (Nat.le_refl j)
                have hcl := cnt_le M s k
                clear hrel RS
                go_wp2_with fail
                refine CT.out.mono ?_
                rintro e w2 ⟨rfl, b2⟩
                have H2 := Lib.hid (HR.out.below b2)
                clear b2
                obtain ⟨a, ha⟩ : ∃ a, a = skL J j s := ⟨_, rfl⟩
                have ca : w2.cell? ⟨ba, s, none⟩ = some (.int .i64 a) := by rw [cell_at H2.out.1, arr_get _ hlt2, ha]
                have za := szs (block_lt H2.out.1)
                rw [← ha] at kr HRS
                by_cases hp : 0 < a
                · obtain ⟨hc0, hst⟩ := HRS.out.1 hp
                  have cr2 := cei_range kr.1 hc0
                  have w1 : IntKind.i64.wrap (a + cnt M s k) = a + cnt M s k := IntWalk.i64_in _ (by omega)
                  have w2 : IntKind.i64.wrap (a + cnt M s k - 1) = a + cnt M s k - 1 := IntWalk.i64_in _ (by omega)
                  have w3 : Int.tdiv (a + cnt M s k - 1) (cnt M s k) = cei a (cnt M s k) := Int.tdiv_eq_ediv_of_nonneg (by omega)
                  have w4 : IntKind.i64.wrap (cei a (cnt M s k)) = cei a (cnt M s k) := IntWalk.i64_in _ (by omega)
                  have tz : ((cnt M s k : Int) == 0) = false := by simp; omega
                  have tk1 : (0 : Int) < (cnt M s k : Int) := by omega
                  have hv : bdK j J k M (s + 1) = (if bdK j J k M s < cei a (cnt M s k) then cei a (cnt M s k) else bdK j J k M s) := hst
                  clear ha HRS hst
                  by_cases hmx2 : bdK j J k M s < cei a (cnt M s k)
                  all_goals
                    simp only [hmx2, if_true, if_false] at hv
                    have HV := Lib.hid hv
                    first | (have hge2 : cei a (cnt M s k) ≤ bdK j J k M s := by omega) | skip
                    clear hv
                    go_wp2_with fail
                    go_roundw
                    case rel => exact ⟨s + 1, by go_num, by omega, by rw [HV.out], H2⟩
                    case measure => simp [intOf]; omega
                · have hst := HRS.out.2 (by omega)
                  have HV := Lib.hid hst
                  clear ha HRS hst
                  go_wp2_with fail
                  go_roundw
                  case rel => exact ⟨s + 1, by go_num, by omega, by rw [HV.out], H2⟩
                  case measure => simp [intOf]; omega
              · obtain rfl : s = 8 := by omega
                have hp := Lib.hid (Bnd.done H0.out hrel.out.2.1)
                clear hrel
                unfold bndV at hp
                go_wp2_with fail
                go_returns
                exact hp.out
  · have HP := Lib.hid (fun w' (hb : Below w.heap.size w w') => Bnd.fail hc hb)
    generalize chkE m J k M = ce at *
    have tb : (ce != 0) = true := by simp; exact hc
    clear hc
    go_enter Try.func21, Try.ntmps21
    go_wp2_with fail
    refine HC.out.mono ?_
    rintro e w1 ⟨rfl, b1⟩
    have B1 := Lib.hid b1
    clear b1 HC
    go_wp2_with fail
    go_returns
    exact HP.out _ B1.out
end Go.Proofs.Ytanpefjbmpohdaa
