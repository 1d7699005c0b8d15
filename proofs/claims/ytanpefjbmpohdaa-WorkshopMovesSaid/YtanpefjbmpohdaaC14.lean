/- The reference's Check. -/
import Derived.Test.YtanpefjbmpohdaaC0
namespace Go.Proofs.Ytanpefjbmpohdaa
open Go.RowKit Go.ChangeShapes Go.WideShapes Go.Deep
set_option linter.unusedVariables false
set_option linter.unusedSimpArgs false
theorem fine_cases (j : Jb) : (fineB j = false ∧ j.id < 1) ∨ (fineB j = false ∧ 1 ≤ j.id ∧ 1000000 < j.id) ∨ (fineB j = false ∧ 1 ≤ j.id ∧ j.id ≤ 1000000 ∧ j.secs < 1) ∨ (fineB j = false ∧ 1 ≤ j.id ∧ j.id ≤ 1000000 ∧ 1 ≤ j.secs ∧ 86400 < j.secs) ∨
    (fineB j = false ∧ 1 ≤ j.id ∧ j.id ≤ 1000000 ∧ 1 ≤ j.secs ∧ j.secs ≤ 86400 ∧ j.skill < 0) ∨ (fineB j = false ∧ 1 ≤ j.id ∧ j.id ≤ 1000000 ∧ 1 ≤ j.secs ∧ j.secs ≤ 86400 ∧ 0 ≤ j.skill ∧ 8 ≤ j.skill) ∨
    (fineB j = true ∧ 1 ≤ j.id ∧ j.id ≤ 1000000 ∧ 1 ≤ j.secs ∧ j.secs ≤ 86400 ∧ 0 ≤ j.skill ∧ j.skill < 8) := by
  unfold fineB
  simp
  omega
set_option maxHeartbeats 4000000 in
theorem check14 (ao am : Option Addr) (m c k c2 : Nat) (J : Nat → Jb) (M : Nat → Int) (w : World) (h : Sl w 3 ao m c (jf J)) (h2 : Sl w 1 am k c2 (mf M)) :
    Calls Try.prog 14 #[.slice ao m c, .slice am k c2] w fun e w' => e = .returned (.int .i64 (chkE m J k M)) ∧ Below w.heap.size w w' := by
  have hmc := h.hm
  have hcc := h.hc
  have hkc := h2.hm
  have hcc2 := h2.hc
  have HS := Lib.hid h
  have HM := Lib.hid h2
  clear h h2
  by_cases hm : 32 < m
  · have tm : (32 : Int) < (m : Int) := by omega
    have he : chkE m J k M = 8 := by simp [chkE, hm]
    rw [he]
    go_enter Try.func14, Try.ntmps14
    go_wp2_with fail
    go_returns
    exact ⟨rfl, by (repeat' (first | (with_reducible exact Below.refl _ _) | (with_reducible assumption) | (with_reducible refine Below.drew ?_) | (with_reducible refine below_drewN ?_ _) | (with_reducible refine Below.alloc ?_ ?_ _) | (with_reducible refine Below.setCell ?_ ?_ _) | go_size))⟩
  have tm : (m : Int) ≤ 32 := by omega
  by_cases hk : 8 < k
  · have tk : (8 : Int) < (k : Int) := by omega
    have he : chkE m J k M = 8 := by simp [chkE, hk]
    rw [he]
    go_enter Try.func14, Try.ntmps14
    go_wp2_with fail
    go_returns
    exact ⟨rfl, by (repeat' (first | (with_reducible exact Below.refl _ _) | (with_reducible assumption) | (with_reducible refine Below.drew ?_) | (with_reducible refine below_drewN ?_ _) | (with_reducible refine Below.alloc ?_ ?_ _) | (with_reducible refine Below.setCell ?_ ?_ _) | go_size))⟩
  have tk : (k : Int) ≤ 8 := by omega
  have he : chkE m J k M = scan (jobX J M k) m := by simp [chkE, hm, hk]
  rw [he]
  clear he
  go_enter Try.func14, Try.ntmps14
  go_wp2_with fail
  go_loopw [5] (fun i wr => ∃ j : Nat, i = .int .i64 j ∧ j ≤ m ∧ Hid (scan (jobX J M k) j = 0 ∧ Below w.heap.size w wr)) (fun i _ => m - (intOf i).toNat)
  case atStart => exact ⟨0, rfl, by omega, Lib.hid ⟨rfl, by (repeat' (first | (with_reducible exact Below.refl _ _) | (with_reducible assumption) | (with_reducible refine Below.drew ?_) | (with_reducible refine below_drewN ?_ _) | (with_reducible refine Below.alloc ?_ ?_ _) | (with_reducible refine Below.setCell ?_ ?_ _) | go_size))⟩⟩
  case round =>
    obtain ⟨j, rfl, hj, hrel⟩ := hrel
    by_cases hlt : j < m
    · have tj : (j : Int) < (m : Int) := by omega
      obtain ⟨g, o, rfl, hg, y0, y1, y2⟩ := (HS.out.below hrel.out.2).job hlt
      have zg := szs hg
      have hX : jobX J M k j = if fineB (J j) = false then 1 else if among J (J j).id j = true then 6 else if cnt M (J j).skill k = 0 then 30 else 0 := rfl
      have HX := Lib.hid hX
      have fc := fine_cases (J j)
      obtain ⟨q, hq⟩ : ∃ q, q = J j := ⟨_, rfl⟩
      rw [← hq] at fc y0 y1 y2
      have HQ := Lib.hid hq
      obtain ⟨q0, q1, q2⟩ := q
      dsimp only at fc y0 y1 y2
      have H0 := Lib.hid hrel.out.1
      have HB := Lib.hid hrel.out.2
      clear hX hq hrel
      obtain ⟨wo, rfl⟩ : ∃ wo : World, wo = wr := ⟨_, rfl⟩
      rcases fc with ⟨hf, a1⟩ | ⟨hf, a1, a2⟩ | ⟨hf, a1, a2, a3⟩ | ⟨hf, a1, a2, a3, a4⟩ | ⟨hf, a1, a2, a3, a4, a5⟩ | ⟨hf, a1, a2, a3, a4, a5, a6⟩ | ⟨hf, a1, a2, a3, a4, a5, a6⟩
      iterate 6
        (have hx : jobX J M k j = 1 := by rw [HX.out, ← HQ.out, if_pos hf]
         have HR := Lib.hid ((scan_hit H0.out (by rw [hx]; decide) hlt).trans hx)
         have BR := HB.out
         clear HX HQ H0 HB hf hx
         go_wp2_with fail
         go_returns
         exact ⟨by rw [HR.out]; rfl, by (have hszz := (BR).size; (repeat' (first | (with_reducible exact Below.refl _ _) | (with_reducible assumption) | (with_reducible refine Below.drew ?_) | (with_reducible refine below_drewN ?_ _) | (with_reducible refine Below.alloc ?_ ?_ _) | (with_reducible refine Below.setCell ?_ ?_ _) | go_size)))⟩)
      go_wp2_with fail
      obtain ⟨w1, hw1⟩ : ∃ w1, w1 = wo.alloc (.cells #[.int .i64 q0, .int .i64 q1, .int .i64 q2] 40) := ⟨_, rfl⟩
      rw [← hw1]
      have b1 : Below wo.heap.size wo w1 := by rw [hw1]; exact (Below.refl _ _).alloc (Nat.le_refl _) _
      have x1 : w1.heap[wo.heap.size]? = some (.cells #[.int .i64 q0, .int .i64 q1, .int .i64 q2] 40) := by rw [hw1]; exact heap_alloc_new wo _
      have B1 := Lib.hid (HB.out.trans (b1.mono HB.out.size))
      have X1 := Lib.hid x1
      clear hw1 b1 x1 y0 y1 y2 zg
      go_loopw [7] (fun i wi => ∃ t : Nat, i = .int .i64 t ∧ t ≤ j ∧ Hid (among J q0 t = false ∧ Below w1.heap.size w1 wi)) (fun i _ => j - (intOf i).toNat)
      case atStart => exact ⟨0, rfl, by omega, Lib.hid ⟨rfl, Below.refl _ _⟩⟩
      case round =>
        obtain ⟨t, rfl, ht, hrel⟩ := hrel
        have xx := (hrel.out.2.block _ (block_lt X1.out)).trans X1.out
        have c0 : wr.cell? ⟨wo.heap.size, 0, none⟩ = some (.int .i64 q0) := cell_at xx 0
        have c2' : wr.cell? ⟨wo.heap.size, 2, none⟩ = some (.int .i64 q2) := cell_at xx 2
        have zx := szs (block_lt xx)
        have BR := Lib.hid (B1.out.trans (hrel.out.2.mono B1.out.size))
        by_cases hlt2 : t < j
        · have tt : (t : Int) < (j : Int) := by omega
          have tm2 : (t : Int) < (m : Int) := by omega
          obtain ⟨g', o', e', hg', z0, z1, z2⟩ := (HS.out.below BR.out).job (show t < m by omega)
          cases e'
          have zg := szs hg'
          have hA : among J q0 (t + 1) = (among J q0 t || (J t).id == q0) := rfl
          have HA := Lib.hid hA
          obtain ⟨r, hr⟩ : ∃ r, r = (J t).id := ⟨_, rfl⟩
          rw [← hr] at z0
          have HR := Lib.hid hr
          have HT := Lib.hid hrel.out
          clear hA hr hrel xx z1 z2
          by_cases hrq : r = q0
          · have hb : (r == q0) = true := by simp [hrq]
            have hx : jobX J M k j = 6 := by
              rw [HX.out, ← HQ.out, if_neg (by rw [hf]; decide), if_pos]
              exact among_iff.2 ⟨t, hlt2, by rw [← HR.out, hrq]⟩
            have HE := Lib.hid ((scan_hit H0.out (by rw [hx]; decide) hlt).trans hx)
            clear hrq hx
            go_wp2_with fail
            (refine region_all (fun i : Nat => World.drewN _ i) mixed (by kernel_rfl) ⟨1, rfl⟩ ?_; (repeat (any_goals (first | go_big_quiet_step (fail) | quiet_step (fail) | (refine wpQuiet_step (fun K hK => ?_); go_simp; split <;> (refine hK _ ?_; clear hK K))))); (all_goals (refine wpQuiet_nil (fun nq => ?_))))
            go_wp2_with fail
            go_returns
            exact ⟨by rw [HE.out]; rfl, by have := BR.out; (have hszz := (this).size; (repeat' (first | (with_reducible exact Below.refl _ _) | (with_reducible assumption) | (with_reducible refine Below.drew ?_) | (with_reducible refine below_drewN ?_ _) | (with_reducible refine Below.alloc ?_ ?_ _) | (with_reducible refine Below.setCell ?_ ?_ _) | go_size)))⟩
          · have hb : (r == q0) = false := by simp [hrq]
            clear hrq
            go_wp2_with fail
            (refine region_all (fun i : Nat => World.drewN _ i) mixed (by kernel_rfl) ⟨1, rfl⟩ ?_; (repeat (any_goals (first | go_big_quiet_step (fail) | quiet_step (fail) | (refine wpQuiet_step (fun K hK => ?_); go_simp; split <;> (refine hK _ ?_; clear hK K))))); (all_goals (refine wpQuiet_nil (fun nq => ?_))))
            go_wp2_with fail
            go_roundw
            case rel => exact ⟨t + 1, by go_num, by omega, Lib.hid ⟨by rw [HA.out, HT.out.1, ← HR.out, hb]; rfl, by have := HT.out.2; (have hszz := (this).size; (repeat' (first | (with_reducible exact Below.refl _ _) | (with_reducible assumption) | (with_reducible refine Below.drew ?_) | (with_reducible refine below_drewN ?_ _) | (with_reducible refine Below.alloc ?_ ?_ _) | (with_reducible refine Below.setCell ?_ ?_ _) | go_size)))⟩⟩
            case measure => simp [intOf]; omega
        · obtain rfl : t = j := by omega
          have CT := Lib.hid (count29 am k c2 M q2 wr (HM.out.below BR.out))
          have HT := Lib.hid hrel.out.1
          obtain ⟨n, hn⟩ : ∃ n, n = cnt M q2 k := ⟨_, rfl⟩
          rw [← hn] at CT
          have HN := Lib.hid hn
          clear hn hrel xx
          go_wp2_with fail
          refine CT.out.mono ?_
          rintro e w2 ⟨rfl, b2⟩
          have B2 := Lib.hid (BR.out.trans (b2.mono BR.out.size))
          clear b2
          by_cases hn0 : n = 0
          · have hb : ((n : Int) == 0) = true := by simp [hn0]
            have hx : jobX J M k t = 30 := by
              rw [HX.out, ← HQ.out, if_neg (by rw [hf]; decide), if_neg (by rw [HT.out]; decide), if_pos (by rw [← HN.out, hn0])]
            have HE := Lib.hid ((scan_hit H0.out (by rw [hx]; decide) hlt).trans hx)
            clear hx
            go_wp2_with fail
            go_returns
            exact ⟨by rw [HE.out]; rfl, B2.out⟩
          · have hb : ((n : Int) == 0) = false := by simp [hn0]
            have hx : jobX J M k t = 0 := by
              rw [HX.out, ← HQ.out, if_neg (by rw [hf]; decide), if_neg (by rw [HT.out]; decide), if_neg (by rw [← HN.out]; exact hn0)]
            have HE := Lib.hid (scan_next H0.out hx)
            clear hx
            go_wp2_with fail
            go_roundw
            case rel => exact ⟨t + 1, by go_num, by omega, Lib.hid ⟨HE.out, B2.out⟩⟩
            case measure => simp [intOf]; omega
    · obtain rfl : j = m := by omega
      go_wp2_with fail
      go_returns
      exact ⟨by rw [hrel.out.1]; rfl, hrel.out.2⟩
end Go.Proofs.Ytanpefjbmpohdaa
