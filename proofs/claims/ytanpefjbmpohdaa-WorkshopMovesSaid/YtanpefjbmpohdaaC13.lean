/- The program's Check: the error of any jobs and mechanics. -/
import Derived.Test.YtanpefjbmpohdaaC14
import Derived.Test.YtanpefjbmpohdaaMB
namespace Go.Proofs.Ytanpefjbmpohdaa
open Go.RowKit Go.ChangeShapes Go.WideShapes Go.Deep
set_option linter.unusedVariables false
set_option linter.unusedSimpArgs false
theorem zero4 (w : World) : (zeroValue 4).run Try.prog w = .ok (.bool false) w := by kernel_rfl
/-- Has one of the first n mechanics the skill? -/
def someB (M : Nat → Int) (s : Int) : Nat → Bool
  | 0 => false
  | n + 1 => someB M s n || hasB (M n) s
theorem someB_cnt (M : Nat → Int) (s : Int) : ∀ n, someB M s n = false ↔ cnt M s n = 0
  | 0 => by simp [someB, cnt]
  | n + 1 => by
    unfold someB cnt
    rw [Bool.or_eq_false_iff, someB_cnt M s n]
    cases hasB (M n) s <;> simp
set_option maxHeartbeats 4000000 in
theorem check13 (ao am : Option Addr) (m c k c2 : Nat) (J : Nat → Jb) (M : Nat → Int) (w : World) (h : Sl w 3 ao m c (jf J)) (h2 : Sl w 1 am k c2 (mf M)) :
    Calls Try.prog 13 #[.slice ao m c, .slice am k c2] w fun e w' => e = .returned (.int .i64 (chkE m J k M)) ∧ Below w.heap.size w w' := by
  have hmc := h.hm
  have hcc := h.hc
  have hkc := h2.hm
  have hcc2 := h2.hc
  have HS := Lib.hid h
  have HM := Lib.hid h2
  clear h h2
  by_cases hm : 32 < m
  · have tm : (32 : Int) < (m : Int) := by omega
    have he : chkE m J k M = 8 := by simp [chkE, hm]
    rw [he]
    go_enter Try.func13, Try.ntmps13
    go_wp2_with fail
    go_returns
    exact ⟨rfl, by (repeat' (first | (with_reducible exact Below.refl _ _) | (with_reducible assumption) | (with_reducible refine Below.drew ?_) | (with_reducible refine below_drewN ?_ _) | (with_reducible refine Below.alloc ?_ ?_ _) | (with_reducible refine Below.setCell ?_ ?_ _) | go_size))⟩
  have tm : (m : Int) ≤ 32 := by omega
  by_cases hk : 8 < k
  · have tk : (8 : Int) < (k : Int) := by omega
    have he : chkE m J k M = 8 := by simp [chkE, hk]
    rw [he]
    go_enter Try.func13, Try.ntmps13
    go_wp2_with fail
    go_returns
    exact ⟨rfl, by (repeat' (first | (with_reducible exact Below.refl _ _) | (with_reducible assumption) | (with_reducible refine Below.drew ?_) | (with_reducible refine below_drewN ?_ _) | (with_reducible refine Below.alloc ?_ ?_ _) | (with_reducible refine Below.setCell ?_ ?_ _) | go_size))⟩
  have tk : (k : Int) ≤ 8 := by omega
  have he : chkE m J k M = scan (jobX J M k) m := by simp [chkE, hm, hk]
  rw [he]
  clear he
  have hmm := @run_makeMap Try.prog
  go_enter Try.func13, Try.ntmps13
  go_wp2_with fail
  clear hmm
  obtain ⟨bm, hbm⟩ : ∃ bm, bm = w.heap.size := ⟨_, rfl⟩
  have S0 : Hid (IntSet Try.prog 3 4 (w.alloc (.map #[] 0)) bm 0 (fun x => among J x 0)) := Lib.hid (by rw [hbm]; exact IntSet.made _ _ _ _)
  rw [← hbm]
  have HBM := Lib.hid hbm
  clear hbm
  go_loopw [22] (fun i wr => ∃ j : Nat, i = .int .i64 j ∧ j ≤ m ∧ Hid (scan (jobX J M k) j = 0 ∧ Below w.heap.size w wr ∧ IntSet Try.prog 3 4 wr bm j (fun x => among J x j))) (fun i _ => m - (intOf i).toNat)
  case atStart => exact ⟨0, rfl, by omega, Lib.hid ⟨rfl, by (repeat' (first | (with_reducible exact Below.refl _ _) | (with_reducible assumption) | (with_reducible refine Below.drew ?_) | (with_reducible refine below_drewN ?_ _) | (with_reducible refine Below.alloc ?_ ?_ _) | (with_reducible refine Below.setCell ?_ ?_ _) | go_size)), S0.out⟩⟩
  case round =>
    obtain ⟨j, rfl, hj, hrel⟩ := hrel
    by_cases hlt : j < m
    · have tj : (j : Int) < (m : Int) := by omega
      obtain ⟨g, o, rfl, hg, y0, y1, y2⟩ := (HS.out.below hrel.out.2.1).job hlt
      have zg := szs hg
      have hX : jobX J M k j = if fineB (J j) = false then 1 else if among J (J j).id j = true then 6 else if cnt M (J j).skill k = 0 then 30 else 0 := rfl
      have HX := Lib.hid hX
      have fc := fine_cases (J j)
      have HA : Hid (∀ x, among J x (j + 1) = (among J x j || (J j).id == x)) := Lib.hid (fun x => rfl)
      obtain ⟨q, hq⟩ : ∃ q, q = J j := ⟨_, rfl⟩
      rw [← hq] at fc y0 y1 y2
      have HQ := Lib.hid hq
      obtain ⟨q0, q1, q2⟩ := q
      dsimp only at fc y0 y1 y2
      have H0 := Lib.hid hrel.out.1
      have HB := Lib.hid hrel.out.2.1
      have HSet := Lib.hid hrel.out.2.2
      clear hX hq hrel
      obtain ⟨wo, rfl⟩ : ∃ wo : World, wo = wr := ⟨_, rfl⟩
      rcases fc with ⟨hf, a1⟩ | ⟨hf, a1, a2⟩ | ⟨hf, a1, a2, a3⟩ | ⟨hf, a1, a2, a3, a4⟩ | ⟨hf, a1, a2, a3, a4, a5⟩ | ⟨hf, a1, a2, a3, a4, a5, a6⟩ | ⟨hf, a1, a2, a3, a4, a5, a6⟩
      iterate 6
        (have hx : jobX J M k j = 1 := by rw [HX.out, ← HQ.out, if_pos hf]
         have HR := Lib.hid ((scan_hit H0.out (by rw [hx]; decide) hlt).trans hx)
         have BR := HB.out
         clear HX HQ H0 HB HA HSet S0 HBM hf hx
         go_wp2_with fail
         go_returns
         exact ⟨by rw [HR.out]; rfl, by (have hszz := (BR).size; (repeat' (first | (with_reducible exact Below.refl _ _) | (with_reducible assumption) | (with_reducible refine Below.drew ?_) | (with_reducible refine below_drewN ?_ _) | (with_reducible refine Below.alloc ?_ ?_ _) | (with_reducible refine Below.setCell ?_ ?_ _) | go_size)))⟩)
      have wfq : (Lit.int .i64 q0).wf = true := WalkArith.wf_i64 ⟨by omega, by omega⟩
      have WF := Lib.hid wfq
      clear wfq
      obtain ⟨f, hfo⟩ : ∃ f, f = among J q0 j := ⟨_, rfl⟩
      have HF := Lib.hid hfo
      clear hfo
      obtain ⟨w1, hw1⟩ : ∃ w1, w1 = wo.alloc (.cells #[.int .i64 q0, .int .i64 q1, .int .i64 q2] 40) := ⟨_, rfl⟩
      have b1 : Below wo.heap.size wo w1 := by rw [hw1]; exact (Below.refl _ _).alloc (Nat.le_refl _) _
      have x1 : w1.heap[wo.heap.size]? = some (.cells #[.int .i64 q0, .int .i64 q1, .int .i64 q2] 40) := by rw [hw1]; exact heap_alloc_new wo _
      have s1 := HSet.out.below b1
      have r1 := s1.look Try.underlying3 Try.underlying54 Try.underlying4 (zero4 _) q0 WF.out
      have bmlt := HSet.out.lt
      rw [← HF.out] at r1
      have B1 := Lib.hid (HB.out.trans (b1.mono HB.out.size))
      have X1 := Lib.hid x1
      have S1 := Lib.hid s1
      have HW1 := Lib.hid hw1
      rw [hw1] at r1
      clear hw1 b1 x1 s1 HB HSet S0
      cases f
      · obtain ⟨w2, r2, s2, o2⟩ := S1.out.put (y := true) Try.underlying3 Try.underlying54 Try.underlying4 (by unfold maxLen; omega) q0 WF.out
        rw [HW1.out] at r2
        have x2 : w2.heap[wo.heap.size]? = some (.cells #[.int .i64 q0, .int .i64 q1, .int .i64 q2] 40) := (o2.block _ (block_lt X1.out) (by omega)).trans X1.out
        go_wp2_with fail
        rw [r1]
        go_wp2_with fail
        have B2 := Lib.hid (B1.out.trans (o2.toBelow B1.out.size (fun i hi h => by have := HBM.out; omega)))
        have X2 := Lib.hid x2
        have S2 : Hid (IntSet Try.prog 3 4 w2 bm (j + 1) (fun x => among J x (j + 1))) := Lib.hid (by
          have e : (fun x => among J x (j + 1)) = (fun z => if z = q0 then true else among J z j) := by
            funext x
            rw [HA.out, ← HQ.out]
            by_cases hx : x = q0
            · subst hx; simp
            · rw [if_neg hx]
              have : (q0 == x) = false := by simp; exact fun h => hx h.symm
              simp [this]
          rw [e]; exact s2)
        clear x2 s2 o2 r1 r2 HW1 X1 S1 B1 y0 y1 y2 zg HA
        go_loopw [63, 8] (fun i sm wi => ∃ t : Nat, i = .int .i64 t ∧ t ≤ k ∧ sm = .bool (someB M q2 t) ∧ Hid (Below w2.heap.size w2 wi)) (fun i _ _ => k - (intOf i).toNat)
        case atStart => exact ⟨0, rfl, by omega, rfl, Lib.hid (Below.refl _ _)⟩
        case round =>
          obtain ⟨t, rfl, ht, rfl, hrel⟩ := hrel
          have xx := (hrel.out.block _ (block_lt X2.out)).trans X2.out
          have zx := szs (block_lt xx)
          have c2' : wr.cell? ⟨wo.heap.size, 2, none⟩ = some (.int .i64 q2) := cell_at xx 2
          have BR := Lib.hid (B2.out.trans (hrel.out.mono B2.out.size))
          have BI := Lib.hid hrel.out
          obtain ⟨sm, hsm⟩ : ∃ sm, sm = someB M q2 t := ⟨_, rfl⟩
          rw [← hsm]
          have HSM := Lib.hid hsm
          clear hsm xx hrel
          by_cases hlt2 : t < k
          · have tt : (t : Int) < (k : Int) := by omega
            obtain ⟨g', o', rfl, hg', z0⟩ := (HM.out.below BR.out).mech hlt2
            have zg := szs hg'
            obtain ⟨wo2, rfl⟩ : ∃ wo2 : World, wo2 = wr := ⟨_, rfl⟩
            cases sm
            · have HC := Lib.hid (able28 (M t) q2 (wo2.alloc (.cells #[.int .i64 (M t)] 38)) (by omega) (by omega))
              have bb : Below wo2.heap.size wo2 (wo2.alloc (.cells #[.int .i64 (M t)] 38)) := (Below.refl _ _).alloc (Nat.le_refl _) _
              have BB := Lib.hid bb
              clear bb
              go_wp2_with fail
              refine HC.out.mono ?_
              rintro e w4 ⟨rfl, b4⟩
              have B4 := Lib.hid (BB.out.trans (b4.mono BB.out.size))
              clear b4
              go_wp2_with fail
              go_roundw
              case rel => exact ⟨t + 1, by go_num, by omega, by rw [show someB M q2 (t + 1) = (someB M q2 t || hasB (M t) q2) from rfl, ← HSM.out]; rfl, Lib.hid (BI.out.trans (B4.out.mono BI.out.size))⟩
              case measure => simp [intOf]; omega
            · go_wp2_with fail
              go_roundw
              case rel => exact ⟨t + 1, by go_num, by omega, by rw [show someB M q2 (t + 1) = (someB M q2 t || hasB (M t) q2) from rfl, ← HSM.out]; rfl, Lib.hid (by have := BI.out; (have hszz := (this).size; (repeat' (first | (with_reducible exact Below.refl _ _) | (with_reducible assumption) | (with_reducible refine Below.drew ?_) | (with_reducible refine below_drewN ?_ _) | (with_reducible refine Below.alloc ?_ ?_ _) | (with_reducible refine Below.setCell ?_ ?_ _) | go_size))))⟩
              case measure => simp [intOf]; omega
          · obtain rfl : t = k := by omega
            cases sm
            · have hx : jobX J M t j = 30 := by
                rw [HX.out, ← HQ.out, if_neg (by rw [hf]; decide), if_neg (by rw [← HF.out]; decide), if_pos ((someB_cnt _ _ _).1 HSM.out.symm)]
              have HE := Lib.hid ((scan_hit H0.out (by rw [hx]; decide) hlt).trans hx)
              clear hx
              go_wp2_with fail
              go_returns
              exact ⟨by rw [HE.out]; rfl, BR.out⟩
            · have hx : jobX J M t j = 0 := by
                rw [HX.out, ← HQ.out, if_neg (by rw [hf]; decide), if_neg (by rw [← HF.out]; decide), if_neg]
                intro h0
                have := (someB_cnt M q2 t).2 h0
                rw [← HSM.out] at this; cases this
              have HE := Lib.hid (scan_next H0.out hx)
              clear hx
              go_wp2_with fail
              go_roundw
              case rel => exact ⟨j + 1, by go_num, by omega, Lib.hid ⟨HE.out, BR.out, S2.out.below BI.out⟩⟩
              case measure => simp [intOf]; omega
      · have hx : jobX J M k j = 6 := by rw [HX.out, ← HQ.out, if_neg (by rw [hf]; decide), if_pos HF.out.symm]
        have HR := Lib.hid ((scan_hit H0.out (by rw [hx]; decide) hlt).trans hx)
        clear HX HQ H0 HA HBM hf hx
        go_wp2_with fail
        rw [r1]
        go_wp2_with fail
        go_returns
        exact ⟨by rw [HR.out]; rfl, by rw [← HW1.out]; exact B1.out⟩
    · obtain rfl : j = m := by omega
      have hr1 := Lib.hid hrel.out.1
      have hr2 := Lib.hid hrel.out.2.1
      clear hrel
      go_wp2_with fail
      go_returns
      exact ⟨by rw [hr1.out]; rfl, hr2.out⟩
end Go.Proofs.Ytanpefjbmpohdaa
