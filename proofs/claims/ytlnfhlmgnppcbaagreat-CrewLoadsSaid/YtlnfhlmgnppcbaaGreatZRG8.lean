/- Crew's reference: what was loaded on a truck, and what has left it. -/
import Derived.Test.YtlnfhlmgnppcbaaGreatZRG7
import Derived.Test.YtlnfhlmgnppcbaaGreatZLVP
import Derived.Test.YtlnfhlmgnppcbaaGreatZCMZ
import Derived.Test.YtlnfhlmgnppcbaaGreatZCTA
import Derived.BigQuiet
import Derived.BigRegion
namespace Go.Proofs.YtlnfhlmgnppcbaaGreat
open Go.RowKit Go.ChangeShapes Go.WideShapes Go.Deep
set_option linter.unusedVariables false
set_option linter.unusedSimpArgs false
set_option maxRecDepth 8000
theorem apply_k {f : Fl} {s : CSt} {e : Ev} (h1 : checkE f e = 0) (h2 : e.kind ≠ 10) (h3 : faultK f s e = 0) : (applyK s e).k ≤ s.k + 1 := by
  have := step_k f (s, []) e
  rw [step_yes h1 h2 h3] at this
  exact this
def stG (base n : Nat) (s : CSt) : List Value → World → Prop
  | [], _ => True
  | [v], w => ∃ sv tv, v = .agg #[sv, tv] ∧ ROwn w base n s sv tv
  | _, _ => False
def stS (n k : Nat) : List Value → Prop
  | [v] => ∃ (sa : Option Addr) (sc : Nat) (ta : Option Addr) (tc : Nat), v = .agg #[.slice sa n sc, .slice ta k tc]
  | _ => False
theorem stG_below {base n : Nat} {s : CSt} : ∀ (l : List Value) (w w' : World), stG base n s l w → Below w.heap.size w w' → stG base n s l w'
  | [], _, _, _, _ => trivial
  | [v], w, w', ⟨sv, tv, e, h⟩, hb => ⟨sv, tv, e, h.below hb⟩
  | _ :: _ :: _, _, _, h, _ => h.elim
set_option maxHeartbeats 16000000 in
theorem movedR27 (f : Fl) (ao : Option Addr) (n c : Nat) (F : Nat → Ev) (number t : Int) (w : World) (hf : f.In w) (hs : EvSl w ao n c F) (hn : n ≤ 1000) (hin : ∀ e ∈ ents F n, inN e) :
    Calls Tryz.prog 27 #[.agg f.cells, .slice ao n c, .int .i64 number, .int .i64 t] w fun e w' => e = .returned (.tuple #[.int .i64 (movedV f (ents F n) number t).1, .int .i64 (movedV f (ents F n) number t).2.1, .int .i64 (movedV f (ents F n) number t).2.2]) ∧ Below w.heap.size w w' := by
  have BB : Hid (Below w.heap.size w (w.alloc (.cells f.cells 24))) := Lib.hid (by (repeat' (first | (with_reducible exact Below.refl _ _) | (with_reducible assumption) | (with_reducible refine Below.drew ?_) | (with_reducible refine below_drewN ?_ _) | (with_reducible refine Below.alloc ?_ ?_ _) | (with_reducible refine Below.setCell ?_ ?_ _) | go_size)))
  have X0 := Lib.hid (al_at w (.cells f.cells 24) rfl)
  obtain ⟨w1, hw1⟩ : ∃ w1, w1 = w.alloc (.cells f.cells 24) := ⟨_, rfl⟩
  rw [← hw1] at BB X0
  have HW1 := Lib.hid hw1
  have AC := Lib.hid (acceptedR56 f ao n c F w1 (hf.below BB.out) (hs.below BB.out) hn hin)
  have HFC : Hid (f.cells = #[.int .i64 f.bikes, .int .i64 f.riders, .int .i64 f.devs, .slice f.ad f.nd f.cd, .slice f.a2 f.nt f.ct]) := Lib.hid rfl
  have HPA := Lib.hid (run_path f (ents F n)).1
  have HAL : Hid ((runE f (ents F n)).2.length ≤ n) := Lib.hid (by have := acc_len f (ents F n); rwa [ents_len] at this)
  have HMM := Lib.hid (mvP_mvR f (ents F n) number t)
  obtain ⟨V, hV⟩ : ∃ V, V = movedV f (ents F n) number t := ⟨_, rfl⟩
  rw [← hV]
  unfold movedV at hV
  have HV := Lib.hid hV
  rw [HMM.out] at HV
  have hct := hf.trucks.hm
  have hct2 := hf.trucks.hc
  rw [HFC.out] at X0 HW1 AC ⊢
  clear hw1 hf hs hin hV HMM
  have x0 := cell_kept (Below.refl w1.heap.size w1) (cell_at X0.out 0)
  have x1 := cell_kept (Below.refl w1.heap.size w1) (cell_at X0.out 1)
  have x2 := cell_kept (Below.refl w1.heap.size w1) (cell_at X0.out 2)
  have x3 := cell_kept (Below.refl w1.heap.size w1) (cell_at X0.out 3)
  have x4 := cell_kept (Below.refl w1.heap.size w1) (cell_at X0.out 4)
  try dsimp only at x0 x1 x2 x3 x4
  have zx := szs (cell_lt x0)
  dsimp only at zx
  go_enter Tryz.func27, Tryz.ntmps27
  go_wp2_with fail
  rw [← HW1.out]
  refine AC.out.mono ?_
  rintro e w2 ⟨b2, ⟨h1, rfl⟩ | ⟨h1, v, m, R, rfl, hrow, hR⟩⟩
  · have B2 := Lib.hid (BB.out.trans (b2.mono BB.out.size))
    have tx : (fleetE f != 0) = true := by simpa using h1
    have HR0 : Hid (V = (0, 0, fleetE f)) := Lib.hid (by rw [HV.out, if_pos h1])
    clear x0 x1 x2 x3 x4 zx
    clear AC HV b2 h1
    obtain ⟨x, hx⟩ : ∃ x, x = fleetE f := ⟨_, rfl⟩
    rw [← hx] at tx HR0 ⊢
    clear hx
    go_wp2_with fail
    go_returns
    exact ⟨by rw [HR0.out]; rfl, B2.out⟩
  · rw [if_neg (by simp [h1])] at HV
    have B2 := Lib.hid (BB.out.trans (b2.mono BB.out.size))
    have hbk := (fleetE_zero h1).1
    obtain ⟨a2, c2, rfl, s2⟩ := EvRow.toSl hrow
    have S2 := Lib.hid s2
    have hm2 := s2.hm
    have hc2 := s2.hc
    have hmn : m ≤ n := by have := HAL.out; rwa [← hR, ents_len] at this
    rw [← hR] at HV HPA
    have bF := Lib.hid b2
    clear x0 x1 x2 x3 x4 zx
    have x0 := cell_kept bF.out (cell_at X0.out 0)
    have x1 := cell_kept bF.out (cell_at X0.out 1)
    have x2 := cell_kept bF.out (cell_at X0.out 2)
    have x3 := cell_kept bF.out (cell_at X0.out 3)
    have x4 := cell_kept bF.out (cell_at X0.out 4)
    try dsimp only at x0 x1 x2 x3 x4
    have zx := szs (cell_lt x0)
    dsimp only at zx
    clear AC b2 hrow s2 HAL hR h1
    by_cases k1 : number < 0
    · have t1 := k1
      have HR0 : Hid (V = (0, 0, 7)) := Lib.hid (by rw [HV.out, if_pos (.inl k1)])
      clear HV
      go_wp2_with fail
      go_returns
      exact ⟨by rw [HR0.out]; rfl, B2.out⟩
    have t1 : decide (number < 0) = false := decide_eq_false k1
    by_cases k2 : (f.nt : Int) ≤ number
    · have t2 := k2
      have HR0 : Hid (V = (0, 0, 7)) := Lib.hid (by rw [HV.out, if_pos (.inr k2)])
      clear HV
      go_wp2_with fail
      go_returns
      exact ⟨by rw [HR0.out]; rfl, B2.out⟩
    have t2 : decide ((f.nt : Int) ≤ number) = false := decide_eq_false k2
    rw [if_neg (by omega)] at HV
    by_cases k3 : t < 0
    · have t3 := k3
      have HR0 : Hid (V = (0, 0, 1)) := Lib.hid (by rw [HV.out, if_pos (.inl k3)])
      clear HV
      go_wp2_with fail
      go_returns
      exact ⟨by rw [HR0.out]; rfl, B2.out⟩
    have t3 : decide (t < 0) = false := decide_eq_false k3
    by_cases k4 : 4294943999 < t
    · have t4 := k4
      have HR0 : Hid (V = (0, 0, 1)) := Lib.hid (by rw [HV.out, if_pos (.inr k4)])
      clear HV
      go_wp2_with fail
      go_returns
      exact ⟨by rw [HR0.out]; rfl, B2.out⟩
    have t4 : decide (4294943999 < t) = false := decide_eq_false k4
    rw [if_neg (by omega)] at HV
    have BG := Lib.hid (beginR57 f w2 (by omega) (by omega))
    rw [HFC.out] at BG
    clear k1 k2 k3 k4
    go_wp2_with fail
    refine BG.out.mono ?_
    rintro e w3 ⟨sv, tv, rfl, ro, b3⟩
    obtain ⟨nb, hnb⟩ : ∃ nb, nb = f.bikes.toNat := ⟨_, rfl⟩
    have HNB := Lib.hid hnb
    have hnb2 : nb ≤ 128 := by omega
    rw [← hnb] at ro HV
    obtain ⟨sa, sc, ta, tc, rfl, htv, rin⟩ := ro.toIn
    have htv : tv = .slice ta 0 tc := htv
    subst htv
    have b4 : Below w3.heap.size w3 (w3.alloc (.cells #[.slice sa nb sc, .slice ta 0 tc] 122)) := by (repeat' (first | (with_reducible exact Below.refl _ _) | (with_reducible assumption) | (with_reducible refine Below.drew ?_) | (with_reducible refine below_drewN ?_ _) | (with_reducible refine Below.alloc ?_ ?_ _) | (with_reducible refine Below.setCell ?_ ?_ _) | go_size))
    have X13 := Lib.hid (al_at w3 (.cells #[.slice sa nb sc, .slice ta 0 tc] 122) rfl)
    obtain ⟨w4, hw4⟩ : ∃ w4, w4 = w3.alloc (.cells #[.slice sa nb sc, .slice ta 0 tc] 122) := ⟨_, rfl⟩
    rw [← hw4] at b4 X13
    have HW4 := Lib.hid hw4
    have B3 := Lib.hid (B2.out.trans (b3.mono B2.out.size))
    have B34 := Lib.hid b4
    have RI := Lib.hid (rin.below b4)
    have S3 := Lib.hid (S2.out.below b3)
    have HI0 : Hid (Inv nb startS) := Lib.hid (Inv.start _)
    clear x0 x1 x2 x3 x4 zx
    clear ro rin b3 b4 BG S2 bF hw4 hnb X0 HW1
    go_wp2_with fail
    rw [← HW4.out]
    clear HW4
    go_loopw [14, 15, 16] (fun s14 s15 s16 wr => ∃ (j : Nat) (a b : Int) (s : CSt) (sa' : Option Addr) (sc' : Nat) (ta' : Option Addr) (tc' : Nat), s16 = .int .i64 j ∧ j ≤ m ∧ s14 = .int .i64 a ∧ s15 = .int .i64 b ∧ 0 ≤ a ∧ a ≤ 128 * (j : Int) ∧ 0 ≤ b ∧ b ≤ 128 * (j : Int) ∧ s.k ≤ j ∧
      Hid (V = ((mvR nb number t s ((ents R m).drop j) a b).1, (mvR nb number t s ((ents R m).drop j) a b).2, 0)) ∧ Hid (Inv nb s) ∧ Hid (Path f s ((ents R m).drop j)) ∧ Hid (wr.heap[w3.heap.size]? = some (.cells #[.slice sa' nb sc', .slice ta' s.k tc'] 122 (0, 0))) ∧
      Hid (RIn wr nb s sa' sc' ta' tc') ∧ Hid (Below w3.heap.size w3 wr)) (fun _ _ s16 _ => m - (intOf s16).toNat)
    case atStart => exact ⟨0, 0, 0, startS, sa, sc, ta, tc, rfl, by omega, rfl, rfl, by omega, by omega, by omega, by omega, by simp [startS], HV, HI0, HPA, X13, RI, B34⟩
    case round =>
      clear HV HPA X13 RI B34 HI0
      obtain ⟨j, a, b, s, sa', sc', ta', tc', rfl, hj, rfl, rfl, ha0, ha1, hb0, hb1, hsk, hv, hi, hp, y13, yi, yb⟩ := hrel
      have VK := hv
      have YV := hi
      have YP := hp
      have Y13 := y13
      have YI := yi
      have YB := yb
      clear hv hi hp y13 yi yb
      by_cases hlt : j < m
      · have tj : (j : Int) < (m : Int) := by omega
        have SK := Lib.hid (S3.out.below YB.out)
        obtain ⟨g, o, rfl, hg, ea⟩ := evs_at SK.out hlt
        have zg := szs hg
        rw [drop_ents hlt] at VK YP
        unfold mvR at VK
        generalize hy : R j = y at *
        obtain ⟨v1, v2, v3, v4, v5, v6, v7, v8, v9⟩ := y
        dsimp only at VK
        (have y0 := (ea).c0; have y1 := (ea).c1; have y2 := (ea).c2; have y3 := (ea).c3; have y4 := (ea).c4; have y5 := (ea).c5; have y6 := (ea).c6; have y7 := (ea).c7; have y8 := (ea).c8); (try dsimp only at y0 y1 y2 y3 y4 y5 y6 y7 y8)
        by_cases hat : t < v3
        · have tat : decide (v3 ≤ t) = false := decide_eq_false (by omega)
          have BE := Lib.hid (B3.out.trans (YB.out.mono B3.out.size))
          rw [if_pos hat] at VK
          go_wp2_with fail
          go_returns
          exact ⟨by rw [VK.out]; rfl, BE.out⟩
        · have tat : decide (v3 ≤ t) = true := decide_eq_true (by omega)
          rw [if_neg hat] at VK
          obtain ⟨hc, h10, hfk, hrest⟩ := YP.out
          have CA := Lib.hid (carriedR58 YI.out number)
          have s0 := cell_at Y13.out 0
          have s1 := cell_at Y13.out 1
          have zs := szs (block_lt Y13.out)
          go_wp2_with fail
          refine CA.out.mono ?_
          rintro e w5 ⟨rfl, b5⟩
          have HWL : Hid (w3.heap.size < wr.heap.size) := Lib.hid (block_lt Y13.out)
          replace Y13 := Lib.hid ((b5.block _ (block_lt Y13.out)).trans Y13.out)
          replace YI := Lib.hid (YI.out.below b5)
          replace YB := Lib.hid (YB.out.trans (b5.mono YB.out.size))
          replace SK := Lib.hid (SK.out.below b5)
          have HW5 : Hid (w3.heap.size < w5.heap.size) := Lib.hid (Nat.lt_of_lt_of_le HWL.out b5.size)
          obtain ⟨g', o', eg, _, ea⟩ := evs_at SK.out hlt
          cases eg
          rw [hy] at ea
          clear s0 s1 zs CA y0 y1 y2 y3 y4 y5 y6 y7 y8 b5 zg hg
          (have y0 := (ea).c0; have y1 := (ea).c1; have y2 := (ea).c2; have y3 := (ea).c3; have y4 := (ea).c4; have y5 := (ea).c5; have y6 := (ea).c6; have y7 := (ea).c7; have y8 := (ea).c8); (try dsimp only at y0 y1 y2 y3 y4 y5 y6 y7 y8)
          have zg := szs (cell_lt y0)
          dsimp only at zg
          have AP := fun w' (hb : Below w5.heap.size w5 w') => applyR59 HNB.out (YI.out.below hb) YV.out (by omega) (by omega) ⟨v1, v2, v3, v4, v5, v6, v7, v8, v9⟩ hc h10 hfk
          have hk1 := apply_k hc h10 hfk
          have HIN1 : Inv nb (applyK s ⟨v1, v2, v3, v4, v5, v6, v7, v8, v9⟩) := by
            have h2 := YV.out
            rw [HNB.out] at h2 ⊢
            exact h2.step hc hfk
          unfold eC at AP
          dsimp only at AP
          generalize applyK s ⟨v1, v2, v3, v4, v5, v6, v7, v8, v9⟩ = s' at *
          replace AP := Lib.hid AP
          have YV2 := Lib.hid HIN1
          have YP2 := Lib.hid hrest
          have hc0 := cntN_le s.F 4 number nb
          have hc1 := cntN_le s'.F 4 number nb
          clear hc h10 hfk hrest HIN1 YP YV SK
          have s0 := cell_at Y13.out 0
          have s1 := cell_at Y13.out 1
          have zs := szs (block_lt Y13.out)
          go_wp2_with fail
          (obtain ⟨ι, hne, Fw, fb, hF⟩ := grow_family w5); have hF : ∀ w', (vPlan w5 (stG w5.heap.size nb s') (stS nb s'.k) [5] [] (fun _ => [])).D [] w' → ∃ i, w' = Fw i := hF
          have fs0 := fun i => cell_kept (fb i) s0
          have fs1 := fun i => cell_kept (fb i) s1
          (have f0 := fun i => cell_kept (fb i) y0; have f1 := fun i => cell_kept (fb i) y1; have f2 := fun i => cell_kept (fb i) y2; have f3 := fun i => cell_kept (fb i) y3; have f4 := fun i => cell_kept (fb i) y4; have f5 := fun i => cell_kept (fb i) y5; have f6 := fun i => cell_kept (fb i) y6; have f7 := fun i => cell_kept (fb i) y7; have f8 := fun i => cell_kept (fb i) y8); (clear y0 y1 y2 y3 y4 y5 y6 y7 y8)
          clear s0 s1 zs zg
          (refine region_chainO (vPlan w5 (stG w5.heap.size nb s') (stS nb s'.k) [5] [] (fun _ => [])) [] [] [0, 1, 2, 3, 4, 5] [6] mixed (by kernel_rfl) (by kernel_rfl) (fun _ _ h => nomatch h) (vPlan_ok (stG_below) (by simp)) (vPlan_start (trivial)) ?_; refine wpPure_nil ?_; simp only [List.map_cons, List.map_nil, Array.getD_eq_getD_getElem?, List.getElem?_toArray, List.getElem?_cons_zero, List.getElem?_cons_succ, Option.getD_some])
          (repeat (first | (refine wpChainO_skip rfl ?_; simp only [Act.put, List.setIfInBounds_toArray, List.set_cons_succ, List.set_cons_zero]) | (refine wpChainO_quiet hF rfl rfl rfl ?_; intro K hK; go_big_quiet_op; go_big_quiet_on) | (refine wpChainO_pure _ rfl rfl (fun w' _ => by go_simp; try rfl) ?_; simp only [Act.put, List.setIfInBounds_toArray, List.set_cons_succ, List.set_cons_zero])))
          refine wpChainO_vcall 59 #[.agg #[.slice sa' nb sc', .slice ta' s.k tc'], .agg #[.int .i64 v1, .int .i64 v2, .int .i64 v3, .int .i64 v4, .int .i64 v5, .int .i64 v6, .int .i64 v7, .int .i64 v8, .int .i64 v9]] rfl rfl (fun w' => by go_simp) (fun w' hb _ _ => ?_) ?_
          · refine (AP.out w' hb).mono ?_
            rintro e w6 ⟨sv, tv, rfl, ro, b6⟩
            obtain ⟨sa6, sc6, ta6, tc6, rfl, rfl, _⟩ := ro.toIn
            exact ⟨_, rfl, ⟨_, _, _, _, rfl⟩, ⟨_, _, rfl, ROwn.base_mono ro hb.size⟩, b6⟩
          rintro u1 ⟨sa6, sc6, ta6, tc6, rfl⟩
          simp only [Act.put, List.setIfInBounds_toArray, List.set_cons_succ, List.set_cons_zero]
          (repeat (first | (refine wpChainO_skip rfl ?_; simp only [Act.put, List.setIfInBounds_toArray, List.set_cons_succ, List.set_cons_zero]) | (refine wpChainO_quiet hF rfl rfl rfl ?_; intro K hK; go_big_quiet_op; go_big_quiet_on) | (refine wpChainO_pure _ rfl rfl (fun w' _ => by go_simp; try rfl) ?_; simp only [Act.put, List.setIfInBounds_toArray, List.set_cons_succ, List.set_cons_zero])))
          refine wpChainO_nil (fun w6 hb6 hl6 => ?_)
          have b6 : Below w5.heap.size w5 w6 := hb6.1
          have hg6 : ∃ sv tv, Value.agg #[.slice sa6 nb sc6, .slice ta6 s'.k tc6] = .agg #[sv, tv] ∧ ROwn w6 w5.heap.size nb s' sv tv := hb6.2
          obtain ⟨_, _, he, ro6⟩ := hg6
          cases he
          replace Y13 := Lib.hid ((b6.block _ (block_lt Y13.out)).trans Y13.out)
          replace YB := Lib.hid (YB.out.trans (b6.mono YB.out.size))
          have H6 := Lib.hid ro6
          clear hb6 hl6 hF fb hne ro6 b6 fs0 fs1 AP f0 f1 f2 f3 f4 f5 f6 f7 f8 YI
          have s0 := cell_at Y13.out 0
          have s1 := cell_at Y13.out 1
          have fr := fun i => free_at Y13.out i
          have zs := szs (block_lt Y13.out)
          have h8 := put2 Y13.out (.slice sa6 nb sc6) (.slice ta6 s'.k tc6)
          have o8 := off2 w6 w3.heap.size (.slice sa6 nb sc6) (.slice ta6 s'.k tc6)
          have YI := Lib.hid ((H6.out.off o8 (fun gg hgg h => by have := (World.ownsRow.lt H6.out.sp gg hgg).1; have := HW5.out; have h : gg = w3.heap.size := h; omega) (fun gg hgg h => by have := (World.ownsRow.lt H6.out.tr gg hgg).1; have := HW5.out; have h : gg = w3.heap.size := h; omega)).inn)
          replace YB := Lib.hid (YB.out.trans (o8.toBelow YB.out.size (fun q hq h => by have h : q = w3.heap.size := h; omega)))
          go_wp2_with fail
          generalize World.setCell (World.setCell w6 _ _) _ _ = w7 at *
          replace Y13 := Lib.hid h8
          clear s0 s1 fr zs h8 o8 H6 HW5 HWL
          refine onlyN_intro ?_
          have CA := Lib.hid (carriedR58 YI.out number)
          have s0 := cell_at Y13.out 0
          have s1 := cell_at Y13.out 1
          have zs := szs (block_lt Y13.out)
          go_wp2_with fail
          refine CA.out.mono ?_
          rintro e w8 ⟨rfl, b8⟩
          replace Y13 := Lib.hid ((b8.block _ (block_lt Y13.out)).trans Y13.out)
          replace YI := Lib.hid (YI.out.below b8)
          replace YB := Lib.hid (YB.out.trans (b8.mono YB.out.size))
          clear s0 s1 zs CA b8
          generalize cntN s.F 4 number nb = c0 at *
          generalize cntN s'.F 4 number nb = c1 at *
          go_wp2_with fail
          exact ⟨⟨j + 1, _, _, s', sa6, sc6, ta6, tc6, by go_num, by omega, rfl, rfl, by omega, by omega, by omega, by omega, by omega, VK, YV2, YP2, Y13, YI, YB⟩, by simp [intOf]; omega⟩
      · obtain rfl : j = m := by omega
        have BE := Lib.hid (B3.out.trans (YB.out.mono B3.out.size))
        rw [List.drop_of_length_le (by rw [ents_len]; omega)] at VK
        unfold mvR at VK
        go_wp2_with fail
        go_returns
        exact ⟨by rw [VK.out]; rfl, BE.out⟩
end Go.Proofs.YtlnfhlmgnppcbaaGreat
