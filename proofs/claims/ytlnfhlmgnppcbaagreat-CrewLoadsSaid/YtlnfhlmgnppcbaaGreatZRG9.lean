/- The reference's custody: the levels of a truck. -/
import Derived.Test.YtlnfhlmgnppcbaaGreatZX
import Derived.Test.YtlnfhlmgnppcbaaGreatZCMZ
import Derived.BigQuiet
import Derived.BigRegion
namespace Go.Proofs.YtlnfhlmgnppcbaaGreat
open Go.RowKit Go.ChangeShapes Go.WideShapes Go.Deep
set_option linter.unusedVariables false
set_option linter.unusedSimpArgs false
set_option maxRecDepth 8000
theorem infoLv : (Tryz.prog.info? 46).map (fun i => (i.zero, i.size, i.bytes)) = some (some (.agg #[.int .i64 0, .int .i64 0]), 2, 16) := by kernel_rfl
def LvRow (w : World) (base : Nat) (v : Value) (l : List (Int × Int)) : Prop := Row w base 46 2 v l.length (lvf (fun i => l.getD i (0, 0)))
theorem LvRow.off {X : Nat → Prop} {w w' : World} {base : Nat} {v : Value} {l : List (Int × Int)} (h : LvRow w base v l) (ho : Off X w w') (hX : ∀ g, v.ownBlock = some g → ¬ X g) : LvRow w' base v l := Row.off h ho hX
theorem getD_low {l : List (Int × Int)} {x : Int × Int} {i : Nat} (hi : i < l.length) : (l ++ [x]).getD i (0, 0) = l.getD i (0, 0) := by
  rw [List.getD, List.getElem?_append_left hi]; rfl
theorem wpList_append_Lv {ops : Array Oper} {rest : List Oper} {o : Oper} {a : Act} {Q : Exit → Act → World → Prop} (w : World) (hgd : o.guard = none) (x1 x2 : Operand) (ho : o.op = .call { callee := .builtin .append, args := #[x1, x2], argTypes := #[42, 42] })
    (base : Nat) (v : Value) (l : List (Int × Int)) (hs : a.eval x1 = v) (h1 : LvRow w base v l) (b1 : Nat) (x y : Int) (hx : a.eval x2 = .slice (some ⟨b1, 0, none⟩) 1 1) (ob : TypeId) (fz : Nat × Nat) (hb1 : w.heap[b1]? = some (.cells #[.int .i64 x, .int .i64 y] ob fz)) (hn : l.length ≤ 1000000) (hb : base ≤ w.heap.size)
    (h : ∀ g cap w', l.length + 1 ≤ cap → cap ≤ 9223372036854775807 → LvRow w' base (.slice (some ⟨g, 0, none⟩) (l.length + 1) cap) (l ++ [(x, y)]) → Off (fun i => v.ownBlock = some i) w w' → wpList Tryz.prog ops Q rest (a.put o.dst (.slice (some ⟨g, 0, none⟩) (l.length + 1) cap)) w') : wpList Tryz.prog ops Q (o :: rest) a w := by
  obtain ⟨i0, hi, hz0, hz1, hz2⟩ := info_parts infoLv
  refine wpList_append_row w hgd x1 x2 42 ho base 46 i0 _ 2 16 Tryz.underlying42 hi hz0 hz1 hz2 rfl (by decide) v l.length _ hs h1 (lvf_len _) b1 1 [.int .i64 x, .int .i64 y] hx rfl ob fz hb1 (fun u hu => by
    simp only [List.mem_cons, List.not_mem_nil, or_false] at hu
    rcases hu with rfl | rfl <;> rfl) (by omega) (by unfold maxLen; omega) hb ?_
  intro g cap w' k1 k2 k3 k4 k5 r b
  refine h g cap w' k1 k2 ?_ ((Off.of_grown b).mono (fun i _ hh => ?_))
  · unfold LvRow
    rw [List.length_append, List.length_singleton]
    refine Row.congr r (fun i hi => ?_)
    by_cases e : i = l.length
    · subst e; rw [upd_same]; simp [lvf]
    · rw [upd_ne e]
      show lvf (fun i => l.getD i (0, 0)) i = lvf (fun i => (l ++ [(x, y)]).getD i (0, 0)) i
      unfold lvf
      dsimp only
      rw [getD_low (by omega)]
  · first | exact hh | exact hh.symm
theorem LvRow.set0 {w : World} {base g n c : Nat} {l : List (Int × Int)} (h : LvRow w base (.slice (some ⟨g, 0, none⟩) n c) l) (hn : n = l.length) (h0 : 0 < l.length) (y : Int) : LvRow (w.setCell ⟨g, 1, none⟩ (.int .i64 y)) base (.slice (some ⟨g, 0, none⟩) n c) (l.set 0 ((l.getD 0 (0, 0)).1, y)) := by
  subst hn
  have h1 := Row.store h (lvf_len _) (i := 0) h0 (j := 1) (by decide) (.int .i64 y)
  unfold LvRow
  rw [List.length_set]
  refine Row.congr h1 (fun i hi => ?_)
  by_cases e : i = 0
  · subst e; rw [upd_same]; simp [lvf, List.getD, h0]
  · rw [upd_ne e]; unfold lvf; simp [List.getD, List.getElem?_set_ne (Ne.symm e)]
set_option maxHeartbeats 16000000 in
theorem loadsR32 (f : Fl) (ao : Option Addr) (n c : Nat) (F : Nat → Ev) (truck : Int) (w : World) (hf : f.In w) (hs : EvSl w ao n c F) (hn : n ≤ 1000) (hin : ∀ e ∈ ents F n, inN e) :
    Calls Tryz.prog 32 #[.agg f.cells, .slice ao n c, .int .i64 truck] w fun e w' => Below w.heap.size w w' ∧ ((loadsE f truck ≠ 0 ∧ e = .returned (.tuple #[.slice none 0 0, .int .i64 (loadsE f truck)])) ∨
      (loadsE f truck = 0 ∧ ∃ v : Value, e = .returned (.tuple #[v, .int .i64 0]) ∧ LvRow w' w.heap.size v (loadsL f (ents F n) truck))) := by
  have BB : Hid (Below w.heap.size w (w.alloc (.cells f.cells 24))) := Lib.hid (by (repeat' (first | (with_reducible exact Below.refl _ _) | (with_reducible assumption) | (with_reducible refine Below.drew ?_) | (with_reducible refine below_drewN ?_ _) | (with_reducible refine Below.alloc ?_ ?_ _) | (with_reducible refine Below.setCell ?_ ?_ _) | go_size)))
  have X0 := Lib.hid (al_at w (.cells f.cells 24) rfl)
  obtain ⟨w1, hw1⟩ : ∃ w1, w1 = w.alloc (.cells f.cells 24) := ⟨_, rfl⟩
  rw [← hw1] at BB X0
  have HW1 := Lib.hid hw1
  have HF := Lib.hid (hf.below BB.out)
  have HS := Lib.hid (hs.below BB.out)
  have HIN := Lib.hid hin
  have FT := Lib.hid (fleet64 f w1 HF.out)
  have HFC : Hid (f.cells = #[.int .i64 f.bikes, .int .i64 f.riders, .int .i64 f.devs, .slice f.ad f.nd f.cd, .slice f.a2 f.nt f.ct]) := Lib.hid rfl
  have HPA := Lib.hid (run_path f (ents F n)).1
  have HAL : Hid ((runE f (ents F n)).2.length ≤ n) := Lib.hid (by have := acc_len f (ents F n); rwa [ents_len] at this)
  have hct := hf.trucks.hm
  have hct2 := hf.trucks.hc
  obtain ⟨V, hV⟩ : ∃ V, V = loadsL f (ents F n) truck := ⟨_, rfl⟩
  rw [← hV]
  unfold loadsL at hV
  have HV := Lib.hid hV
  obtain ⟨x, hx⟩ : ∃ x, x = fleetE f := ⟨_, rfl⟩
  have HX := Lib.hid hx
  obtain ⟨y, hy⟩ : ∃ y, y = loadsE f truck := ⟨_, rfl⟩
  have HY := Lib.hid hy
  rw [← hy]
  unfold loadsE at HY
  rw [← hx] at FT HY
  rw [HFC.out] at X0 HW1 FT ⊢
  clear hw1 hf hs hin hV hx hy
  have x0 := cell_kept (Below.refl w1.heap.size w1) (cell_at X0.out 0)
  have x1 := cell_kept (Below.refl w1.heap.size w1) (cell_at X0.out 1)
  have x2 := cell_kept (Below.refl w1.heap.size w1) (cell_at X0.out 2)
  have x3 := cell_kept (Below.refl w1.heap.size w1) (cell_at X0.out 3)
  have x4 := cell_kept (Below.refl w1.heap.size w1) (cell_at X0.out 4)
  try dsimp only at x0 x1 x2 x3 x4
  have zx := szs (cell_lt x0)
  dsimp only at zx
  go_enter Tryz.func32, Tryz.ntmps32
  go_wp2_with fail
  rw [← HW1.out]
  refine FT.out.mono ?_
  rintro e w2 ⟨rfl, b2⟩
  have B2 := Lib.hid (BB.out.trans (b2.mono BB.out.size))
  have bF := Lib.hid b2
  clear x0 x1 x2 x3 x4 zx
  have x0 := cell_kept bF.out (cell_at X0.out 0)
  have x1 := cell_kept bF.out (cell_at X0.out 1)
  have x2 := cell_kept bF.out (cell_at X0.out 2)
  have x3 := cell_kept bF.out (cell_at X0.out 3)
  have x4 := cell_kept bF.out (cell_at X0.out 4)
  try dsimp only at x0 x1 x2 x3 x4
  have zx := szs (cell_lt x0)
  dsimp only at zx
  clear FT b2
  by_cases h0 : x = 0
  · subst h0
    rw [if_neg (by simp)] at HY
    by_cases k1 : truck < 0
    · have t1 := k1
      rw [if_pos (.inl k1)] at HY
      go_wp2_with fail
      go_returns
      exact ⟨B2.out, .inl ⟨by rw [HY.out]; decide, by rw [HY.out]; rfl⟩⟩
    have t1 : decide (truck < 0) = false := decide_eq_false k1
    by_cases k2 : (f.nt : Int) ≤ truck
    · have t2 := k2
      rw [if_pos (.inr k2)] at HY
      go_wp2_with fail
      go_returns
      exact ⟨B2.out, .inl ⟨by rw [HY.out]; decide, by rw [HY.out]; rfl⟩⟩
    have t2 : decide ((f.nt : Int) ≤ truck) = false := decide_eq_false k2
    rw [if_neg (by omega)] at HY
    have hbk := (fleetE_zero HX.out.symm).1
    have RU := Lib.hid (runR65 f ao n c F w2 (HF.out.below bF.out) (HS.out.below bF.out) hn HIN.out HX.out.symm)
    rw [HFC.out] at RU
    go_wp2_with fail
    refine RU.out.mono ?_
    rintro e w3 ⟨b3, sa, n1, sc, ta, n2, tc, ra, rn, rc, av, m, R, rfl, hrow, hR⟩
    have B3 := Lib.hid (B2.out.trans (b3.mono B2.out.size))
    have bF3 := Lib.hid (bF.out.trans (b3.mono bF.out.size))
    obtain ⟨a2, c2, rfl, s2⟩ := EvRow.toSl hrow
    have hm2 := s2.hm
    have hc2 := s2.hc
    have hmn : m ≤ n := by have := HAL.out; rwa [← hR, ents_len] at this
    rw [← hR] at HV HPA
    have BA : Hid (Below w3.heap.size w3 (w3.alloc (.cells #[.slice sa n1 sc, .slice ta n2 tc] 122))) := Lib.hid (by (repeat' (first | (with_reducible exact Below.refl _ _) | (with_reducible assumption) | (with_reducible refine Below.drew ?_) | (with_reducible refine below_drewN ?_ _) | (with_reducible refine Below.alloc ?_ ?_ _) | (with_reducible refine Below.setCell ?_ ?_ _) | go_size)))
    obtain ⟨w4, hw4⟩ : ∃ w4, w4 = w3.alloc (.cells #[.slice sa n1 sc, .slice ta n2 tc] 122) := ⟨_, rfl⟩
    rw [← hw4] at BA
    have HW4 := Lib.hid hw4
    have B4 := Lib.hid (B3.out.trans (BA.out.mono B3.out.size))
    have bF4 := Lib.hid (bF3.out.trans (BA.out.mono bF3.out.size))
    have S4 := Lib.hid (s2.below BA.out)
    have BG := Lib.hid (beginR57 f w4 (by omega) (by omega))
    rw [HFC.out] at BG
    clear x0 x1 x2 x3 x4 zx
    have x0 := cell_kept bF3.out (cell_at X0.out 0)
    have x1 := cell_kept bF3.out (cell_at X0.out 1)
    have x2 := cell_kept bF3.out (cell_at X0.out 2)
    have x3 := cell_kept bF3.out (cell_at X0.out 3)
    have x4 := cell_kept bF3.out (cell_at X0.out 4)
    try dsimp only at x0 x1 x2 x3 x4
    have zx := szs (cell_lt x0)
    dsimp only at zx
    clear RU b3 hrow hR s2 hw4 BA B3
    go_wp2_with fail
    rw [← HW4.out]
    clear x0 x1 x2 x3 x4 zx
    clear HW4 k1 k2
    refine BG.out.mono ?_
    rintro e w5 ⟨sv, tv, rfl, ro, b5⟩
    obtain ⟨nb, hnb⟩ : ∃ nb, nb = f.bikes.toNat := ⟨_, rfl⟩
    have HNB := Lib.hid hnb
    have hnb2 : nb ≤ 128 := by omega
    rw [← hnb] at ro HV
    obtain ⟨sa5, sc5, ta5, tc5, rfl, htv, rin⟩ := ro.toIn
    have htv : tv = .slice ta5 0 tc5 := htv
    subst htv
    have b6 : Below w5.heap.size w5 ((w5.alloc (.cells #[.slice sa5 nb sc5, .slice ta5 0 tc5] 122)).alloc (.cells #[.int .i64 0, .int .i64 0] 46)) := by (repeat' (first | (with_reducible exact Below.refl _ _) | (with_reducible assumption) | (with_reducible refine Below.drew ?_) | (with_reducible refine below_drewN ?_ _) | (with_reducible refine Below.alloc ?_ ?_ _) | (with_reducible refine Below.setCell ?_ ?_ _) | go_size))
    have X12 := Lib.hid (al_keep (al_at w5 (.cells #[.slice sa5 nb sc5, .slice ta5 0 tc5] 122) rfl) (.cells #[.int .i64 0, .int .i64 0] 46))
    have X13 := Lib.hid (al_at (w5.alloc (.cells #[.slice sa5 nb sc5, .slice ta5 0 tc5] 122)) (.cells #[.int .i64 0, .int .i64 0] 46) (k := w5.heap.size + 1) (by simp))
    obtain ⟨w6, hw6⟩ : ∃ w6, w6 = (w5.alloc (.cells #[.slice sa5 nb sc5, .slice ta5 0 tc5] 122)).alloc (.cells #[.int .i64 0, .int .i64 0] 46) := ⟨_, rfl⟩
    rw [← hw6] at b6 X12 X13
    have HW6 := Lib.hid hw6
    have B5 := Lib.hid (B4.out.trans (b5.mono B4.out.size))
    have B56 := Lib.hid b6
    have RI := Lib.hid (rin.below b6)
    have S5 := Lib.hid (S4.out.below b5)
    have HI0 : Hid (Inv nb startS) := Lib.hid (Inv.start _)
    have LV0 : Hid (LvRow w6 (w5.heap.size + 1) (.slice (some ⟨w5.heap.size + 1, 0, none⟩) 1 1) [(0, 0)]) := Lib.hid (Row.of_block X13.out (Nat.le_refl _) (lvf_len _) rfl (by show 1 ≤ maxLen; unfold maxLen; omega))
    have HZ : Hid (w.heap.size ≤ w5.heap.size) := Lib.hid B5.out.size
    clear ro rin b5 b6 BG S4 bF bF3 bF4 hw6 hnb X0 HW1 X13
    go_wp2_with fail
    rw [← HW6.out]
    clear HW6
    go_loopw [13, 14] (fun s13 s14 wr => ∃ (j : Nat) (s : CSt) (sa' : Option Addr) (sc' : Nat) (ta' : Option Addr) (tc' : Nat) (gv cv : Nat) (L : List (Int × Int)), s14 = .int .i64 j ∧ j ≤ m ∧ s13 = .slice (some ⟨gv, 0, none⟩) L.length cv ∧ 1 ≤ L.length ∧ L.length ≤ j + 1 ∧ L.length ≤ cv ∧ cv ≤ 9223372036854775807 ∧ s.k ≤ j ∧
      Hid (V = lvR nb truck s ((ents R m).drop j) L) ∧ Hid (Inv nb s) ∧ Hid (Path f s ((ents R m).drop j)) ∧ Hid (wr.heap[w5.heap.size]? = some (.cells #[.slice sa' nb sc', .slice ta' s.k tc'] 122 (0, 0))) ∧
      Hid (RIn wr nb s sa' sc' ta' tc') ∧ Hid (LvRow wr (w5.heap.size + 1) (.slice (some ⟨gv, 0, none⟩) L.length cv) L) ∧ Hid (Below w5.heap.size w5 wr)) (fun _ s14 _ => m - (intOf s14).toNat)
    case atStart => exact ⟨0, startS, sa5, sc5, ta5, tc5, _, _, [(0, 0)], rfl, by omega, rfl, by simp, by simp, by simp, by omega, by simp [startS], HV, HI0, HPA, X12, RI, LV0, B56⟩
    case round =>
      clear HV HPA X12 RI B56 HI0 LV0
      obtain ⟨j, s, sa', sc', ta', tc', gv, cv, L, rfl, hj, rfl, hl1, hl2, hl3, hl4, hsk, hv, hi, hp, y12, yi, yl, yb⟩ := hrel
      have VK := hv
      have YV := hi
      have YP := hp
      have Y12 := y12
      have YI := yi
      have YL := yl
      have YB := yb
      clear hv hi hp y12 yi yl yb
      by_cases hlt : j < m
      · have tj : (j : Int) < (m : Int) := by omega
        have SK := Lib.hid (S5.out.below YB.out)
        obtain ⟨g, o, rfl, hg, ea⟩ := evs_at SK.out hlt
        have zg := szs hg
        have HDR : Hid ((ents R m).drop j = R j :: (ents R m).drop (j + 1)) := Lib.hid (drop_ents hlt)
        rw [HDR.out] at VK YP
        unfold lvR at VK
        have HNX : Hid (nextB ((ents R m).drop (j + 1)) (R j).at' = if j + 1 < m then decide ((R (j + 1)).at' = (R j).at') else false) := Lib.hid (by
          by_cases h : j + 1 < m
          · rw [if_pos h, drop_ents h]; rfl
          · rw [if_neg h, List.drop_of_length_le (by rw [ents_len]; omega)]; rfl)
        generalize hy : R j = y at *
        obtain ⟨v1, v2, v3, v4, v5, v6, v7, v8, v9⟩ := y
        dsimp only at VK HNX
        (have y0 := (ea).c0; have y1 := (ea).c1; have y2 := (ea).c2; have y3 := (ea).c3; have y4 := (ea).c4; have y5 := (ea).c5; have y6 := (ea).c6; have y7 := (ea).c7; have y8 := (ea).c8); (try dsimp only at y0 y1 y2 y3 y4 y5 y6 y7 y8)
        obtain ⟨hc, h10, hfk, hrest⟩ := YP.out
        have HWL : Hid (w5.heap.size < wr.heap.size) := Lib.hid (block_lt Y12.out)
        have HNV : Hid (gv < wr.heap.size ∧ w5.heap.size + 1 ≤ gv) := Lib.hid ⟨(World.ownsRow.lt YL.out gv rfl).2, (World.ownsRow.lt YL.out gv rfl).1⟩
        have AP := fun w' (hb : Below wr.heap.size wr w') => applyR59 HNB.out (YI.out.below hb) YV.out (by omega) (by omega) ⟨v1, v2, v3, v4, v5, v6, v7, v8, v9⟩ hc h10 hfk
        have hk1 := apply_k hc h10 hfk
        have HIN1 : Inv nb (applyK s ⟨v1, v2, v3, v4, v5, v6, v7, v8, v9⟩) := by
          have h2 := YV.out
          rw [HNB.out] at h2 ⊢
          exact h2.step hc hfk
        have HAT : Hid (0 ≤ v3) := Lib.hid (at_in hc).1
        unfold eC at AP
        dsimp only at AP
        generalize applyK s ⟨v1, v2, v3, v4, v5, v6, v7, v8, v9⟩ = s' at *
        replace AP := Lib.hid AP
        have YV2 := Lib.hid HIN1
        have YP2 := Lib.hid hrest
        have hc1 := cntN_le s'.F 4 truck nb
        clear hc h10 hfk hrest HIN1 YP YV SK
        have s0 := cell_at Y12.out 0
        have s1 := cell_at Y12.out 1
        have zs := szs (block_lt Y12.out)
        go_wp2_with fail
        (obtain ⟨ι, hne, Fw, fb, hF⟩ := grow_family wr); have hF : ∀ w', (vPlan wr (stG wr.heap.size nb s') (stS nb s'.k) [5] [] (fun _ => [])).D [] w' → ∃ i, w' = Fw i := hF
        have fs0 := fun i => cell_kept (fb i) s0
        have fs1 := fun i => cell_kept (fb i) s1
        (have f0 := fun i => cell_kept (fb i) y0; have f1 := fun i => cell_kept (fb i) y1; have f2 := fun i => cell_kept (fb i) y2; have f3 := fun i => cell_kept (fb i) y3; have f4 := fun i => cell_kept (fb i) y4; have f5 := fun i => cell_kept (fb i) y5; have f6 := fun i => cell_kept (fb i) y6; have f7 := fun i => cell_kept (fb i) y7; have f8 := fun i => cell_kept (fb i) y8); (clear y0 y1 y2 y3 y4 y5 y6 y7 y8)
        clear s0 s1 zs zg
        (refine region_chainO (vPlan wr (stG wr.heap.size nb s') (stS nb s'.k) [5] [] (fun _ => [])) [] [] [0, 1, 2, 3, 4, 5] [6] mixed (by kernel_rfl) (by kernel_rfl) (fun _ _ h => nomatch h) (vPlan_ok (stG_below) (by simp)) (vPlan_start (trivial)) ?_; refine wpPure_nil ?_; simp only [List.map_cons, List.map_nil, Array.getD_eq_getD_getElem?, List.getElem?_toArray, List.getElem?_cons_zero, List.getElem?_cons_succ, Option.getD_some])
        (repeat (first | (refine wpChainO_skip rfl ?_; simp only [Act.put, List.setIfInBounds_toArray, List.set_cons_succ, List.set_cons_zero]) | (refine wpChainO_quiet hF rfl rfl rfl ?_; intro K hK; go_big_quiet_op; go_big_quiet_on) | (refine wpChainO_pure _ rfl rfl (fun w' _ => by go_simp; try rfl) ?_; simp only [Act.put, List.setIfInBounds_toArray, List.set_cons_succ, List.set_cons_zero])))
        refine wpChainO_vcall 59 #[.agg #[.slice sa' nb sc', .slice ta' s.k tc'], .agg #[.int .i64 v1, .int .i64 v2, .int .i64 v3, .int .i64 v4, .int .i64 v5, .int .i64 v6, .int .i64 v7, .int .i64 v8, .int .i64 v9]] rfl rfl (fun w' => by go_simp) (fun w' hb _ _ => ?_) ?_
        · refine (AP.out w' hb).mono ?_
          rintro e w7 ⟨sv, tv, rfl, ro, b7⟩
          obtain ⟨sa6, sc6, ta6, tc6, rfl, rfl, _⟩ := ro.toIn
          exact ⟨_, rfl, ⟨_, _, _, _, rfl⟩, ⟨_, _, rfl, ROwn.base_mono ro hb.size⟩, b7⟩
        rintro u1 ⟨sa6, sc6, ta6, tc6, rfl⟩
        simp only [Act.put, List.setIfInBounds_toArray, List.set_cons_succ, List.set_cons_zero]
        (repeat (first | (refine wpChainO_skip rfl ?_; simp only [Act.put, List.setIfInBounds_toArray, List.set_cons_succ, List.set_cons_zero]) | (refine wpChainO_quiet hF rfl rfl rfl ?_; intro K hK; go_big_quiet_op; go_big_quiet_on) | (refine wpChainO_pure _ rfl rfl (fun w' _ => by go_simp; try rfl) ?_; simp only [Act.put, List.setIfInBounds_toArray, List.set_cons_succ, List.set_cons_zero])))
        refine wpChainO_nil (fun w7 hb7 hl7 => ?_)
        have b7 : Below wr.heap.size wr w7 := hb7.1
        have hg7 : ∃ sv tv, Value.agg #[.slice sa6 nb sc6, .slice ta6 s'.k tc6] = .agg #[sv, tv] ∧ ROwn w7 wr.heap.size nb s' sv tv := hb7.2
        obtain ⟨_, _, he, ro7⟩ := hg7
        cases he
        replace Y12 := Lib.hid ((b7.block _ (block_lt Y12.out)).trans Y12.out)
        replace YB := Lib.hid (YB.out.trans (b7.mono YB.out.size))
        replace YL := Lib.hid (YL.out.off (X := fun _ => False) (Off.of_below b7) (fun _ _ h => h))
        have H6 := Lib.hid ro7
        clear hb7 hl7 hF fb hne ro7 b7 fs0 fs1 AP f0 f1 f2 f3 f4 f5 f6 f7 f8 YI hg ea
        have s0 := cell_at Y12.out 0
        have s1 := cell_at Y12.out 1
        have fr := fun i => free_at Y12.out i
        have zs := szs (block_lt Y12.out)
        have h8 := put2 Y12.out (.slice sa6 nb sc6) (.slice ta6 s'.k tc6)
        have o8 := off2 w7 w5.heap.size (.slice sa6 nb sc6) (.slice ta6 s'.k tc6)
        have YO := Lib.hid (H6.out.off o8 (fun gg hgg h => by have := (World.ownsRow.lt H6.out.sp gg hgg).1; have := HWL.out; have h : gg = w5.heap.size := h; omega) (fun gg hgg h => by have := (World.ownsRow.lt H6.out.tr gg hgg).1; have := HWL.out; have h : gg = w5.heap.size := h; omega))
        replace YL := Lib.hid (YL.out.off o8 (fun gg hgg h => by cases hgg; have := HNV.out; have h : gv = w5.heap.size := h; omega))
        replace YB := Lib.hid (YB.out.trans (o8.toBelow YB.out.size (fun q hq h => by have h : q = w5.heap.size := h; omega)))
        go_wp2_with fail
        generalize World.setCell (World.setCell w7 _ _) _ _ = w8 at *
        replace Y12 := Lib.hid h8
        clear s0 s1 fr zs h8 o8 H6
        refine onlyN_intro ?_
        -- is the next event of the same moment?
        have SK := Lib.hid (S5.out.below YB.out)
        obtain ⟨g1, o1, eg1, hg1, ea⟩ := evs_at SK.out hlt
        cases eg1
        rw [hy] at ea
        (have y0 := (ea).c0; have y1 := (ea).c1; have y2 := (ea).c2; have y3 := (ea).c3; have y4 := (ea).c4; have y5 := (ea).c5; have y6 := (ea).c6; have y7 := (ea).c7; have y8 := (ea).c8); (try dsimp only at y0 y1 y2 y3 y4 y5 y6 y7 y8)
        have zg := szs hg1
        obtain ⟨nx, hnx⟩ : ∃ nx, nx = nextB ((ents R m).drop (j + 1)) v3 := ⟨_, rfl⟩
        rw [← hnx] at VK HNX
        clear hnx
        have hg2 := hg1
        clear hg1
        cases nx with
        | true =>
          rw [if_pos rfl] at VK
          by_cases hj1 : j + 1 < m
          · rw [if_pos hj1] at HNX
            have he := of_decide_eq_true HNX.out.symm
            obtain ⟨g3, o3, eg3, _, ea3⟩ := evs_at SK.out hj1
            cases eg3
            have u2 := ea3.c2
            rw [he] at u2
            have tj1 : (j : Int) + 1 < (m : Int) := by omega
            clear he ea3
            go_wp2_with fail
            (refine region_all (fun i : Nat => World.drewN _ i) mixed (by kernel_rfl) ⟨1, rfl⟩ ?_; (repeat (any_goals (first | go_big_quiet_step (fail) | quiet_step (fail) | (refine wpQuiet_step (fun K hK => ?_); go_simp; split <;> (refine hK _ ?_; clear hK K))))); (all_goals (refine wpQuiet_nil (fun nq => ?_))))
            have bq : Below w8.heap.size w8 (w8.drewN nq) := below_drewN (Below.refl _ _) nq
            replace Y12 := Lib.hid ((bq.block _ (block_lt Y12.out)).trans Y12.out)
            replace YO := Lib.hid (YO.out.below bq)
            replace YL := Lib.hid (YL.out.off (X := fun _ => False) (Off.of_below bq) (fun _ _ h => h))
            replace YB := Lib.hid (YB.out.trans (bq.mono YB.out.size))
            replace SK := Lib.hid (SK.out.below bq)
            go_wp2_with fail
            go_roundw
            case rel => exact ⟨j + 1, s', sa6, sc6, ta6, tc6, gv, cv, L, by go_num, by omega, rfl, hl1, by omega, hl3, hl4, by omega, VK, YV2, YP2, Y12, Lib.hid YO.out.inn, YL, YB⟩
            case measure => simp [intOf]; omega
          · rw [if_neg hj1] at HNX
            exact absurd HNX.out (by simp)
        | false =>
          by_cases hj1 : j + 1 < m
          · rw [if_pos hj1] at HNX
            have he := of_decide_eq_false HNX.out.symm
            obtain ⟨g3, o3, eg3, _, ea3⟩ := evs_at SK.out hj1
            cases eg3
            have u2 := ea3.c2
            have tj1 : (j : Int) + 1 < (m : Int) := by omega
            generalize (R (j + 1)).at' = at3 at *
            have te : (at3 == v3) = false := by simpa using he
            clear he ea3
            go_wp2_with fail
            rw [if_neg (by simp)] at VK
            (refine region_all (fun i : Nat => World.drewN _ i) mixed (by kernel_rfl) ⟨1, rfl⟩ ?_; (repeat (any_goals (first | go_big_quiet_step (fail) | quiet_step (fail) | (refine wpQuiet_step (fun K hK => ?_); go_simp; split <;> (refine hK _ ?_; clear hK K))))); (all_goals (refine wpQuiet_nil (fun nq => ?_))))
            have bq : Below w8.heap.size w8 (w8.drewN nq) := below_drewN (Below.refl _ _) nq
            replace Y12 := Lib.hid ((bq.block _ (block_lt Y12.out)).trans Y12.out)
            replace YO := Lib.hid (YO.out.below bq)
            replace YL := Lib.hid (YL.out.off (X := fun _ => False) (Off.of_below bq) (fun _ _ h => h))
            replace YB := Lib.hid (YB.out.trans (bq.mono YB.out.size))
            replace SK := Lib.hid (SK.out.below bq)
            clear y0 y1 y2 y3 y4 y5 y6 y7 y8 zg ea hg2
            clear bq
            generalize w8.drewN nq = w9 at *
            have CA := Lib.hid (carriedR58 YO.out.inn truck)
            have s0 := cell_at Y12.out 0
            have s1 := cell_at Y12.out 1
            have zs := szs (block_lt Y12.out)
            go_wp2_with fail
            refine CA.out.mono ?_
            rintro e w10 ⟨rfl, b10⟩
            replace Y12 := Lib.hid ((b10.block _ (block_lt Y12.out)).trans Y12.out)
            replace YO := Lib.hid (YO.out.below b10)
            replace YL := Lib.hid (YL.out.off (X := fun _ => False) (Off.of_below b10) (fun _ _ h => h))
            replace YB := Lib.hid (YB.out.trans (b10.mono YB.out.size))
            replace SK := Lib.hid (SK.out.below b10)
            clear s0 s1 zs CA b10
            generalize cntN s'.F 4 truck nb = c1 at *
            obtain ⟨g2, o2, eg2, hg2, ea⟩ := evs_at SK.out hlt
            cases eg2
            rw [hy] at ea
            (have y0 := (ea).c0; have y1 := (ea).c1; have y2 := (ea).c2; have y3 := (ea).c3; have y4 := (ea).c4; have y5 := (ea).c5; have y6 := (ea).c6; have y7 := (ea).c7; have y8 := (ea).c8); (try dsimp only at y0 y1 y2 y3 y4 y5 y6 y7 y8)
            have zg := szs hg2
            have hgl := (World.ownsRow.lt YL.out gv rfl).2
            have zl := szs hgl
            by_cases h0 : v3 = 0
            · unfold addL at VK
              rw [if_pos h0] at VK
              subst h0
              have t0 : 0 < L.length := hl1
              have frl := fun i => Row.free YL.out i
              have l0 := Row.cell YL.out (lvf_len _) (i := 0) t0 (j := 0) (by decide)
              have l1 := Row.cell YL.out (lvf_len _) (i := 0) t0 (j := 1) (by decide)
              simp only [Nat.zero_mul, Nat.zero_add] at l0 l1
              go_wp2_with fail
              have oL : Off (fun q => q = gv) w10 (w10.setCell ⟨gv, 1, none⟩ (.int .i64 (c1 : Int))) := (Off.refl (fun q => q = gv) w10).setCell (p := ⟨gv, 1, none⟩) (fun _ => rfl) _
              have hL := LvRow.set0 YL.out rfl t0 (c1 : Int)
              replace Y12 := Lib.hid ((oL.block _ (block_lt Y12.out) (fun h => Row.ne YL.out rfl Y12.out (by decide) h.symm)).trans Y12.out)
              replace YO := Lib.hid (YO.out.off oL (fun gg hgg h => Row.ne2 YL.out YO.out.sp (by decide) rfl hgg h) (fun gg hgg h => Row.ne2 YL.out YO.out.tr (by decide) rfl hgg h))
              replace YB := Lib.hid (YB.out.trans (oL.toBelow YB.out.size (fun q hq h => by have h : q = gv := h; have := HNV.out; omega)))
              have YL2 := Lib.hid hL
              clear oL hL frl l0 l1 hgl zl YL
              generalize w10.setCell ⟨gv, 1, none⟩ (.int .i64 (c1 : Int)) = w11 at *
              go_roundw
              case rel => exact ⟨j + 1, s', sa6, sc6, ta6, tc6, gv, cv, L.set 0 ((L.getD 0 (0, 0)).1, (c1 : Int)), by go_num, by omega, by rw [List.length_set], by rw [List.length_set]; omega, by rw [List.length_set]; omega, by rw [List.length_set]; exact hl3, hl4, by omega, VK, YV2, YP2, Y12, Lib.hid YO.out.inn, Lib.hid (by rw [List.length_set]; exact YL2.out), YB⟩
              case measure => simp [intOf]; omega
            · have t0 : (v3 == 0) = false := by simpa using h0
              unfold addL at VK
              rw [if_neg h0] at VK
              obtain ⟨q, hq⟩ : ∃ q, L.length = q + 1 := ⟨L.length - 1, by omega⟩
              rw [show L.length - 1 = q by omega] at VK
              have l1 : w10.cell? ⟨gv, q * 2 + 1, none⟩ = some (.int .i64 (L.getD q (0, 0)).2) := Row.cell YL.out (lvf_len _) (i := q) (by omega) (j := 1) (by decide)
              generalize (L.getD q (0, 0)).2 = lc at *
              have HQ := Lib.hid hq
              rw [hq] at YL ⊢
              have tq : (q : Int) < (q : Int) + 1 := by omega
              have hq3 : q + 1 ≤ cv := by omega
              clear hq
              by_cases hne : (c1 : Int) = lc
              · rw [if_neg (fun h => h hne)] at VK
                have tne : ((c1 : Int) != lc) = false := by simpa using hne
                have HNE := Lib.hid hne
                clear hne
                go_wp2_with fail
                go_roundw
                case rel => exact ⟨j + 1, s', sa6, sc6, ta6, tc6, gv, cv, L, by go_num, by omega, by rw [HQ.out], hl1, by omega, hl3, hl4, by omega, VK, YV2, YP2, Y12, Lib.hid YO.out.inn, Lib.hid (by rw [HQ.out]; exact YL.out), YB⟩
                case measure => simp [intOf]; omega
              · rw [if_pos hne] at VK
                have tne : ((c1 : Int) != lc) = true := by simpa using hne
                clear hne
                have BR : Below w10.heap.size w10 (w10.alloc (.cells #[.int .i64 v3, .int .i64 (c1 : Int)] 46)) := by (repeat' (first | (with_reducible exact Below.refl _ _) | (with_reducible assumption) | (with_reducible refine Below.drew ?_) | (with_reducible refine below_drewN ?_ _) | (with_reducible refine Below.alloc ?_ ?_ _) | (with_reducible refine Below.setCell ?_ ?_ _) | go_size))
                have XR := Lib.hid (al_at w10 (.cells #[.int .i64 v3, .int .i64 (c1 : Int)] 46) rfl)
                replace Y12 := Lib.hid ((BR.block _ (block_lt Y12.out)).trans Y12.out)
                replace YO := Lib.hid (YO.out.below BR)
                replace YL := Lib.hid (YL.out.off (X := fun _ => False) (Off.of_below BR) (fun _ _ h => h))
                replace YB := Lib.hid (YB.out.trans (BR.mono YB.out.size))
                replace SK := Lib.hid (SK.out.below BR)
                have hle : w5.heap.size + 1 ≤ (w10.alloc (.cells #[.int .i64 v3, .int .i64 (c1 : Int)] 46)).heap.size := by have := HNV.out; have := (World.ownsRow.lt YL.out gv rfl).2; omega
                go_wp2_with (at_builtin; go_loud (refine wpList_append_Lv _ rfl (.tmp 94) (.tmp 102) rfl (w5.heap.size + 1) _ L rfl YL.out w10.heap.size v3 (c1 : Int) rfl 46 (0, 0) XR.out (by omega) hle ?_))
                intro g11 c11 w11 q1 q2 r11 o11
                have hgp := (World.ownsRow.lt YL.out gv rfl)
                replace Y12 := Lib.hid ((o11.block _ (block_lt Y12.out) (fun h => Row.ne YL.out h Y12.out (by decide) rfl)).trans Y12.out)
                replace YO := Lib.hid (YO.out.off o11 (fun gg hgg h => Row.ne2 YL.out YO.out.sp (by decide) h hgg rfl) (fun gg hgg h => Row.ne2 YL.out YO.out.tr (by decide) h hgg rfl))
                replace YB := Lib.hid (YB.out.trans (o11.toBelow YB.out.size (fun q hq h => by have := (World.ownsRow.lt YL.out q h).1; omega)))
                have YL2 := Lib.hid r11
                clear y0 y1 y2 y3 y4 y5 y6 y7 y8 zg ea hg2
                clear o11 r11 BR XR hle l1 hgp hgl zl YL
                go_wp2_with fail
                go_roundw
                case rel => exact ⟨j + 1, s', sa6, sc6, ta6, tc6, g11, c11, L ++ [(v3, (c1 : Int))], by go_num, by omega, by rw [List.length_append]; rfl, by simp, by simp; omega, by simpa using q1, q2, by omega, VK, YV2, YP2, Y12, Lib.hid YO.out.inn, Lib.hid (by rw [List.length_append]; exact YL2.out), YB⟩
                case measure => simp [intOf]; omega
          · have tj1 : decide ((j : Int) + 1 < (m : Int)) = false := decide_eq_false (by omega)
            go_wp2_with fail
            rw [if_neg (by simp)] at VK
            (refine region_all (fun i : Nat => World.drewN _ i) mixed (by kernel_rfl) ⟨1, rfl⟩ ?_; (repeat (any_goals (first | go_big_quiet_step (fail) | quiet_step (fail) | (refine wpQuiet_step (fun K hK => ?_); go_simp; split <;> (refine hK _ ?_; clear hK K))))); (all_goals (refine wpQuiet_nil (fun nq => ?_))))
            have bq : Below w8.heap.size w8 (w8.drewN nq) := below_drewN (Below.refl _ _) nq
            replace Y12 := Lib.hid ((bq.block _ (block_lt Y12.out)).trans Y12.out)
            replace YO := Lib.hid (YO.out.below bq)
            replace YL := Lib.hid (YL.out.off (X := fun _ => False) (Off.of_below bq) (fun _ _ h => h))
            replace YB := Lib.hid (YB.out.trans (bq.mono YB.out.size))
            replace SK := Lib.hid (SK.out.below bq)
            clear y0 y1 y2 y3 y4 y5 y6 y7 y8 zg ea hg2
            clear bq
            generalize w8.drewN nq = w9 at *
            have CA := Lib.hid (carriedR58 YO.out.inn truck)
            have s0 := cell_at Y12.out 0
            have s1 := cell_at Y12.out 1
            have zs := szs (block_lt Y12.out)
            go_wp2_with fail
            refine CA.out.mono ?_
            rintro e w10 ⟨rfl, b10⟩
            replace Y12 := Lib.hid ((b10.block _ (block_lt Y12.out)).trans Y12.out)
            replace YO := Lib.hid (YO.out.below b10)
            replace YL := Lib.hid (YL.out.off (X := fun _ => False) (Off.of_below b10) (fun _ _ h => h))
            replace YB := Lib.hid (YB.out.trans (b10.mono YB.out.size))
            replace SK := Lib.hid (SK.out.below b10)
            clear s0 s1 zs CA b10
            generalize cntN s'.F 4 truck nb = c1 at *
            obtain ⟨g2, o2, eg2, hg2, ea⟩ := evs_at SK.out hlt
            cases eg2
            rw [hy] at ea
            (have y0 := (ea).c0; have y1 := (ea).c1; have y2 := (ea).c2; have y3 := (ea).c3; have y4 := (ea).c4; have y5 := (ea).c5; have y6 := (ea).c6; have y7 := (ea).c7; have y8 := (ea).c8); (try dsimp only at y0 y1 y2 y3 y4 y5 y6 y7 y8)
            have zg := szs hg2
            have hgl := (World.ownsRow.lt YL.out gv rfl).2
            have zl := szs hgl
            by_cases h0 : v3 = 0
            · unfold addL at VK
              rw [if_pos h0] at VK
              subst h0
              have t0 : 0 < L.length := hl1
              have frl := fun i => Row.free YL.out i
              have l0 := Row.cell YL.out (lvf_len _) (i := 0) t0 (j := 0) (by decide)
              have l1 := Row.cell YL.out (lvf_len _) (i := 0) t0 (j := 1) (by decide)
              simp only [Nat.zero_mul, Nat.zero_add] at l0 l1
              go_wp2_with fail
              have oL : Off (fun q => q = gv) w10 (w10.setCell ⟨gv, 1, none⟩ (.int .i64 (c1 : Int))) := (Off.refl (fun q => q = gv) w10).setCell (p := ⟨gv, 1, none⟩) (fun _ => rfl) _
              have hL := LvRow.set0 YL.out rfl t0 (c1 : Int)
              replace Y12 := Lib.hid ((oL.block _ (block_lt Y12.out) (fun h => Row.ne YL.out rfl Y12.out (by decide) h.symm)).trans Y12.out)
              replace YO := Lib.hid (YO.out.off oL (fun gg hgg h => Row.ne2 YL.out YO.out.sp (by decide) rfl hgg h) (fun gg hgg h => Row.ne2 YL.out YO.out.tr (by decide) rfl hgg h))
              replace YB := Lib.hid (YB.out.trans (oL.toBelow YB.out.size (fun q hq h => by have h : q = gv := h; have := HNV.out; omega)))
              have YL2 := Lib.hid hL
              clear oL hL frl l0 l1 hgl zl YL
              generalize w10.setCell ⟨gv, 1, none⟩ (.int .i64 (c1 : Int)) = w11 at *
              go_roundw
              case rel => exact ⟨j + 1, s', sa6, sc6, ta6, tc6, gv, cv, L.set 0 ((L.getD 0 (0, 0)).1, (c1 : Int)), by go_num, by omega, by rw [List.length_set], by rw [List.length_set]; omega, by rw [List.length_set]; omega, by rw [List.length_set]; exact hl3, hl4, by omega, VK, YV2, YP2, Y12, Lib.hid YO.out.inn, Lib.hid (by rw [List.length_set]; exact YL2.out), YB⟩
              case measure => simp [intOf]; omega
            · have t0 : (v3 == 0) = false := by simpa using h0
              unfold addL at VK
              rw [if_neg h0] at VK
              obtain ⟨q, hq⟩ : ∃ q, L.length = q + 1 := ⟨L.length - 1, by omega⟩
              rw [show L.length - 1 = q by omega] at VK
              have l1 : w10.cell? ⟨gv, q * 2 + 1, none⟩ = some (.int .i64 (L.getD q (0, 0)).2) := Row.cell YL.out (lvf_len _) (i := q) (by omega) (j := 1) (by decide)
              generalize (L.getD q (0, 0)).2 = lc at *
              have HQ := Lib.hid hq
              rw [hq] at YL ⊢
              have tq : (q : Int) < (q : Int) + 1 := by omega
              have hq3 : q + 1 ≤ cv := by omega
              clear hq
              by_cases hne : (c1 : Int) = lc
              · rw [if_neg (fun h => h hne)] at VK
                have tne : ((c1 : Int) != lc) = false := by simpa using hne
                have HNE := Lib.hid hne
                clear hne
                go_wp2_with fail
                go_roundw
                case rel => exact ⟨j + 1, s', sa6, sc6, ta6, tc6, gv, cv, L, by go_num, by omega, by rw [HQ.out], hl1, by omega, hl3, hl4, by omega, VK, YV2, YP2, Y12, Lib.hid YO.out.inn, Lib.hid (by rw [HQ.out]; exact YL.out), YB⟩
                case measure => simp [intOf]; omega
              · rw [if_pos hne] at VK
                have tne : ((c1 : Int) != lc) = true := by simpa using hne
                clear hne
                have BR : Below w10.heap.size w10 (w10.alloc (.cells #[.int .i64 v3, .int .i64 (c1 : Int)] 46)) := by (repeat' (first | (with_reducible exact Below.refl _ _) | (with_reducible assumption) | (with_reducible refine Below.drew ?_) | (with_reducible refine below_drewN ?_ _) | (with_reducible refine Below.alloc ?_ ?_ _) | (with_reducible refine Below.setCell ?_ ?_ _) | go_size))
                have XR := Lib.hid (al_at w10 (.cells #[.int .i64 v3, .int .i64 (c1 : Int)] 46) rfl)
                replace Y12 := Lib.hid ((BR.block _ (block_lt Y12.out)).trans Y12.out)
                replace YO := Lib.hid (YO.out.below BR)
                replace YL := Lib.hid (YL.out.off (X := fun _ => False) (Off.of_below BR) (fun _ _ h => h))
                replace YB := Lib.hid (YB.out.trans (BR.mono YB.out.size))
                replace SK := Lib.hid (SK.out.below BR)
                have hle : w5.heap.size + 1 ≤ (w10.alloc (.cells #[.int .i64 v3, .int .i64 (c1 : Int)] 46)).heap.size := by have := HNV.out; have := (World.ownsRow.lt YL.out gv rfl).2; omega
                go_wp2_with (at_builtin; go_loud (refine wpList_append_Lv _ rfl (.tmp 94) (.tmp 102) rfl (w5.heap.size + 1) _ L rfl YL.out w10.heap.size v3 (c1 : Int) rfl 46 (0, 0) XR.out (by omega) hle ?_))
                intro g11 c11 w11 q1 q2 r11 o11
                have hgp := (World.ownsRow.lt YL.out gv rfl)
                replace Y12 := Lib.hid ((o11.block _ (block_lt Y12.out) (fun h => Row.ne YL.out h Y12.out (by decide) rfl)).trans Y12.out)
                replace YO := Lib.hid (YO.out.off o11 (fun gg hgg h => Row.ne2 YL.out YO.out.sp (by decide) h hgg rfl) (fun gg hgg h => Row.ne2 YL.out YO.out.tr (by decide) h hgg rfl))
                replace YB := Lib.hid (YB.out.trans (o11.toBelow YB.out.size (fun q hq h => by have := (World.ownsRow.lt YL.out q h).1; omega)))
                have YL2 := Lib.hid r11
                clear y0 y1 y2 y3 y4 y5 y6 y7 y8 zg ea hg2
                clear o11 r11 BR XR hle l1 hgp hgl zl YL
                go_wp2_with fail
                go_roundw
                case rel => exact ⟨j + 1, s', sa6, sc6, ta6, tc6, g11, c11, L ++ [(v3, (c1 : Int))], by go_num, by omega, by rw [List.length_append]; rfl, by simp, by simp; omega, by simpa using q1, q2, by omega, VK, YV2, YP2, Y12, Lib.hid YO.out.inn, Lib.hid (by rw [List.length_append]; exact YL2.out), YB⟩
                case measure => simp [intOf]; omega
      · obtain rfl : j = m := by omega
        have BE := Lib.hid (B5.out.trans (YB.out.mono B5.out.size))
        rw [List.drop_of_length_le (by rw [ents_len]; omega)] at VK
        unfold lvR at VK
        go_wp2_with fail
        go_returns
        exact ⟨BE.out, .inr ⟨HY.out, _, rfl, by rw [VK.out]; exact Row.base_mono YL.out (by have := HZ.out; omega)⟩⟩
  · have tx : (x != 0) = true := by simpa using h0
    have H0 := Lib.hid h0
    rw [if_pos h0] at HY
    clear h0
    go_wp2_with fail
    go_returns
    exact ⟨B2.out, .inl ⟨by rw [HY.out]; exact H0.out, by rw [HY.out]; rfl⟩⟩
end Go.Proofs.YtlnfhlmgnppcbaaGreat
