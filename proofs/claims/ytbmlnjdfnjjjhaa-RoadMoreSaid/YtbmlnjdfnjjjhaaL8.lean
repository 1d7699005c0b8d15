/- The law RoadMore walked. -/
import Derived.Test.YtbmlnjdfnjjjhaaL7
namespace Go.Proofs.Ytbmlnjdfnjjjhaa
open Go.RowKit Go.ChangeShapes Go.WideShapes Go.Deep
set_option linter.unusedVariables false
set_option linter.unusedSimpArgs false
open Rd
set_option maxHeartbeats 8000000 in
set_option maxRecDepth 100000 in
theorem run_roadMore {H : Type} {enc : TypeId × Value → H} (W : World) (base : Nat) (v0 : Value) (d0 : DataW H) (p0 : List MemPlace) (hv0 : Value.okWide Try.prog W .any base 24 v0) (h0 : DataW.Trod enc Try.prog W 0 (fun _ => true) true 24 v0 d0 p0)
    (v1 : Value) (d1 : DataW H) (p1 : List MemPlace) (hv1 : Value.okWide Try.prog W .any base 43 v1) (h1 : DataW.Trod enc Try.prog W 0 (fun _ => true) true 43 v1 d1 p1)
    (v2 : Value) (d2 : DataW H) (p2 : List MemPlace) (hv2 : Value.okWide Try.prog W .any base 3 v2) (h2 : DataW.Trod enc Try.prog W 0 (fun _ => true) true 3 v2 d2 p2) :
    Calls Try.prog 8 #[v0, v1, v2] W fun e w' => e = .returned (.bool true) ∧ Below W.heap.size W w' := by
  obtain ⟨N, ao, m, c, E, rfl, _, hn, _⟩ := open_road hv0 h0
  obtain ⟨y, rfl⟩ := open_edge hv1 h1
  obtain ⟨src, rfl, rfl, rfl, _⟩ := open_int Try.underlying3 hv2 h2
  have HNONE := Lib.hid (road_none h0)
  clear hv0 h0 hv1 h1 hv2 h2
  obtain ⟨wa, hwa⟩ : ∃ wa, wa = W.alloc (.cells #[.int .i64 N, .slice ao m c] 24) := ⟨_, rfl⟩
  have ba : Below W.heap.size W wa := by rw [hwa]; exact (Below.refl _ _).alloc (Nat.le_refl _) _
  have xa : wa.heap[W.heap.size]? = some (.cells #[.int .i64 N, .slice ao m c] 24) := by rw [hwa]; exact heap_alloc_new W _
  obtain ⟨w0, hw0⟩ : ∃ w0, w0 = wa.alloc (.cells #[.int .i64 y.frm, .int .i64 y.til, .int .i64 y.sec] 43) := ⟨_, rfl⟩
  have b0 : Below wa.heap.size wa w0 := by rw [hw0]; exact (Below.refl _ _).alloc (Nat.le_refl _) _
  have xb : w0.heap[wa.heap.size]? = some (.cells #[.int .i64 y.frm, .int .i64 y.til, .int .i64 y.sec] 43) := by rw [hw0]; exact heap_alloc_new wa _
  have x0 := (b0.block _ (block_lt xa)).trans xa
  have eb : wa.heap.size = W.heap.size + 1 := by rw [hwa]; show (W.heap.push _).size = _; rw [Array.size_push]
  rw [eb] at xb
  have r0 : w0.cell? ⟨W.heap.size, 0, none⟩ = some (.int .i64 N) := cell_at x0 0
  have r1 : w0.cell? ⟨W.heap.size, 1, none⟩ = some (.slice ao m c) := cell_at x0 1
  have y0 : w0.cell? ⟨W.heap.size + 1, 0, none⟩ = some (.int .i64 y.frm) := cell_at xb 0
  have y1 : w0.cell? ⟨W.heap.size + 1, 1, none⟩ = some (.int .i64 y.til) := cell_at xb 1
  have y2 : w0.cell? ⟨W.heap.size + 1, 2, none⟩ = some (.int .i64 y.sec) := cell_at xb 2
  have zr := szs (cell_lt r0)
  have zy := szs (cell_lt y0)
  dsimp only at zr zy
  have B0 := Lib.hid (ba.trans (b0.mono ba.size))
  have n0 := Lib.hid ((hn.below ba).below b0)
  have HWA := Lib.hid hwa
  have HW := Lib.hid hw0
  have AW : Hid (∀ w', Calls Try.prog 10 #[] w' fun e w'' => e = .returned (.bool true) ∧ Below w'.heap.size w' w'') := Lib.hid awake10
  have hmc := hn.hm
  have hcc := hn.hc
  clear hn b0 ba x0 xa xb hw0 hwa eb
  by_cases hm59 : 59 < m
  · have tm : (59 : Int) < (m : Int) := by omega
    go_enter Try.func8, Try.ntmps8
    go_wp2_with fail
    rw [← HWA.out, ← HW.out]
    refine (AW.out _).mono ?_
    rintro e w4 ⟨rfl, b4⟩
    have B4 := Lib.hid (B0.out.trans (b4.mono B0.out.size))
    clear b4
    go_wp2_with fail
    go_returns
    exact ⟨rfl, B4.out⟩
  have tm : (m : Int) ≤ 59 := by omega
  obtain ⟨i0, hi, hz0, hz1, hz2⟩ := info_parts info43
  go_enter Try.func8, Try.ntmps8
  go_wp2_with fail
  rw [← HWA.out, ← HW.out]
  clear HW HWA
  obtain ⟨ι, hne, Fw, fb, hF⟩ := grow_family w0
  have fr0 := fun i => cell_kept (fb i) r0
  have fr1 := fun i => cell_kept (fb i) r1
  have fy0 := fun i => cell_kept (fb i) y0
  have fy1 := fun i => cell_kept (fb i) y1
  have fy2 := fun i => cell_kept (fb i) y2
  refine region_chainO (rowPlan w0 43 3 (fun k => match k with | 0 => 0 | 1 => 0 | 2 => m | _ => m + 1) (fun _ => ef (moreE m E y)) [2, 5, 8] [(7, fun b => .slice (some ⟨b, 0, none⟩) 1 1, .cells #[.int .i64 y.frm, .int .i64 y.til, .int .i64 y.sec] 43), (10, fun b => .pointer (some ⟨b, 0, none⟩), .cells #[.int .i64 0, .slice none 0 0] 24)] [(11, 10)] (fun i => if i = 8 then [7] else [])) (0, undef) [] [0, 1, 3, 4, 6, 7, 10, 2, 5, 8, 9, 11] [] mixed (by kernel_rfl) (by kernel_rfl) ?hU (rowPlan_ok (by simp) (by simp)) rowPlan_start ?_
  case hU =>
    intro j k hk
    have hk2 : k ∈ (if j = 8 then [7] else []) := hk
    clear hk
    split at hk2
    · rename_i hj
      obtain rfl := List.mem_singleton.1 hk2
      subst hj; show Region.waitsFor .any _ 8 7 = true; kernel_rfl
    · cases hk2
  refine wpPure_nil ?_
  simp only [List.map_cons, List.map_nil, Array.getD_eq_getD_getElem?, List.getElem?_toArray, List.getElem?_cons_zero, List.getElem?_cons_succ, Option.getD_some]
  repeat (refine wpChainO_quiet hF rfl rfl rfl ?_; intro K hK; go_big_quiet_op; go_big_quiet_on)
  refine wpChainO_alloc _ _ rfl (List.mem_cons_self ..) rfl (fun w' => by go_simp) (fun b7 hb7 => ?_)
  simp only [Act.put, List.setIfInBounds_toArray, List.set_cons_succ, List.set_cons_zero]
  refine wpChainO_alloc _ _ rfl (List.mem_cons_of_mem _ (List.mem_cons_self ..)) rfl (fun w' => by go_simp) (fun b10 hb10 => ?_)
  simp only [Act.put, List.setIfInBounds_toArray, List.set_cons_succ, List.set_cons_zero]
  refine wpChainO_main rfl rfl (rowPlan_make rfl (fun w' => by go_simp)) ?_
  rintro ⟨k1, u1⟩ ⟨hk1, a1, c1, hu1⟩
  dsimp only [rowPlan] at hk1 hu1
  subst hk1
  simp only [Nat.zero_add] at hu1
  subst hu1
  simp only [rowPlan_mval, Nat.zero_add, Act.put, List.setIfInBounds_toArray, List.set_cons_succ, List.set_cons_zero]
  refine wpChainO_main rfl rfl (rowPlan_append (ops := #[]) rfl rfl rfl (by show _ < 97; decide) rfl i0 _ 24 Try.underlying22 hi hz0 hz1 hz2 rfl (by decide) rfl (ef_len _) ao m c (ef E) rfl (ef_len _) HNONE.out (fun i u hu => by simp [ef] at hu; rcases hu with rfl | rfl | rfl <;> rfl) (fun w' hb _ => (n0.out.below hb).sl) (Nat.zero_add _).symm (fun j hj => ?_) ?_ ?_) ?_
  · simp only [cat, Nat.not_lt_zero, if_false, Nat.sub_zero]
    show ef E j = ef (moreE m E y) j
    unfold ef; rw [moreE_at (by simpa using hj)]
  · show (0 + m) * 24 ≤ _; omega
  · show 0 + m ≤ _; unfold maxLen; omega
  rintro ⟨k2, u2⟩ ⟨hk2, a2, c2, hu2⟩
  dsimp only [rowPlan] at hk2 hu2
  subst hk2
  simp only [Nat.zero_add] at hu2
  subst hu2
  simp only [rowPlan_mval, Nat.zero_add, Act.put, List.setIfInBounds_toArray, List.set_cons_succ, List.set_cons_zero]
  refine wpChainO_main rfl rfl (rowPlan_append (ops := #[]) rfl rfl rfl (by show _ < 97; decide) rfl i0 _ 24 Try.underlying22 hi hz0 hz1 hz2 rfl (by decide) rfl (ef_len _) (some ⟨b7, 0, none⟩) 1 1 (fun _ => [.int .i64 y.frm, .int .i64 y.til, .int .i64 y.sec]) rfl (fun _ => rfl) (fun h => by cases h) (fun i u hu => by simp at hu; rcases hu with rfl | rfl | rfl <;> rfl) (fun w' hb hU => ?_) rfl (fun j hj => ?_) ?_ ?_) ?_
  · have hx := hU (7, b7, .cells #[.int .i64 y.frm, .int .i64 y.til, .int .i64 y.sec] 43) (by simp [usedBy, rowPlan])
    intro i hi
    obtain rfl : i = 0 := by omega
    refine ⟨b7, 0, rfl, fun j hj => ?_⟩
    rw [cell_at hx]
    rcases (by omega : j = 0 ∨ j = 1 ∨ j = 2) with rfl | rfl | rfl <;> rfl
  · have hj : j < m + 1 := hj
    by_cases h : j < m
    · show cat (ef (moreE m E y)) m _ j = _
      simp [cat, h]
    · obtain rfl : j = m := by omega
      show cat (ef (moreE j E y)) j _ j = _
      simp [cat, ef, moreE]
  · show (m + 1) * 24 ≤ _; omega
  · show m + 1 ≤ _; unfold maxLen; omega
  rintro ⟨k3, u3⟩ ⟨hk3, a3, c3, hu3⟩
  dsimp only [rowPlan] at hk3 hu3
  subst hk3
  simp only [Nat.zero_add] at hu3
  subst hu3
  simp only [rowPlan_mval, Nat.zero_add, Act.put, List.setIfInBounds_toArray, List.set_cons_succ, List.set_cons_zero]
  repeat (refine wpChainO_quiet hF rfl rfl rfl ?_; intro K hK; go_big_quiet_op; go_big_quiet_on)
  refine wpChainO_store 10 b10 _ (.cells #[.int .i64 N, .slice a3 (m + 1) c3] 24) rfl (List.mem_singleton.2 rfl) (List.mem_cons_self ..) (fun x hx hx1 => by simp at hx; rcases hx with rfl | rfl; rfl; simp at hx1) rfl (fun w' hw' => by have c0 := cell_at hw' 0; have c1 := cell_at hw' 1; have g0 := free_at hw'; have hlt := block_lt hw'; go_simp; rw [setCell_at hw', setAt_setCell hlt]; rfl) ?_
  simp only [rowPlan_mval, Nat.zero_add, Act.put, List.setIfInBounds_toArray, List.set_cons_succ, List.set_cons_zero]
  refine wpChainO_nil (fun w3 hk3 hl3 => ?_)
  have b3 : Below w0.heap.size w0 w3 := hk3.1
  have row3 : Row w3 w0.heap.size 43 3 (.slice a3 (m + 1) c3) (m + 1) (ef (moreE m E y)) := hk3.2.2 (Nat.succ_ne_zero _)
  have hx3 : w3.heap[b10]? = some (.cells #[.int .i64 N, .slice a3 (m + 1) c3] 24) := (hl3.1.2 (10, b10, .cells #[.int .i64 N, .slice a3 (m + 1) c3] 24) (by simp [setB])).2
  obtain ⟨a3', c3', e3, hmc3, hcc3, sl3, hno3⟩ := row3.sl (ef_len _)
  cases e3
  have n3' : Net w3 a3 (m + 1) c3 (moreE m E y) := ⟨hmc3, hcc3, sl3⟩
  have s0 := cell_kept b3 r0
  have s1 := cell_kept b3 r1
  have q0 : w3.cell? ⟨b10, 0, none⟩ = some (.int .i64 N) := cell_at hx3 0
  have q1 : w3.cell? ⟨b10, 1, none⟩ = some (.slice a3 (m + 1) c3) := cell_at hx3 1
  have zs := szs (cell_lt s0)
  have zq := szs (cell_lt q0)
  dsimp only at zs zq
  have B3 := Lib.hid (B0.out.trans (b3.mono B0.out.size))
  have n3 := Lib.hid (n0.out.below b3)
  have N3 := Lib.hid n3'
  clear b3 row3 hx3 sl3 hno3 n3' hk3 hl3 hF fb fr0 fr1 fy0 fy1 fy2 r0 r1 y0 y1 y2 zr zy hi hz0 hz1 hz2 hne hb7 hb10
  refine onlyN_intro ?_
  have T1 := Lib.hid (times11 N ao m c E src w3 n3.out)
  go_wp2_with fail
  refine T1.out.mono ?_
  rintro e w4 hT
  obtain ⟨a1', c1', rfl, u1, x1, i1, b4⟩ := hT.val
  have g0 := cell_kept b4 s0
  have g1 := cell_kept b4 s1
  have p0 := cell_kept b4 q0
  have p1 := cell_kept b4 q1
  have zg := szs (cell_lt g0)
  have zp := szs (cell_lt p0)
  dsimp only at zg zp
  have B4 := Lib.hid (B3.out.trans (b4.mono B3.out.size))
  have N4 := Lib.hid (N3.out.below b4)
  have I1 := Lib.hid i1
  have T2 := Lib.hid (times11 N a3 (m + 1) c3 (moreE m E y) src w4 N4.out)
  clear b4 s0 s1 q0 q1 zs zq i1 hT T1
  go_wp2_with fail
  refine T2.out.mono ?_
  rintro e w5 hT
  obtain ⟨a2', c2', rfl, u2, x2, i2, b5⟩ := hT.val
  have f0 := cell_kept b5 g0
  have f1 := cell_kept b5 g1
  have zf := szs (cell_lt f0)
  dsimp only at zf
  have B5 := Lib.hid (B4.out.trans (b5.mono B4.out.size))
  have I5 := Lib.hid (And.intro (I1.out.below b5) i2)
  clear b5 g0 g1 p0 p1 zg zp i2 hT T2 I1
  by_cases k1 : (timesV N m E src).2.2 = 0
  · by_cases k2 : (timesV N (m + 1) (moreE m E y) src).2.2 = 0
    · obtain ⟨n, s, hN, hks, hs, hr, hre, hV⟩ := timesV_ok k1
      obtain ⟨n', s2, hN', hks2, hs2, hr', _, hV2⟩ := timesV_ok k2
      obtain rfl : n' = n := by omega
      obtain rfl : s2 = s := by omega
      subst hN hks
      obtain ⟨ex, hex⟩ : ∃ x, x = (timesV n' m E s2).2.2 := ⟨_, rfl⟩
      obtain ⟨ey, hey⟩ : ∃ x, x = (timesV n' (m + 1) (moreE m E y) s2).2.2 := ⟨_, rfl⟩
      obtain ⟨lx, hlx⟩ : ∃ x, x = (timesV n' m E s2).1 := ⟨_, rfl⟩
      obtain ⟨ly, hly⟩ : ∃ x, x = (timesV n' (m + 1) (moreE m E y) s2).1 := ⟨_, rfl⟩
      have i1 : Ints w5 a1' n' (fun i => sec (gr Ed.frm Ed.til n' m E) s2 i) := by have := I5.out.1; rwa [hV] at this
      have i2 : Ints w5 a2' n' (fun i => sec (gr Ed.frm Ed.til n' (m + 1) (moreE m E y)) s2 i) := by have := I5.out.2; rwa [hV2] at this
      rw [← hex, ← hey, ← hlx, ← hly]
      rw [← hlx] at u1
      rw [← hly] at u2
      obtain rfl : ex = 0 := by rw [hex, hV]
      obtain rfl : ey = 0 := by rw [hey, hV2]
      obtain rfl : lx = n' := by rw [hlx, hV]
      obtain rfl : ly = lx := by rw [hly, hV2]
      have J1 := Lib.hid i1
      have J2 := Lib.hid i2
      have hn64 := hr.n2
      have mr := fun v => sec_more (v := v) hr hr' (show 0 ≤ (s2 : Int) ∧ (s2 : Int) < (ly : Int) by omega)
      have HM := Lib.hid mr
      clear hr hr' hre hV hV2 hex hey hlx hly i1 i2 mr k1 k2 I5
      go_wp2_with fail
      go_loopw [12] (fun iv wr => ∃ i : Nat, iv = .int .i64 i ∧ i ≤ ly ∧ Hid (Below w5.heap.size w5 wr)) (fun iv _ => ly - (intOf iv).toNat)
      case atStart => exact ⟨0, rfl, by omega, Below.refl _ _⟩
      case round =>
        obtain ⟨i, rfl, hi, hrel⟩ := hrel
        by_cases hlt : i < ly
        · obtain ⟨ga, oa, hao, hga, cx⟩ := (J1.out.below hrel.out).cell hlt
          subst hao
          obtain ⟨gy, oy, hao, hgy, cy⟩ := (J2.out.below hrel.out).cell hlt
          subst hao
          have zga := szs hga
          have zgy := szs hgy
          have ti : (i : Int) < (ly : Int) := by omega
          have hm := HM.out i
          obtain ⟨xi, hxi⟩ : ∃ x, x = sec (gr Ed.frm Ed.til ly m E) s2 i := ⟨_, rfl⟩
          obtain ⟨yi, hyi⟩ : ∃ x, x = sec (gr Ed.frm Ed.til ly (m + 1) (moreE m E y)) s2 i := ⟨_, rfl⟩
          rw [← hxi] at cx hm
          rw [← hyi] at cy hm
          have c2 : (xi < 0 ∧ decide (0 ≤ xi) = false) ∨ (0 ≤ xi ∧ 0 ≤ yi ∧ yi ≤ xi ∧ decide (yi < 0) = false ∧ decide (xi < yi) = false) := by
            by_cases h : xi < 0
            · exact .inl ⟨h, by simp; omega⟩
            · have := hm (by omega); exact .inr ⟨by omega, this.1, this.2, by simp; omega, by simp; omega⟩
          have HRL := Lib.hid hrel.out
          clear hxi hyi hm hrel
          rcases c2 with ⟨h1, h2⟩ | ⟨h1, h2, h3, h4, h5⟩
          all_goals
            go_wp2_with fail
            (refine region_all (fun i : Nat => World.drewN _ i) mixed (by kernel_rfl) ⟨1, rfl⟩ ?_; (repeat (any_goals (first | go_big_quiet_step (fail) | quiet_step (fail) | (refine wpQuiet_step (fun K hK => ?_); go_simp; split <;> (refine hK _ ?_; clear hK K))))); (all_goals (refine wpQuiet_nil (fun nq => ?_))))
            go_wp2_with fail
            go_roundw
            case rel => exact ⟨i + 1, by go_num, by omega, Lib.hid (by have := HRL.out; (have hszz := (this).size; (repeat' (first | (with_reducible exact Below.refl _ _) | (with_reducible assumption) | (with_reducible refine Below.drew ?_) | (with_reducible refine below_drewN ?_ _) | (with_reducible refine Below.alloc ?_ ?_ _) | (with_reducible refine Below.setCell ?_ ?_ _) | go_size))))⟩
            case measure => simp [intOf]; omega
        · obtain rfl : i = ly := by omega
          have BR := Lib.hid (B5.out.trans (hrel.out.mono B5.out.size))
          clear hrel
          go_wp2_with fail
          refine (AW.out _).mono ?_
          rintro e w9 ⟨rfl, b9⟩
          have B9 := Lib.hid (BR.out.trans (b9.mono BR.out.size))
          clear b9
          go_wp2_with fail
          go_returns
          exact ⟨rfl, B9.out⟩
    · obtain ⟨ex, hex⟩ : ∃ x, x = (timesV N m E src).2.2 := ⟨_, rfl⟩
      obtain ⟨ey, hey⟩ : ∃ x, x = (timesV N (m + 1) (moreE m E y) src).2.2 := ⟨_, rfl⟩
      obtain ⟨lx, hlx⟩ : ∃ x, x = (timesV N m E src).1 := ⟨_, rfl⟩
      obtain ⟨ly, hly⟩ : ∃ x, x = (timesV N (m + 1) (moreE m E y) src).1 := ⟨_, rfl⟩
      rw [← hex] at k1
      rw [← hey] at k2
      rw [← hex, ← hey, ← hlx, ← hly]
      subst k1
      have s6 : (ey != 0) = true := by simp [k2]
      clear k2 hex hey hlx hly I5
      go_wp2_with fail
      refine (AW.out _).mono ?_
      rintro e w9 ⟨rfl, b9⟩
      have B9 := Lib.hid (B5.out.trans (b9.mono B5.out.size))
      clear b9
      go_wp2_with fail
      go_returns
      exact ⟨rfl, B9.out⟩
  · have k2 := times_more (y := y) k1
    obtain ⟨ex, hex⟩ : ∃ x, x = (timesV N m E src).2.2 := ⟨_, rfl⟩
    obtain ⟨ey, hey⟩ : ∃ x, x = (timesV N (m + 1) (moreE m E y) src).2.2 := ⟨_, rfl⟩
    obtain ⟨lx, hlx⟩ : ∃ x, x = (timesV N m E src).1 := ⟨_, rfl⟩
    obtain ⟨ly, hly⟩ : ∃ x, x = (timesV N (m + 1) (moreE m E y) src).1 := ⟨_, rfl⟩
    rw [← hex] at k1
    rw [← hey] at k2
    rw [← hex, ← hey, ← hlx, ← hly]
    have s5 : (ex == 0) = false := by simp [k1]
    have s6 : (ey != 0) = true := by simp [k2]
    have s7 : (ex != 0) = true := by simp [k1]
    clear k1 k2 hex hey hlx hly I5
    go_wp2_with fail
    refine (AW.out _).mono ?_
    rintro e w9 ⟨rfl, b9⟩
    have B9 := Lib.hid (B5.out.trans (b9.mono B5.out.size))
    clear b9
    go_wp2_with fail
    go_returns
    exact ⟨rfl, B9.out⟩
end Go.Proofs.Ytbmlnjdfnjjjhaa
