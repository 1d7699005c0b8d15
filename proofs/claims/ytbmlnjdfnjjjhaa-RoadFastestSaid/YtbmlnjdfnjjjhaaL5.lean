/- The law RoadFastest walked. -/
import Derived.Test.YtbmlnjdfnjjjhaaL4
namespace Go.Proofs.Ytbmlnjdfnjjjhaa
open Go.RowKit Go.ChangeShapes Go.WideShapes Go.Deep
set_option linter.unusedVariables false
set_option linter.unusedSimpArgs false
open Rd
set_option maxHeartbeats 8000000 in
set_option maxRecDepth 100000 in
theorem run_roadFastest {H : Type} {enc : TypeId × Value → H} (W : World) (base : Nat) (v0 : Value) (d0 : DataW H) (p0 : List MemPlace) (hv0 : Value.okWide Try.prog W .any base 24 v0) (h0 : DataW.Trod enc Try.prog W 0 (fun _ => true) true 24 v0 d0 p0)
    (v1 : Value) (d1 : DataW H) (p1 : List MemPlace) (hv1 : Value.okWide Try.prog W .any base 41 v1) (h1 : DataW.Trod enc Try.prog W 0 (fun _ => true) true 41 v1 d1 p1) :
    Calls Try.prog 6 #[v0, v1] W fun e w' => e = .returned (.bool true) ∧ Below W.heap.size W w' := by
  obtain ⟨N, ao, m, c, E, rfl, _, hn, _⟩ := open_road hv0 h0
  obtain ⟨ka, kb, kc, rfl⟩ := open_three hv1 h1
  clear hv0 h0 hv1 h1
  have HN := Lib.hid hn
  clear hn
  go_enter Try.func6, Try.ntmps6
  go_wp2_with fail
  (refine region_all (fun i : Nat => World.drewN _ i) mixed (by kernel_rfl) ⟨1, rfl⟩ ?_; (repeat (any_goals (first | go_big_quiet_step (fail) | quiet_step (fail) | (refine wpQuiet_step (fun K hK => ?_); go_simp; split <;> (refine hK _ ?_; clear hK K))))); (all_goals (refine wpQuiet_nil (fun nq => ?_))))
  obtain ⟨w0, hw0⟩ : ∃ w0, w0 = ((W.alloc (.cells #[.int .i64 N, .slice ao m c] 24)).alloc (.cells #[.int .i64 ka, .int .i64 kb, .int .i64 kc] 41)).drewN nq := ⟨_, rfl⟩
  go_wp2_with fail
  rw [← hw0]
  have b0 : Below W.heap.size W w0 := by rw [hw0]; (repeat' (first | (with_reducible exact Below.refl _ _) | (with_reducible assumption) | (with_reducible refine Below.drew ?_) | (with_reducible refine below_drewN ?_ _) | (with_reducible refine Below.alloc ?_ ?_ _) | (with_reducible refine Below.setCell ?_ ?_ _) | go_size))
  have x0 : w0.heap[W.heap.size]? = some (.cells #[.int .i64 N, .slice ao m c] 24) := by
    have hx := heap_alloc_new W (.cells #[.int .i64 N, .slice ao m c] 24)
    rw [hw0]
    exact ((below_drewN ((Below.refl (W.alloc (.cells #[.int .i64 N, .slice ao m c] 24)).heap.size _).alloc (Nat.le_refl _) (.cells #[.int .i64 ka, .int .i64 kb, .int .i64 kc] 41)) nq).block _ (block_lt hx)).trans hx
  have r0 : w0.cell? ⟨W.heap.size, 0, none⟩ = some (.int .i64 N) := cell_at x0 0
  have r1 : w0.cell? ⟨W.heap.size, 1, none⟩ = some (.slice ao m c) := cell_at x0 1
  have zr := szs (block_lt x0)
  have B0 := Lib.hid b0
  have n0 := Lib.hid (HN.out.below b0)
  have FW := few9 N ao m c w0 HN.out.hm HN.out.hc
  obtain ⟨f, hf⟩ : ∃ f, f = decide (m ≤ 60 ∨ (512 < m ∧ m ≤ 600)) := ⟨_, rfl⟩
  rw [← hf] at FW
  have HFW := Lib.hid FW
  clear b0 x0 hw0 FW hf HN
  refine HFW.out.mono ?_
  rintro e w1 ⟨rfl, b1⟩
  have d0 := cell_kept b1 r0
  have d1 := cell_kept b1 r1
  have zd := szs (cell_lt d0)
  dsimp only at zd
  have B1 := Lib.hid (B0.out.trans (b1.mono B0.out.size))
  have n1 := Lib.hid (n0.out.below b1)
  clear b1 r0 r1 zr
  cases f
  · go_wp2_with fail
    refine (awake10 _).mono ?_
    rintro e w2 ⟨rfl, b2⟩
    have B2 := Lib.hid (B1.out.trans (b2.mono B1.out.size))
    clear b2
    go_wp2_with fail
    go_returns
    exact ⟨rfl, B2.out⟩
  have T1 := Lib.hid (times11 N ao m c E ka w1 n1.out)
  go_wp2_with fail
  refine T1.out.mono ?_
  rintro e w2 hT
  obtain ⟨a1, c1, rfl, u1, x1, i1, b2⟩ := hT.val
  have e0 := cell_kept b2 d0
  have e1 := cell_kept b2 d1
  have ze := szs (cell_lt e0)
  dsimp only at ze
  have B2 := Lib.hid (B1.out.trans (b2.mono B1.out.size))
  have n2 := Lib.hid (n1.out.below b2)
  have I1 := Lib.hid i1
  have T2 := Lib.hid (times11 N ao m c E kb w2 n2.out)
  clear b2 d0 d1 zd i1 hT
  go_wp2_with fail
  refine T2.out.mono ?_
  rintro e w3 hT
  obtain ⟨a2, c2, rfl, u2, x2, i2, b3⟩ := hT.val
  have f0 := cell_kept b3 e0
  have f1 := cell_kept b3 e1
  have zf := szs (cell_lt f0)
  dsimp only at zf
  have B3 := Lib.hid (B2.out.trans (b3.mono B2.out.size))
  have n3 := Lib.hid (n2.out.below b3)
  have I3 := Lib.hid (And.intro (I1.out.below b3) i2)
  have T3 := Lib.hid (way19 N ao m c E ka kc w3 n3.out)
  clear b3 e0 e1 ze i2 hT
  go_wp2_with fail
  refine T3.out.mono ?_
  rintro e w4 hT
  obtain ⟨a3, c3, rfl, u3, x3, i3, b4⟩ := hT.val
  have g0 := cell_kept b4 f0
  have g1 := cell_kept b4 f1
  have zg := szs (cell_lt g0)
  dsimp only at zg
  have B4 := Lib.hid (B3.out.trans (b4.mono B3.out.size))
  have n4 := Lib.hid (n3.out.below b4)
  have I4 := Lib.hid (And.intro (I3.out.1.below b4) (And.intro (I3.out.2.below b4) i3))
  clear b4 f0 f1 zf i3 hT T1 T2 T3 I1 I3
  have ND := fun w' => node21 N kc (.slice ao m c) w' rfl
  obtain ⟨q, hq⟩ : ∃ q, q = nodeB N kc := ⟨_, rfl⟩
  rw [← hq] at ND
  have HND := Lib.hid ND
  have HQ := Lib.hid hq
  have wb : (wayV N m E ka kc).2 = 0 → (timesV N m E ka).2.2 = 0 ∧ q = true := fun h => by
    obtain ⟨h1, h2, h3⟩ := wayV_nodes h
    exact ⟨timesV_err.2 ⟨h1, h2⟩, by rw [hq, h3]⟩
  have t1 := timesV_bad (N := N) (m := m) (E := E) (src := ka)
  have t2 := timesV_bad (N := N) (m := m) (E := E) (src := kb)
  have t3 : (wayV N m E ka kc).2 ≠ 0 → (wayV N m E ka kc).1.length = 0 := fun h => by rw [wayV_bad h]; rfl
  have HWB := Lib.hid wb
  have H1 := Lib.hid t1
  have H2 := Lib.hid t2
  have H3 := Lib.hid t3
  clear ND hq wb t1 t2 t3
  by_cases ok : (timesV N m E ka).2.2 = 0 ∧ (timesV N m E kb).2.2 = 0 ∧ q = true
  · obtain ⟨k1, k2, k3⟩ := ok
    obtain ⟨n, s, hN, hks, hs, hr, hre, hV⟩ := timesV_ok k1
    obtain ⟨n', s2, hN', hks2, hs2, _, _, hV2⟩ := timesV_ok k2
    obtain rfl : n' = n := by omega
    have hkt : 0 ≤ kc ∧ kc < N := by have h := HQ.out; rw [k3] at h; simp [nodeB] at h; exact h
    obtain ⟨t, ht⟩ : ∃ t : Nat, kc = (t : Int) := ⟨kc.toNat, by omega⟩
    subst hN hks hks2 ht
    have htn : t < n' := by omega
    obtain ⟨hw1, hw2⟩ := wayV_ok (s := s) (t := t) hre hs htn
    obtain ⟨ex, hex⟩ : ∃ x, x = (timesV n' m E s).2.2 := ⟨_, rfl⟩
    obtain ⟨ey, hey⟩ : ∃ x, x = (timesV n' m E s2).2.2 := ⟨_, rfl⟩
    obtain ⟨lx, hlx⟩ : ∃ x, x = (timesV n' m E s).1 := ⟨_, rfl⟩
    obtain ⟨ly, hly⟩ : ∃ x, x = (timesV n' m E s2).1 := ⟨_, rfl⟩
    obtain ⟨eg, heg⟩ : ∃ x, x = (wayV n' m E s t).2 := ⟨_, rfl⟩
    obtain ⟨L, hL⟩ : ∃ x, x = (wayV n' m E s t).1 := ⟨_, rfl⟩
    have i1 : Ints w4 a1 n' (fun i => sec (gr Ed.frm Ed.til n' m E) s i) := by have := I4.out.1; rwa [hV] at this
    have i2 : Ints w4 a2 n' (fun i => sec (gr Ed.frm Ed.til n' m E) s2 i) := by have := I4.out.2.1; rwa [hV2] at this
    have i3 : Ints w4 a3 L.length (fun i => L.getD i 0) := by have := I4.out.2.2; rwa [← hL] at this
    rw [← hex, ← hey, ← heg, ← hlx, ← hly, ← hL]
    rw [← hlx] at u1
    rw [← hly] at u2
    rw [← hL] at u3
    obtain rfl : ex = 0 := by rw [hex, hV]
    obtain rfl : ey = 0 := by rw [hey, hV2]
    obtain rfl : lx = n' := by rw [hlx, hV]
    obtain rfl : ly = lx := by rw [hly, hV2]
    have J1 := Lib.hid i1
    have J2 := Lib.hid i2
    have J3 := Lib.hid i3
    have HR := Lib.hid hr
    have hm512 := hr.m2
    have hn64 := hr.n2
    have WY : Hid ((Rd.Can (gr Ed.frm Ed.til ly m E) s t ∧ eg = 0 ∧ L = wayL ly m E t (edg (gr Ed.til Ed.frm ly m E) t s).toNat s) ∨ (¬ Rd.Can (gr Ed.frm Ed.til ly m E) s t ∧ eg = 15 ∧ L = [])) := Lib.hid (by
      by_cases hc : Rd.Can (gr Ed.til Ed.frm ly m E) t s
      · left; rw [heg, hL, hw1 hc]; exact ⟨can_back.2 hc, rfl, rfl⟩
      · right; rw [heg, hL, hw2 hc]; exact ⟨fun h => hc (can_back.1 h), rfl, rfl⟩)
    have rg := fun v => sec_range (v := v) hr (show 0 ≤ (s : Int) ∧ (s : Int) < (ly : Int) by omega)
    have rg2 := fun v => sec_range (v := v) hr (show 0 ≤ (s2 : Int) ∧ (s2 : Int) < (ly : Int) by omega)
    have tri := triangle (c := (t : Int)) hr (show 0 ≤ (s : Int) ∧ (s : Int) < (ly : Int) by omega) (show 0 ≤ (s2 : Int) ∧ (s2 : Int) < (ly : Int) by omega)
    have edg_ := fun i hi => edge_ok (i := i) hr (show 0 ≤ (s : Int) ∧ (s : Int) < (ly : Int) by omega) hi
    have hss : sec (gr Ed.frm Ed.til ly m E) s s = 0 := (Best.home hr.fwd).sec.1
    have bnd : ∀ v : Int, -1 ≤ sec (gr Ed.frm Ed.til ly m E) s v ∧ sec (gr Ed.frm Ed.til ly m E) s v ≤ 64000 := fun v => by
      by_cases hc : Rd.Can (gr Ed.frm Ed.til ly m E) s v
      · have := (rg v).1 hc; omega
      · have := (rg v).2 hc; omega
    have bnd2 : -1 ≤ sec (gr Ed.frm Ed.til ly m E) s2 t ∧ sec (gr Ed.frm Ed.til ly m E) s2 t ≤ 64000 := by
      by_cases hc : Rd.Can (gr Ed.frm Ed.til ly m E) s2 t
      · have := (rg2 t).1 hc; omega
      · have := (rg2 t).2 hc; omega
    have HEDG := Lib.hid edg_
    have HSS := Lib.hid hss
    have HBND := Lib.hid bnd
    have HNC := Lib.hid (fun h : ¬ Rd.Can (gr Ed.frm Ed.til ly m E) s t => (rg t).2 h)
    have HCN := Lib.hid (fun h : Rd.Can (gr Ed.frm Ed.til ly m E) s t => ((rg t).1 h).1)
    obtain ⟨xb, hxb⟩ : ∃ x, x = sec (gr Ed.frm Ed.til ly m E) s s2 := ⟨_, rfl⟩
    obtain ⟨xc, hxc⟩ : ∃ x, x = sec (gr Ed.frm Ed.til ly m E) s t := ⟨_, rfl⟩
    obtain ⟨yc, hyc⟩ : ∃ x, x = sec (gr Ed.frm Ed.til ly m E) s2 t := ⟨_, rfl⟩
    have bxb := bnd s2
    have bxc := bnd t
    rw [← hxb] at bxb
    rw [← hxc] at bxc
    rw [← hyc] at bnd2
    rw [← hxb, ← hxc, ← hyc] at tri
    have HXB := Lib.hid hxb
    have HXC := Lib.hid hxc
    have HYC := Lib.hid hyc
    have ts : (s : Int) < (ly : Int) := by omega
    have ts2 : (s2 : Int) < (ly : Int) := by omega
    have tt : (t : Int) < (ly : Int) := by omega
    clear hr hre hV hV2 hw1 hw2 hex hey hlx hly heg hL i1 i2 i3 rg rg2 edg_ hss bnd hxb hxc hyc k1 k2 H1 H2 H3 HWB I4
    subst k3
    go_wp2_with fail
    refine (HND.out _).mono ?_
    rintro e w5 ⟨rfl, b5⟩
    have y0 := cell_kept b5 g0
    have y1 := cell_kept b5 g1
    have zy := szs (cell_lt y0)
    dsimp only at zy
    have B5 := Lib.hid (B4.out.trans (b5.mono B4.out.size))
    have n5 := Lib.hid (n4.out.below b5)
    have J51 := Lib.hid (J1.out.below b5)
    have J52 := Lib.hid (J2.out.below b5)
    have J53 := Lib.hid (J3.out.below b5)
    clear b5 g0 g1 zg
    obtain ⟨ga, oa, hao, hga, ca⟩ := J51.out.cell hs
    subst hao
    obtain ⟨_, _, e', _, cb⟩ := J51.out.cell hs2
    cases e'
    obtain ⟨_, _, e', _, cc⟩ := J51.out.cell htn
    cases e'
    obtain ⟨gy, oy, hao, hgy, cy⟩ := J52.out.cell htn
    subst hao
    rw [HSS.out] at ca
    rw [← HXB.out] at cb
    rw [← HXC.out] at cc
    rw [← HYC.out] at cy
    have zga := szs hga
    have zgy := szs hgy
    have cases3 : (xb < 0 ∧ decide (0 ≤ xb) = false) ∨ (0 ≤ xb ∧ yc < 0 ∧ decide (0 ≤ yc) = false) ∨ (0 ≤ xb ∧ 0 ≤ yc ∧ 0 ≤ xc ∧ xc ≤ xb + yc ∧ decide (xc < 0) = false ∧ decide (xb + yc < xc) = false) := by
      by_cases q1 : xb < 0
      · exact .inl ⟨q1, by simp; omega⟩
      · by_cases q2 : yc < 0
        · exact .inr (.inl ⟨by omega, q2, by simp; omega⟩)
        · have := tri (by omega) (by omega); exact .inr (.inr ⟨by omega, by omega, this.1, this.2, by simp; omega, by simp; omega⟩)
    clear tri
    rcases cases3 with ⟨q1, q2⟩ | ⟨q1, q2, q3⟩ | ⟨q1, q2, q3, q4, q5, q6⟩
    all_goals
      go_wp2_with fail
      (refine region_all (fun i : Nat => World.drewN _ i) mixed (by kernel_rfl) ⟨1, rfl⟩ ?_; (repeat (any_goals (first | go_big_quiet_step (fail) | quiet_step (fail) | (refine wpQuiet_step (fun K hK => ?_); go_simp; split <;> (refine hK _ ?_; clear hK K))))); (all_goals (refine wpQuiet_nil (fun nq => ?_))))
      obtain ⟨w6, hw6⟩ : ∃ w6, w6 = w5.drewN nq := ⟨_, rfl⟩
      go_wp2_with fail
      rw [← hw6]
      have b6 : Below w5.heap.size w5 w6 := by rw [hw6]; exact below_drewN (Below.refl _ _) _
      have B6 := Lib.hid (B5.out.trans (b6.mono B5.out.size))
      have n6 := Lib.hid (n5.out.below b6)
      have J61 := Lib.hid (J51.out.below b6)
      have J63 := Lib.hid (J53.out.below b6)
      have v0 := cell_kept b6 y0
      have v1 := cell_kept b6 y1
      have zv := szs (cell_lt v0)
      dsimp only at zv
      clear b6 hw6 y0 y1 zy ca cb cc cy zga zgy
      go_loopw [14] (fun iv wr => ∃ i : Nat, iv = .int .i64 i ∧ i ≤ m ∧ Hid (Below w6.heap.size w6 wr)) (fun iv _ => m - (intOf iv).toNat)
      case atStart => exact ⟨0, rfl, by omega, Below.refl _ _⟩
      case round =>
        obtain ⟨i, rfl, hi, hrel⟩ := hrel
        have o1 := cell_kept hrel.out v1
        have o0 := cell_kept hrel.out v0
        have zo := szs (cell_lt o1)
        dsimp only at zo
        by_cases hlt : i < m
        · obtain ⟨g, o, hao, hg, e0, e1, e2⟩ := (n6.out.below hrel.out).cells hlt
          subst hao
          have zg := szs hg
          have ti : (i : Int) < (m : Int) := by omega
          have rj := HR.out.hs i hlt
          have hfr := HR.out.hf i hlt
          have hti := HR.out.ht i hlt
          obtain ⟨u, hu⟩ : ∃ u : Nat, (E i).frm = (u : Int) := ⟨(E i).frm.toNat, by omega⟩
          obtain ⟨v, hv⟩ : ∃ u : Nat, (E i).til = (u : Int) := ⟨(E i).til.toNat, by omega⟩
          have hed := HEDG.out i hlt
          rw [hu] at e0 hed
          rw [hv] at e1 hed
          have tu : (u : Int) < (ly : Int) := by omega
          have tv : (v : Int) < (ly : Int) := by omega
          obtain ⟨_, _, e', hga2, cu⟩ := (J61.out.below hrel.out).cell (i := u) (by omega)
          cases e'
          obtain ⟨_, _, e', _, cv⟩ := (J61.out.below hrel.out).cell (i := v) (by omega)
          cases e'
          have zga := szs hga2
          have bu := HBND.out u
          have bv := HBND.out v
          obtain ⟨xu, hxu⟩ : ∃ x, x = sec (gr Ed.frm Ed.til ly m E) s u := ⟨_, rfl⟩
          obtain ⟨xv, hxv⟩ : ∃ x, x = sec (gr Ed.frm Ed.til ly m E) s v := ⟨_, rfl⟩
          obtain ⟨sc, hsc⟩ : ∃ x, x = (E i).sec := ⟨_, rfl⟩
          rw [← hxu] at cu bu hed
          rw [← hxv] at cv bv hed
          rw [← hsc] at e2 hed rj
          obtain ⟨rj0, rj1⟩ := rj
          have c2 : (xu < 0 ∧ decide (0 ≤ xu) = false) ∨ (0 ≤ xu ∧ 0 ≤ xv ∧ xv ≤ xu + sc ∧ decide (xv < 0) = false ∧ decide (xu + sc < xv) = false) := by
            by_cases h : xu < 0
            · exact .inl ⟨h, by simp; omega⟩
            · have := hed (by omega); exact .inr ⟨by omega, this.1, this.2, by simp; omega, by simp; omega⟩
          have HRL := Lib.hid hrel.out
          clear hfr hti hu hv hed hxu hxv hsc hrel
          rcases c2 with ⟨h1, h2⟩ | ⟨h1, h2, h3, h4, h5⟩
          all_goals
            go_wp2_with fail
            (refine region_all (fun i : Nat => World.drewN _ i) mixed (by kernel_rfl) ⟨1, rfl⟩ ?_; (repeat (any_goals (first | go_big_quiet_step (fail) | quiet_step (fail) | (refine wpQuiet_step (fun K hK => ?_); go_simp; split <;> (refine hK _ ?_; clear hK K))))); (all_goals (refine wpQuiet_nil (fun nq => ?_))))
            go_wp2_with fail
            go_roundw
            case rel => exact ⟨i + 1, by go_num, by omega, Lib.hid (by have := HRL.out; (have hszz := (this).size; (repeat' (first | (with_reducible exact Below.refl _ _) | (with_reducible assumption) | (with_reducible refine Below.drew ?_) | (with_reducible refine below_drewN ?_ _) | (with_reducible refine Below.alloc ?_ ?_ _) | (with_reducible refine Below.setCell ?_ ?_ _) | go_size))))⟩
            case measure => simp [intOf]; omega
        · obtain rfl : i = m := by omega
          obtain ⟨_, _, e', hga2, cc⟩ := (J61.out.below hrel.out).cell htn
          cases e'
          rw [← HXC.out] at cc
          have zga := szs hga2
          have BR := Lib.hid (B6.out.trans (hrel.out.mono B6.out.size))
          have nr := Lib.hid (n6.out.below hrel.out)
          have J73 := Lib.hid (J63.out.below hrel.out)
          clear hrel
          rcases WY.out with ⟨hc, rfl, hL⟩ | ⟨hc, rfl, rfl⟩
          · have hx0 : 0 ≤ xc := by rw [HXC.out]; exact HCN.out hc
            have hcb := can_back.1 hc
            have hed0 := can_edg HR.out.bwd hcb
            have hwk := wayL_walk HR.out.bwd (edg (gr Ed.til Ed.frm ly i E) t s).toNat s hcb (by rw [Int.toNat_of_nonneg hed0.1])
            rw [← hL, ← sec_back, ← HXC.out] at hwk
            have hfew := can_few HR.out.bwd ⟨by omega, tt⟩ hcb
            have hLl : L.length ≤ 100 := by rw [hL, wayL_len]; omega
            have WK := walk22 ly i c ao E s a3 L c3 _ nr.out HR.out J73.out u3 x3 hLl
            rw [hwk] at WK
            have HWK := Lib.hid WK
            generalize L.length = ll at *
            clear hc hcb hed0 hwk WK hL hfew
            go_wp2_with fail
            refine HWK.out.mono ?_
            rintro e w8 ⟨rfl, b8⟩
            have B8 := Lib.hid (BR.out.trans (b8.mono BR.out.size))
            have cc2 := cell_kept b8 cc
            have zc2 := szs (cell_lt cc2)
            dsimp only at zc2
            unfold wv
            clear b8 cc
            go_wp2_with fail
            refine (awake10 _).mono ?_
            rintro e w9 ⟨rfl, b9⟩
            have B9 := Lib.hid (B8.out.trans (b9.mono B8.out.size))
            clear b9
            go_wp2_with fail
            go_returns
            exact ⟨rfl, B9.out⟩
          · have hx0 : xc = -1 := by rw [HXC.out]; exact HNC.out hc
            first
              | (exfalso; omega)
              | (subst hx0
                 clear hc
                 go_wp2_with fail
                 refine (awake10 _).mono ?_
                 rintro e w9 ⟨rfl, b9⟩
                 have B9 := Lib.hid (BR.out.trans (b9.mono BR.out.size))
                 clear b9
                 go_wp2_with fail
                 go_returns
                 exact ⟨rfl, B9.out⟩)
  · obtain ⟨ex, hex⟩ : ∃ x, x = (timesV N m E ka).2.2 := ⟨_, rfl⟩
    obtain ⟨ey, hey⟩ : ∃ x, x = (timesV N m E kb).2.2 := ⟨_, rfl⟩
    obtain ⟨eg, heg⟩ : ∃ x, x = (wayV N m E ka kc).2 := ⟨_, rfl⟩
    obtain ⟨lx, hlx⟩ : ∃ x, x = (timesV N m E ka).1 := ⟨_, rfl⟩
    obtain ⟨ly, hly⟩ : ∃ x, x = (timesV N m E kb).1 := ⟨_, rfl⟩
    obtain ⟨lw, hlw⟩ : ∃ x, x = (wayV N m E ka kc).1.length := ⟨_, rfl⟩
    rw [← hex, ← hlx] at H1 ⊢
    rw [← hey, ← hly] at H2 ⊢
    rw [← heg, ← hlw] at H3 ⊢
    rw [← heg, ← hex] at HWB
    rw [← hex, ← hey] at ok
    rw [← hlx] at u1
    rw [← hly] at u2
    rw [← hlw] at u3
    clear hex hey heg hlx hly hlw I4
    -- the four facts
    have key : (ex ≠ 0 ∧ lx = 0 ∧ eg ≠ 0 ∧ lw = 0 ∧ Hid (ey ≠ 0 → ly = 0)) ∨ (ex = 0 ∧ ey ≠ 0 ∧ ly = 0 ∧ ((eg ≠ 0 ∧ lw = 0) ∨ (eg = 0 ∧ q = true))) ∨ (ex = 0 ∧ ey = 0 ∧ q = false ∧ eg ≠ 0 ∧ lw = 0) := by
      have g1 := H1.out
      have g2 := H2.out
      have g3 := H3.out
      have g4 := HWB.out
      by_cases q1 : ex = 0
      · by_cases q2 : ey = 0
        · right; right
          have q3 : q = false := by
            cases q
            · rfl
            · exact absurd ⟨q1, q2, rfl⟩ ok
          have q4 : eg ≠ 0 := fun h => by have := (g4 h).2; rw [q3] at this; cases this
          exact ⟨q1, q2, q3, q4, g3 q4⟩
        · right; left
          refine ⟨q1, q2, g2 q2, ?_⟩
          by_cases q4 : eg = 0
          · exact .inr ⟨q4, (g4 q4).2⟩
          · exact .inl ⟨q4, g3 q4⟩
      · left
        have q4 : eg ≠ 0 := fun h => q1 (g4 h).1
        exact ⟨q1, g1 q1, q4, g3 q4, Lib.hid g2⟩
    have FIN : Hid (∀ w', Calls Try.prog 10 #[] w' fun e w'' => e = .returned (.bool true) ∧ Below w'.heap.size w' w'') := Lib.hid awake10
    clear ok H1 H2 H3 HWB
    rcases key with ⟨q1, rfl, q4, rfl, hly⟩ | ⟨rfl, q2, rfl, h⟩ | ⟨rfl, rfl, rfl, q4, rfl⟩
    · have s1 : (ex != 0) = true := by simp [q1]
      have s2 : (ex == 0) = false := by simp [q1]
      have s3 : (eg == 0) = false := by simp [q4]
      have s4 : (eg != 0) = true := by simp [q4]
      by_cases q2 : ey = 0
      · subst q2
        clear q1 q4
        go_wp2_with fail
        refine (FIN.out _).mono ?_
        rintro e w6 ⟨rfl, b6⟩
        have B6 := Lib.hid (B4.out.trans (b6.mono B4.out.size))
        clear b6
        go_wp2_with fail
        go_returns
        exact ⟨rfl, B6.out⟩
      · have s5 : (ey == 0) = false := by simp [q2]
        have s6 : (ey != 0) = true := by simp [q2]
        obtain rfl : ly = 0 := hly.out q2
        clear q1 q4 q2
        go_wp2_with fail
        refine (FIN.out _).mono ?_
        rintro e w6 ⟨rfl, b6⟩
        have B6 := Lib.hid (B4.out.trans (b6.mono B4.out.size))
        clear b6
        go_wp2_with fail
        go_returns
        exact ⟨rfl, B6.out⟩
    · have s5 : (ey == 0) = false := by simp [q2]
      have s6 : (ey != 0) = true := by simp [q2]
      clear q2
      rcases h with ⟨q4, rfl⟩ | ⟨rfl, rfl⟩
      · have s3 : (eg == 0) = false := by simp [q4]
        have s4 : (eg != 0) = true := by simp [q4]
        clear q4
        go_wp2_with fail
        refine (FIN.out _).mono ?_
        rintro e w6 ⟨rfl, b6⟩
        have B6 := Lib.hid (B4.out.trans (b6.mono B4.out.size))
        clear b6
        go_wp2_with fail
        go_returns
        exact ⟨rfl, B6.out⟩
      · go_wp2_with fail
        refine (HND.out _).mono ?_
        rintro e w5 ⟨rfl, b5⟩
        have B5 := Lib.hid (B4.out.trans (b5.mono B4.out.size))
        clear b5
        go_wp2_with fail
        refine (FIN.out _).mono ?_
        rintro e w6 ⟨rfl, b6⟩
        have B6 := Lib.hid (B5.out.trans (b6.mono B5.out.size))
        clear b6
        go_wp2_with fail
        go_returns
        exact ⟨rfl, B6.out⟩
    · have s3 : (eg == 0) = false := by simp [q4]
      have s4 : (eg != 0) = true := by simp [q4]
      clear q4
      go_wp2_with fail
      refine (HND.out _).mono ?_
      rintro e w5 ⟨rfl, b5⟩
      have B5 := Lib.hid (B4.out.trans (b5.mono B4.out.size))
      clear b5
      go_wp2_with fail
      refine (FIN.out _).mono ?_
      rintro e w6 ⟨rfl, b6⟩
      have B6 := Lib.hid (B5.out.trans (b6.mono B5.out.size))
      clear b6
      go_wp2_with fail
      go_returns
      exact ⟨rfl, B6.out⟩
end Go.Proofs.Ytbmlnjdfnjjjhaa
