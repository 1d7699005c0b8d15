/- The law's own serve: the place of a truck after a need, and whether it can be served. -/
import Derived.Test.YtlnfhlmgnppcbaaGreatRF7
import Derived.Test.YtlnfhlmgnppcbaaGreatCTA
import Derived.Test.YtlnfhlmgnppcbaaGreatK13
import Derived.BigQuiet
import Derived.BigRegion
namespace Go.Proofs.YtlnfhlmgnppcbaaGreat
open Go.RowKit Go.ChangeShapes Go.WideShapes Go.Deep
set_option linter.unusedVariables false
set_option linter.unusedSimpArgs false
set_option maxRecDepth 8000
open Rd
theorem abs_mul2 {mv h : Int} (h1 : -64 ≤ mv) (h2 : mv ≤ 64) (h3 : 0 ≤ h) (h4 : h ≤ 3600) : -230400 ≤ mv * h ∧ mv * h ≤ 230400 := by
  have m1 := Int.mul_le_mul_of_nonneg_right h1 h3
  have m2 := Int.mul_le_mul_of_nonneg_right h2 h3
  omega
set_option maxHeartbeats 16000000 in
theorem serveL30 {g : Ng} {n : Nat} (h : NOk g n) (hr : roadE g.N g.em g.E = 0) (t : Tk) (p : Cs) (i : Nat) (hi : i < g.nn) (w : World) (hg : g.In w)
    (hp : 0 ≤ p.at' ∧ p.at' < n) (hl : 0 ≤ p.load ∧ p.load ≤ 32) (hn : 0 ≤ p.now ∧ p.now ≤ 86400) (hd : 0 ≤ t.dep ∧ t.dep < n) :
    Calls Tryz.prog 30 #[.agg g.cells, .agg #[.int .i64 t.dep, .int .i64 t.cap, .int .i64 t.frm, .int .i64 t.til], .agg #[.int .i64 p.at', .int .i64 p.now, .int .i64 p.load], .int .i64 i] w fun e w' =>
      e = .returned (.tuple #[.agg #[.int .i64 (servO g p i).at', .int .i64 (servO g p i).now, .int .i64 (servO g p i).load], .bool (okB g t p i)]) ∧ Below w.heap.size w w' := by
  obtain ⟨d1, d2, d3, d4⟩ := t
  obtain ⟨q1, q2, q3⟩ := p
  dsimp only at hp hl hn hd ⊢
  have BB : Hid (Below w.heap.size w ((((w.alloc (.cells g.cells 32)).alloc (.cells #[.int .i64 d1, .int .i64 d2, .int .i64 d3, .int .i64 d4] 62)).alloc (.cells #[.int .i64 q1, .int .i64 q3, .int .i64 q2] 74)).alloc (.cells #[.int .i64 0, .int .i64 0, .int .i64 0] 74))) := Lib.hid (by (repeat' (first | (with_reducible exact Below.refl _ _) | (with_reducible assumption) | (with_reducible refine Below.drew ?_) | (with_reducible refine below_drewN ?_ _) | (with_reducible refine Below.alloc ?_ ?_ _) | (with_reducible refine Below.setCell ?_ ?_ _) | go_size)))
  have X4 := Lib.hid (al_keep (al_keep (al_keep (al_at w (.cells g.cells 32) rfl) (.cells #[.int .i64 d1, .int .i64 d2, .int .i64 d3, .int .i64 d4] 62)) (.cells #[.int .i64 q1, .int .i64 q3, .int .i64 q2] 74)) (.cells #[.int .i64 0, .int .i64 0, .int .i64 0] 74))
  have X5 := Lib.hid (al_keep (al_keep (al_at (w.alloc (.cells g.cells 32)) (.cells #[.int .i64 d1, .int .i64 d2, .int .i64 d3, .int .i64 d4] 62) (k := w.heap.size + 1) (by simp)) (.cells #[.int .i64 q1, .int .i64 q3, .int .i64 q2] 74)) (.cells #[.int .i64 0, .int .i64 0, .int .i64 0] 74))
  have X6 := Lib.hid (al_keep (al_at ((w.alloc (.cells g.cells 32)).alloc (.cells #[.int .i64 d1, .int .i64 d2, .int .i64 d3, .int .i64 d4] 62)) (.cells #[.int .i64 q1, .int .i64 q3, .int .i64 q2] 74) (k := w.heap.size + 1 + 1) (by simp)) (.cells #[.int .i64 0, .int .i64 0, .int .i64 0] 74))
  have X8 := Lib.hid (al_at (((w.alloc (.cells g.cells 32)).alloc (.cells #[.int .i64 d1, .int .i64 d2, .int .i64 d3, .int .i64 d4] 62)).alloc (.cells #[.int .i64 q1, .int .i64 q3, .int .i64 q2] 74)) (.cells #[.int .i64 0, .int .i64 0, .int .i64 0] 74) (k := w.heap.size + 1 + 1 + 1) (by simp))
  obtain ⟨w1, hw1⟩ : ∃ w1, w1 = (((w.alloc (.cells g.cells 32)).alloc (.cells #[.int .i64 d1, .int .i64 d2, .int .i64 d3, .int .i64 d4] 62)).alloc (.cells #[.int .i64 q1, .int .i64 q3, .int .i64 q2] 74)).alloc (.cells #[.int .i64 0, .int .i64 0, .int .i64 0] 74) := ⟨_, rfl⟩
  rw [← hw1] at BB X4 X5 X6 X8
  have HW1 := Lib.hid hw1
  have HG := Lib.hid (hg.below BB.out)
  have hD := h.D i hi
  have TI1 := Lib.hid (fun w' (hb : Below w1.heap.size w1 w') => timesR_ok h hr w' (HG.out.below hb).net hp)
  have TI2 := Lib.hid (fun w' (hb : Below w1.heap.size w1 w') => timesR_ok h hr w' (HG.out.below hb).net hD.1)
  have hs1 := h.S_bd hp (g.D i).node
  have hs2 := h.S_bd hD.1 d1
  have HE := Lib.hid (show g.nd (i : Int) = g.D i from by unfold Ng.nd; rw [Int.toNat_natCast])
  have HO : Hid (servO g ⟨q1, q2, q3⟩ (i : Int) = ⟨(g.D i).node, q2 + (g.D i).mv, q3 + g.S q1 (g.D i).node + max (g.D i).mv (-(g.D i).mv) * g.h⟩) := Lib.hid (by
    unfold servO Ng.work; rw [HE.out])
  have HK : Hid (okB g ⟨d1, d2, d3, d4⟩ ⟨q1, q2, q3⟩ (i : Int) = decide (0 ≤ g.S q1 (g.D i).node ∧ 0 ≤ g.S (g.D i).node d1 ∧ 0 ≤ q2 + (g.D i).mv ∧ q2 + (g.D i).mv ≤ d2 ∧ q3 + g.S q1 (g.D i).node + max (g.D i).mv (-(g.D i).mv) * g.h + g.S (g.D i).node d1 + (q2 + (g.D i).mv) * g.h ≤ d4)) := Lib.hid (by
    unfold okB servB fitsB
    rw [HO.out, HE.out]
    dsimp only
    rw [Bool.eq_iff_iff, Bool.and_eq_true, decide_eq_true_iff, decide_eq_true_iff, decide_eq_true_iff]
    constructor
    · rintro ⟨⟨a, b, c⟩, d, e⟩; exact ⟨a, d, b, c, e⟩
    · rintro ⟨a, d, b, c, e⟩; exact ⟨⟨a, b, c⟩, d, e⟩)
  obtain ⟨nb, no, hna, hgn, u0, u1⟩ := HG.out.needs.nd hi
  have zq := szs hgn
  have hh0 := h.h0
  have hh1 := h.h1
  have hn2 := h.right.n2
  have hwk : 0 ≤ max (g.D i).mv (-(g.D i).mv) * g.h ∧ max (g.D i).mv (-(g.D i).mv) * g.h ≤ 115200 := by
    have m0 : 0 ≤ max (g.D i).mv (-(g.D i).mv) := by omega
    have m1 : max (g.D i).mv (-(g.D i).mv) ≤ 32 := by omega
    exact ⟨Int.mul_nonneg m0 hh0, by have := Int.mul_le_mul m1 hh1 hh0 (by decide); omega⟩
  have hnl := abs_mul2 (mv := q2 + (g.D i).mv) (h := g.h) (by omega) (by omega) hh0 hh1
  have hnm := hg.needs.hm
  have hnc := hg.needs.hc
  have tmn : (i : Int) < (g.nn : Int) := by omega
  rw [HO.out, HK.out]
  have HCC : Hid (g.cells = #[.int .i64 g.N, .slice g.ea g.em g.ec, .slice g.ta g.tn g.tc, .slice (some ⟨nb, no, none⟩) g.nn g.nc, .int .i64 g.h]) := Lib.hid (by rw [← hna]; rfl)
  rw [HCC.out] at X4 HW1 ⊢
  generalize g.D i = x at *
  obtain ⟨nd, mv⟩ := x
  dsimp only at hD hs1 hs2 TI1 TI2 hwk hnl u0 u1 ⊢
  obtain ⟨s1, hs1'⟩ : ∃ s1, s1 = g.S q1 nd := ⟨_, rfl⟩
  obtain ⟨s2, hs2'⟩ : ∃ s2, s2 = g.S nd d1 := ⟨_, rfl⟩
  rw [← hs1'] at hs1 ⊢
  rw [← hs2'] at hs2 ⊢
  have HS1 := Lib.hid hs1'
  have HS2 := Lib.hid hs2'
  clear hw1 h hr hg HO HK HE hna hs1' hs2' hi HG
  have u0b := u0
  have u1b := u1
  rw [HW1.out] at u0 u1
  have X10 := Lib.hid (al_at w1 (.cells #[.int .i64 nd, .int .i64 mv] 58) (k := w.heap.size + 1 + 1 + 1 + 1) (by rw [HW1.out]; simp))
  have b2 : Below w1.heap.size w1 (w1.alloc (.cells #[.int .i64 nd, .int .i64 mv] 58)) := by (repeat' (first | (with_reducible exact Below.refl _ _) | (with_reducible assumption) | (with_reducible refine Below.drew ?_) | (with_reducible refine below_drewN ?_ _) | (with_reducible refine Below.alloc ?_ ?_ _) | (with_reducible refine Below.setCell ?_ ?_ _) | go_size))
  obtain ⟨w2, hw2⟩ : ∃ w2, w2 = w1.alloc (.cells #[.int .i64 nd, .int .i64 mv] 58) := ⟨_, rfl⟩
  rw [← hw2] at X10 b2
  have HW2 := Lib.hid hw2
  have B2 := Lib.hid b2
  have T1 := Lib.hid (TI1.out w2 b2)
  clear hw2 b2 TI1
  go_enter Tryz.func30, Tryz.ntmps30
  go_wp2_with fail
  rw [← HW1.out, ← HW2.out]
  clear u0 u1 u0b u1b zq hgn
  refine T1.out.mono ?_
  rintro e w3 ⟨bt3, rfl, N3, b3⟩
  have B2S := Lib.hid B2.out.size
  have B3 := Lib.hid (B2.out.trans (b3.mono B2.out.size))
  have B3S := Lib.hid B3.out.size
  replace X10 := Lib.hid ((b3.block _ (block_lt X10.out)).trans X10.out)
  have T2 := Lib.hid (TI2.out w3 B3.out)
  clear T1 b3 HW2 B2
  have n0 := cell_kept B3.out (cell_at X4.out 0)
  have n1 := cell_kept B3.out (cell_at X4.out 1)
  have n2 := cell_kept B3.out (cell_at X4.out 2)
  have n3 := cell_kept B3.out (cell_at X4.out 3)
  have n4 := cell_kept B3.out (cell_at X4.out 4)
  have t0 := cell_kept B3.out (cell_at X5.out 0)
  have t1 := cell_kept B3.out (cell_at X5.out 1)
  have t2 := cell_kept B3.out (cell_at X5.out 2)
  have t3 := cell_kept B3.out (cell_at X5.out 3)
  have p0 := cell_kept B3.out (cell_at X6.out 0)
  have p1 := cell_kept B3.out (cell_at X6.out 1)
  have p2 := cell_kept B3.out (cell_at X6.out 2)
  try dsimp only at n0 n1 n2 n3 n4 t0 t1 t2 t3 p0 p1 p2
  have zn := szs (cell_lt n0)
  have zt := szs (cell_lt t0)
  have zp := szs (cell_lt p0)
  dsimp only at zn zt zp
  have k0 := cell_at X10.out 0
  have k1 := cell_at X10.out 1
  have zk := szs (block_lt X10.out)
  go_wp2_with fail
  refine T2.out.mono ?_
  rintro e w4 ⟨bt4, rfl, N4, b4⟩
  have B4 := Lib.hid (B3.out.trans (b4.mono B3.out.size))
  replace X10 := Lib.hid ((b4.block _ (block_lt X10.out)).trans X10.out)
  clear n0 n1 n2 n3 n4 t0 t1 t2 t3 p0 p1 p2 zn zt zp
  clear k0 k1 zk T2 TI2 B3
  have N3b := N3.below b4
  obtain ⟨i1, hi1⟩ := Int.eq_ofNat_of_zero_le hD.1.1
  obtain ⟨i2, hi2⟩ := Int.eq_ofNat_of_zero_le hd.1
  have hi1n : i1 < n := by omega
  have hi2n : i2 < n := by omega
  have ti1 : (i1 : Int) < (n : Int) := by omega
  have ti2 : (i2 : Int) < (n : Int) := by omega
  have r1 := N3b.cell hi1n
  have r2 := N4.cell hi2n
  rw [← hi1, ← HS1.out] at r1
  rw [← hi2, ← HS2.out] at r2
  rw [hi1] at X10 ⊢
  rw [hi2] at X5 ⊢
  have z3 := szs (cell_lt r1)
  have z4 := szs (cell_lt r2)
  dsimp only at z3 z4
  have hn63 : n ≤ 9223372036854775807 := by omega
  have HC4 : Hid (w.heap.size + 1 + 1 + 1 < w4.heap.size) := Lib.hid (Nat.lt_of_lt_of_le (block_lt X8.out) B4.out.size)
  have HB3 : Hid (w.heap.size + 1 + 1 + 1 < bt3) := Lib.hid (by have h1 := (World.ownsRow.lt N3b bt3 rfl).1; have h2 := block_lt X8.out; have h3 := B2S.out; omega)
  have HB4 : Hid (w.heap.size + 1 + 1 + 1 < bt4) := Lib.hid (by have h1 := (World.ownsRow.lt N4 bt4 rfl).1; have h2 := block_lt X8.out; have h3 := B3S.out; omega)
  have HI1 := Lib.hid hi1
  clear N3 N3b N4 b4 hi1 hi2
  have n0 := cell_kept B4.out (cell_at X4.out 0)
  have n1 := cell_kept B4.out (cell_at X4.out 1)
  have n2 := cell_kept B4.out (cell_at X4.out 2)
  have n3 := cell_kept B4.out (cell_at X4.out 3)
  have n4 := cell_kept B4.out (cell_at X4.out 4)
  have t0 := cell_kept B4.out (cell_at X5.out 0)
  have t1 := cell_kept B4.out (cell_at X5.out 1)
  have t2 := cell_kept B4.out (cell_at X5.out 2)
  have t3 := cell_kept B4.out (cell_at X5.out 3)
  have p0 := cell_kept B4.out (cell_at X6.out 0)
  have p1 := cell_kept B4.out (cell_at X6.out 1)
  have p2 := cell_kept B4.out (cell_at X6.out 2)
  try dsimp only at n0 n1 n2 n3 n4 t0 t1 t2 t3 p0 p1 p2
  have zn := szs (cell_lt n0)
  have zt := szs (cell_lt t0)
  have zp := szs (cell_lt p0)
  dsimp only at zn zt zp
  have k0 := cell_at X10.out 0
  have k1 := cell_at X10.out 1
  have zk := szs (block_lt X10.out)
  go_wp2_with fail
  (obtain ⟨ι, hne, Fw, fb, hF⟩ := grow_family w4); have hF : ∀ w', (sPlan w4 (fun _ => False) [] [(26, fun b => .pointer (some ⟨b, 0, none⟩), .cells #[.int .i64 0, .int .i64 0, .int .i64 0] 74)] [(27, 26)]).D [] w' → ∃ i, w' = Fw i := hF
  have fk0 := fun i => cell_kept (fb i) k0
  have fk1 := fun i => cell_kept (fb i) k1
  have fp1 := fun i => cell_kept (fb i) p1
  have fp2 := fun i => cell_kept (fb i) p2
  have fn4 := fun i => cell_kept (fb i) n4
  have fr1 := fun i => cell_kept (fb i) r1
  clear n0 n1 n2 n3 n4 t0 t1 t2 t3 p0 p1 p2 zn zt zp
  clear k0 k1 zk
  replace r1 := Lib.hid r1
  replace r2 := Lib.hid r2
  (refine region_chainO (sPlan w4 (fun _ => False) [] [(26, fun b => .pointer (some ⟨b, 0, none⟩), .cells #[.int .i64 0, .int .i64 0, .int .i64 0] 74)] [(27, 26)]) [] [] [0, 1, 2, 3, 4, 5, 6, 7, 8, 9, 10, 11, 12, 13, 14, 15, 16, 17, 18, 19, 20, 21, 22, 23, 24, 25, 26, 27] [] mixed (by kernel_rfl) (by kernel_rfl) (fun _ _ h => nomatch h) (sPlan_ok (by simp) (by simp)) sPlan_start ?_; refine wpPure_nil ?_; simp only [List.map_cons, List.map_nil, Array.getD_eq_getD_getElem?, List.getElem?_toArray, List.getElem?_cons_zero, List.getElem?_cons_succ, Option.getD_some])
  (repeat (first | (refine wpChainO_skip rfl ?_; simp only [Act.put, List.setIfInBounds_toArray, List.set_cons_succ, List.set_cons_zero]) | (refine wpChainO_quiet hF rfl rfl rfl ?_; intro K hK; go_big_quiet_op; go_big_quiet_on) | (refine wpChainO_pure _ rfl rfl (fun w' _ => by go_simp; try rfl) ?_; simp only [Act.put, List.setIfInBounds_toArray, List.set_cons_succ, List.set_cons_zero])))
  (refine wpChainO_alloc _ _ rfl (List.mem_cons_self ..) rfl (fun w' => by go_simp) (fun b15 hb15 => ?_); simp only [Act.put, List.setIfInBounds_toArray, List.set_cons_succ, List.set_cons_zero])
  (refine wpChainO_store 26 b15 (.cells #[.int .i64 0, .int .i64 0, .int .i64 0] 74) (.cells #[.int .i64 (i1 : Int), .int .i64 (q3 + s1 + max mv (-mv) * g.h), .int .i64 (q2 + mv)] 74) rfl (by simp [sPlan]) (by simp [setB]) (by simp [setB]) rfl (fun w' hw' => by have c0 := cell_at hw' 0; have c1 := cell_at hw' 1; have c2 := cell_at hw' 2; have g0 := free_at hw'; have hlt := block_lt hw'; go_simp; rw [setCell_at hw', setAt_setCell hlt, setAt_setCell hlt]; rfl) ?_; simp only [Act.put, List.setIfInBounds_toArray, List.set_cons_succ, List.set_cons_zero])
  (repeat (first | (refine wpChainO_skip rfl ?_; simp only [Act.put, List.setIfInBounds_toArray, List.set_cons_succ, List.set_cons_zero]) | (refine wpChainO_quiet hF rfl rfl rfl ?_; intro K hK; go_big_quiet_op; go_big_quiet_on) | (refine wpChainO_pure _ rfl rfl (fun w' _ => by go_simp; try rfl) ?_; simp only [Act.put, List.setIfInBounds_toArray, List.set_cons_succ, List.set_cons_zero])))
  refine wpChainO_nil (fun w5 hb5 hl5 => ?_)
  have b5 : Below w4.heap.size w4 w5 := hb5
  have X15 := Lib.hid (hl5.1.2 (26, b15, .cells #[.int .i64 (i1 : Int), .int .i64 (q3 + s1 + max mv (-mv) * g.h), .int .i64 (q2 + mv)] 74) (by simp [setB])).2
  have G15 := Lib.hid (hl5.1.2 (26, b15, .cells #[.int .i64 (i1 : Int), .int .i64 (q3 + s1 + max mv (-mv) * g.h), .int .i64 (q2 + mv)] 74) (by simp [setB])).1
  have B5 := Lib.hid (B4.out.trans (b5.mono B4.out.size))
  replace X10 := Lib.hid ((b5.block _ (block_lt X10.out)).trans X10.out)
  replace r1 := cell_kept b5 r1.out
  replace r2 := cell_kept b5 r2.out
  clear hb5 hl5 hF fb hne b5 fk0 fk1 fp1 fp2 fn4 fr1 z3 z4
  refine onlyN_intro ?_
  have z3 := szs (cell_lt r1)
  have z4 := szs (cell_lt r2)
  dsimp only at z3 z4
  obtain ⟨mm, hmm⟩ : ∃ mm, mm = max mv (-mv) * g.h := ⟨_, rfl⟩
  rw [← hmm] at hwk X15 ⊢
  have HMM := Lib.hid hmm
  clear hmm
  have n0 := cell_kept B5.out (cell_at X4.out 0)
  have n1 := cell_kept B5.out (cell_at X4.out 1)
  have n2 := cell_kept B5.out (cell_at X4.out 2)
  have n3 := cell_kept B5.out (cell_at X4.out 3)
  have n4 := cell_kept B5.out (cell_at X4.out 4)
  have t0 := cell_kept B5.out (cell_at X5.out 0)
  have t1 := cell_kept B5.out (cell_at X5.out 1)
  have t2 := cell_kept B5.out (cell_at X5.out 2)
  have t3 := cell_kept B5.out (cell_at X5.out 3)
  have p0 := cell_kept B5.out (cell_at X6.out 0)
  have p1 := cell_kept B5.out (cell_at X6.out 1)
  have p2 := cell_kept B5.out (cell_at X6.out 2)
  try dsimp only at n0 n1 n2 n3 n4 t0 t1 t2 t3 p0 p1 p2
  have zn := szs (cell_lt n0)
  have zt := szs (cell_lt t0)
  have zp := szs (cell_lt p0)
  dsimp only at zn zt zp
  have k0 := cell_at X10.out 0
  have zk := szs (block_lt X10.out)
  have c0 := cell_at X15.out 0
  have c1 := cell_at X15.out 1
  have c2 := cell_at X15.out 2
  have zc := szs (block_lt X15.out)
  have K8 := Lib.hid ((B5.out.block _ (block_lt X8.out)).trans X8.out)
  have m0 := cell_at K8.out 0
  have m1 := cell_at K8.out 1
  have m2 := cell_at K8.out 2
  have fr := fun i => free_at K8.out i
  have zm := szs (block_lt K8.out)
  have hc15 : w.heap.size + 1 + 1 + 1 < b15 := by have h1 : w4.heap.size ≤ b15 := G15.out; have h2 := HC4.out; omega
  have HK8 := Lib.hid K8
  have hb3 := HB3.out
  have hb4 := HB4.out
  (obtain ⟨ι, hne, Fw, fb, hF⟩ := cfamily w5 (w.heap.size + 1 + 1 + 1) (.cells #[.int .i64 (i1 : Int), .int .i64 (q3 + s1 + mm), .int .i64 (q2 + mv)] 74)); have hF : ∀ w', (cPlan w5 (w.heap.size + 1 + 1 + 1) (.cells #[.int .i64 (i1 : Int), .int .i64 (q3 + s1 + mm), .int .i64 (q2 + mv)] 74) 47).D false w' → ∃ i, w' = Fw i := hF
  have fn4 := fun i => cell_kept_but (fb i) (by dsimp only; omega) n4
  have ft0 := fun i => cell_kept_but (fb i) (by dsimp only; omega) t0
  have ft1 := fun i => cell_kept_but (fb i) (by dsimp only; omega) t1
  have ft3 := fun i => cell_kept_but (fb i) (by dsimp only; omega) t3
  have fk0 := fun i => cell_kept_but (fb i) (by dsimp only; omega) k0
  have fc0 := fun i => cell_kept_but (fb i) (by dsimp only; omega) c0
  have fc1 := fun i => cell_kept_but (fb i) (by dsimp only; omega) c1
  have fc2 := fun i => cell_kept_but (fb i) (by dsimp only; omega) c2
  have fr1 := fun i => cell_kept_but (fb i) (by dsimp only; omega) r1
  have fr2 := fun i => cell_kept_but (fb i) (by dsimp only; omega) r2
  generalize hBV : decide (0 ≤ s1 ∧ 0 ≤ s2 ∧ 0 ≤ q2 + mv ∧ q2 + mv ≤ d2 ∧ q3 + s1 + mm + s2 + (q2 + mv) * g.h ≤ d4) = BV
  have HBV := Lib.hid hBV
  clear hBV n0 n1 n2 n3 n4 t0 t1 t2 t3 p0 p1 p2 zn zt zp k0 zk c0 c1 c2 zc m0 m1 m2 fr zm K8 r1 r2 z3 z4
  by_cases hA : 0 ≤ s1
  · have tA : decide (0 ≤ s1) = true := decide_eq_true hA
    by_cases hB : 0 ≤ s2
    · have tB : decide (0 ≤ s2) = true := decide_eq_true hB
      by_cases hC : 0 ≤ q2 + mv
      · have tC : decide (0 ≤ q2 + mv) = true := decide_eq_true hC
        by_cases hD' : q2 + mv ≤ d2
        · have tD : decide (q2 + mv ≤ d2) = true := decide_eq_true hD'
          by_cases hE : q3 + s1 + mm + s2 + (q2 + mv) * g.h ≤ d4
          · have tE : decide (q3 + s1 + mm + s2 + (q2 + mv) * g.h ≤ d4) = true := decide_eq_true hE
            obtain rfl : BV = true := by rw [← HBV.out]; exact decide_eq_true ⟨hA, hB, hC, hD', hE⟩
            go_wp2_with fail
            (refine region_chainO (cPlan w5 (w.heap.size + 1 + 1 + 1) (.cells #[.int .i64 (i1 : Int), .int .i64 (q3 + s1 + mm), .int .i64 (q2 + mv)] 74) 47) false [] [0, 1, 2, 3, 4, 5, 6, 7, 8, 9, 10, 11, 12, 13, 14, 15, 16, 17, 18, 19, 20, 21, 22, 23, 24, 25, 26, 27, 28, 29, 30, 31, 32, 33, 34, 35, 36, 37, 38, 39, 40, 41, 42, 43, 44, 45, 46, 47, 48] [] mixed (by kernel_rfl) (by kernel_rfl) (fun _ _ h => nomatch h) cPlan_ok cPlan_start ?_; refine wpPure_nil ?_; simp only [List.map_cons, List.map_nil, Array.getD_eq_getD_getElem?, List.getElem?_toArray, List.getElem?_cons_zero, List.getElem?_cons_succ, Option.getD_some])
            (repeat (first | (refine wpChainO_skip rfl ?_; simp only [Act.put, List.setIfInBounds_toArray, List.set_cons_succ, List.set_cons_zero]) | (refine wpChainO_quiet hF rfl rfl rfl ?_; intro K hK; go_big_quiet_op; go_big_quiet_on) | (refine wpChainO_pure _ rfl rfl (fun w' _ => by go_simp; try rfl) ?_; simp only [Act.put, List.setIfInBounds_toArray, List.set_cons_succ, List.set_cons_zero])))
            (refine wpChainO_cstore (.cells #[.int .i64 0, .int .i64 0, .int .i64 0] 74) (HK8.out) rfl rfl (fun w' hw' => by have c0 := cell_at hw' 0; have c1 := cell_at hw' 1; have c2 := cell_at hw' 2; have g0 := free_at hw'; have hlt := block_lt hw'; go_simp; rw [setCell_at hw', setAt_setCell hlt, setAt_setCell hlt]; rfl) ?_; simp only [Act.put, List.setIfInBounds_toArray, List.set_cons_succ, List.set_cons_zero])
            (repeat (first | (refine wpChainO_skip rfl ?_; simp only [Act.put, List.setIfInBounds_toArray, List.set_cons_succ, List.set_cons_zero]) | (refine wpChainO_quiet hF rfl rfl rfl ?_; intro K hK; go_big_quiet_op; go_big_quiet_on) | (refine wpChainO_pure _ rfl rfl (fun w' _ => by go_simp; try rfl) ?_; simp only [Act.put, List.setIfInBounds_toArray, List.set_cons_succ, List.set_cons_zero])))
            refine wpChainO_nil (fun w6 hb6 hl6 => ?_)
            have b6 : Below w5.heap.size (setAt w5 (w.heap.size + 1 + 1 + 1) (.cells #[.int .i64 (i1 : Int), .int .i64 (q3 + s1 + mm), .int .i64 (q2 + mv)] 74)) w6 := hb6
            have X6' := (b6.block _ (block_lt HK8.out)).trans (setAt_same (block_lt HK8.out))
            have BE : Hid (Below w.heap.size w w6) := Lib.hid ((below_setAt (b := w.heap.size + 1 + 1 + 1) (by omega) (BB.out.trans (B5.out.mono BB.out.size))).trans (b6.mono (Nat.le_trans BB.out.size B5.out.size)))
            have e0 := cell_at X6' 0
            have e1 := cell_at X6' 1
            have e2 := cell_at X6' 2
            have ze := szs (block_lt X6')
            clear hb6 hl6 b6 X6' hF fb hne fn4 ft0 ft1 ft3 fk0 fc0 fc1 fc2 fr1 fr2
            refine onlyN_intro ?_
            go_wp2_with fail
            refine bodyPost_ret (v := .tuple #[.agg #[.int .i64 (i1 : Int), .int .i64 (q3 + s1 + mm), .int .i64 (q2 + mv)], .bool true]) (by simp [results, Tryz.results30, go_sem, e0, e1, e2]) rfl ⟨by rw [HI1.out, ← HMM.out, HBV.out], BE.out⟩
          · have tE : decide (q3 + s1 + mm + s2 + (q2 + mv) * g.h ≤ d4) = false := decide_eq_false hE
            obtain rfl : BV = false := by rw [← HBV.out]; exact decide_eq_false (fun h => hE h.2.2.2.2)
            go_wp2_with fail
            (refine region_chainO (cPlan w5 (w.heap.size + 1 + 1 + 1) (.cells #[.int .i64 (i1 : Int), .int .i64 (q3 + s1 + mm), .int .i64 (q2 + mv)] 74) 47) false [] [0, 1, 2, 3, 4, 5, 6, 7, 8, 9, 10, 11, 12, 13, 14, 15, 16, 17, 18, 19, 20, 21, 22, 23, 24, 25, 26, 27, 28, 29, 30, 31, 32, 33, 34, 35, 36, 37, 38, 39, 40, 41, 42, 43, 44, 45, 46, 47, 48] [] mixed (by kernel_rfl) (by kernel_rfl) (fun _ _ h => nomatch h) cPlan_ok cPlan_start ?_; refine wpPure_nil ?_; simp only [List.map_cons, List.map_nil, Array.getD_eq_getD_getElem?, List.getElem?_toArray, List.getElem?_cons_zero, List.getElem?_cons_succ, Option.getD_some])
            (repeat (first | (refine wpChainO_skip rfl ?_; simp only [Act.put, List.setIfInBounds_toArray, List.set_cons_succ, List.set_cons_zero]) | (refine wpChainO_quiet hF rfl rfl rfl ?_; intro K hK; go_big_quiet_op; go_big_quiet_on) | (refine wpChainO_pure _ rfl rfl (fun w' _ => by go_simp; try rfl) ?_; simp only [Act.put, List.setIfInBounds_toArray, List.set_cons_succ, List.set_cons_zero])))
            (refine wpChainO_cstore (.cells #[.int .i64 0, .int .i64 0, .int .i64 0] 74) (HK8.out) rfl rfl (fun w' hw' => by have c0 := cell_at hw' 0; have c1 := cell_at hw' 1; have c2 := cell_at hw' 2; have g0 := free_at hw'; have hlt := block_lt hw'; go_simp; rw [setCell_at hw', setAt_setCell hlt, setAt_setCell hlt]; rfl) ?_; simp only [Act.put, List.setIfInBounds_toArray, List.set_cons_succ, List.set_cons_zero])
            (repeat (first | (refine wpChainO_skip rfl ?_; simp only [Act.put, List.setIfInBounds_toArray, List.set_cons_succ, List.set_cons_zero]) | (refine wpChainO_quiet hF rfl rfl rfl ?_; intro K hK; go_big_quiet_op; go_big_quiet_on) | (refine wpChainO_pure _ rfl rfl (fun w' _ => by go_simp; try rfl) ?_; simp only [Act.put, List.setIfInBounds_toArray, List.set_cons_succ, List.set_cons_zero])))
            refine wpChainO_nil (fun w6 hb6 hl6 => ?_)
            have b6 : Below w5.heap.size (setAt w5 (w.heap.size + 1 + 1 + 1) (.cells #[.int .i64 (i1 : Int), .int .i64 (q3 + s1 + mm), .int .i64 (q2 + mv)] 74)) w6 := hb6
            have X6' := (b6.block _ (block_lt HK8.out)).trans (setAt_same (block_lt HK8.out))
            have BE : Hid (Below w.heap.size w w6) := Lib.hid ((below_setAt (b := w.heap.size + 1 + 1 + 1) (by omega) (BB.out.trans (B5.out.mono BB.out.size))).trans (b6.mono (Nat.le_trans BB.out.size B5.out.size)))
            have e0 := cell_at X6' 0
            have e1 := cell_at X6' 1
            have e2 := cell_at X6' 2
            have ze := szs (block_lt X6')
            clear hb6 hl6 b6 X6' hF fb hne fn4 ft0 ft1 ft3 fk0 fc0 fc1 fc2 fr1 fr2
            refine onlyN_intro ?_
            go_wp2_with fail
            refine bodyPost_ret (v := .tuple #[.agg #[.int .i64 (i1 : Int), .int .i64 (q3 + s1 + mm), .int .i64 (q2 + mv)], .bool false]) (by simp [results, Tryz.results30, go_sem, e0, e1, e2]) rfl ⟨by rw [HI1.out, ← HMM.out, HBV.out], BE.out⟩
        · have tD : decide (q2 + mv ≤ d2) = false := decide_eq_false hD'
          obtain rfl : BV = false := by rw [← HBV.out]; exact decide_eq_false (fun h => hD' h.2.2.2.1)
          go_wp2_with fail
          (refine region_chainO (cPlan w5 (w.heap.size + 1 + 1 + 1) (.cells #[.int .i64 (i1 : Int), .int .i64 (q3 + s1 + mm), .int .i64 (q2 + mv)] 74) 47) false [] [0, 1, 2, 3, 4, 5, 6, 7, 8, 9, 10, 11, 12, 13, 14, 15, 16, 17, 18, 19, 20, 21, 22, 23, 24, 25, 26, 27, 28, 29, 30, 31, 32, 33, 34, 35, 36, 37, 38, 39, 40, 41, 42, 43, 44, 45, 46, 47, 48] [] mixed (by kernel_rfl) (by kernel_rfl) (fun _ _ h => nomatch h) cPlan_ok cPlan_start ?_; refine wpPure_nil ?_; simp only [List.map_cons, List.map_nil, Array.getD_eq_getD_getElem?, List.getElem?_toArray, List.getElem?_cons_zero, List.getElem?_cons_succ, Option.getD_some])
          (repeat (first | (refine wpChainO_skip rfl ?_; simp only [Act.put, List.setIfInBounds_toArray, List.set_cons_succ, List.set_cons_zero]) | (refine wpChainO_quiet hF rfl rfl rfl ?_; intro K hK; go_big_quiet_op; go_big_quiet_on) | (refine wpChainO_pure _ rfl rfl (fun w' _ => by go_simp; try rfl) ?_; simp only [Act.put, List.setIfInBounds_toArray, List.set_cons_succ, List.set_cons_zero])))
          (refine wpChainO_cstore (.cells #[.int .i64 0, .int .i64 0, .int .i64 0] 74) (HK8.out) rfl rfl (fun w' hw' => by have c0 := cell_at hw' 0; have c1 := cell_at hw' 1; have c2 := cell_at hw' 2; have g0 := free_at hw'; have hlt := block_lt hw'; go_simp; rw [setCell_at hw', setAt_setCell hlt, setAt_setCell hlt]; rfl) ?_; simp only [Act.put, List.setIfInBounds_toArray, List.set_cons_succ, List.set_cons_zero])
          (repeat (first | (refine wpChainO_skip rfl ?_; simp only [Act.put, List.setIfInBounds_toArray, List.set_cons_succ, List.set_cons_zero]) | (refine wpChainO_quiet hF rfl rfl rfl ?_; intro K hK; go_big_quiet_op; go_big_quiet_on) | (refine wpChainO_pure _ rfl rfl (fun w' _ => by go_simp; try rfl) ?_; simp only [Act.put, List.setIfInBounds_toArray, List.set_cons_succ, List.set_cons_zero])))
          refine wpChainO_nil (fun w6 hb6 hl6 => ?_)
          have b6 : Below w5.heap.size (setAt w5 (w.heap.size + 1 + 1 + 1) (.cells #[.int .i64 (i1 : Int), .int .i64 (q3 + s1 + mm), .int .i64 (q2 + mv)] 74)) w6 := hb6
          have X6' := (b6.block _ (block_lt HK8.out)).trans (setAt_same (block_lt HK8.out))
          have BE : Hid (Below w.heap.size w w6) := Lib.hid ((below_setAt (b := w.heap.size + 1 + 1 + 1) (by omega) (BB.out.trans (B5.out.mono BB.out.size))).trans (b6.mono (Nat.le_trans BB.out.size B5.out.size)))
          have e0 := cell_at X6' 0
          have e1 := cell_at X6' 1
          have e2 := cell_at X6' 2
          have ze := szs (block_lt X6')
          clear hb6 hl6 b6 X6' hF fb hne fn4 ft0 ft1 ft3 fk0 fc0 fc1 fc2 fr1 fr2
          refine onlyN_intro ?_
          go_wp2_with fail
          refine bodyPost_ret (v := .tuple #[.agg #[.int .i64 (i1 : Int), .int .i64 (q3 + s1 + mm), .int .i64 (q2 + mv)], .bool false]) (by simp [results, Tryz.results30, go_sem, e0, e1, e2]) rfl ⟨by rw [HI1.out, ← HMM.out, HBV.out], BE.out⟩
      · have tC : decide (0 ≤ q2 + mv) = false := decide_eq_false hC
        obtain rfl : BV = false := by rw [← HBV.out]; exact decide_eq_false (fun h => hC h.2.2.1)
        go_wp2_with fail
        (refine region_chainO (cPlan w5 (w.heap.size + 1 + 1 + 1) (.cells #[.int .i64 (i1 : Int), .int .i64 (q3 + s1 + mm), .int .i64 (q2 + mv)] 74) 47) false [] [0, 1, 2, 3, 4, 5, 6, 7, 8, 9, 10, 11, 12, 13, 14, 15, 16, 17, 18, 19, 20, 21, 22, 23, 24, 25, 26, 27, 28, 29, 30, 31, 32, 33, 34, 35, 36, 37, 38, 39, 40, 41, 42, 43, 44, 45, 46, 47, 48] [] mixed (by kernel_rfl) (by kernel_rfl) (fun _ _ h => nomatch h) cPlan_ok cPlan_start ?_; refine wpPure_nil ?_; simp only [List.map_cons, List.map_nil, Array.getD_eq_getD_getElem?, List.getElem?_toArray, List.getElem?_cons_zero, List.getElem?_cons_succ, Option.getD_some])
        (repeat (first | (refine wpChainO_skip rfl ?_; simp only [Act.put, List.setIfInBounds_toArray, List.set_cons_succ, List.set_cons_zero]) | (refine wpChainO_quiet hF rfl rfl rfl ?_; intro K hK; go_big_quiet_op; go_big_quiet_on) | (refine wpChainO_pure _ rfl rfl (fun w' _ => by go_simp; try rfl) ?_; simp only [Act.put, List.setIfInBounds_toArray, List.set_cons_succ, List.set_cons_zero])))
        (refine wpChainO_cstore (.cells #[.int .i64 0, .int .i64 0, .int .i64 0] 74) (HK8.out) rfl rfl (fun w' hw' => by have c0 := cell_at hw' 0; have c1 := cell_at hw' 1; have c2 := cell_at hw' 2; have g0 := free_at hw'; have hlt := block_lt hw'; go_simp; rw [setCell_at hw', setAt_setCell hlt, setAt_setCell hlt]; rfl) ?_; simp only [Act.put, List.setIfInBounds_toArray, List.set_cons_succ, List.set_cons_zero])
        (repeat (first | (refine wpChainO_skip rfl ?_; simp only [Act.put, List.setIfInBounds_toArray, List.set_cons_succ, List.set_cons_zero]) | (refine wpChainO_quiet hF rfl rfl rfl ?_; intro K hK; go_big_quiet_op; go_big_quiet_on) | (refine wpChainO_pure _ rfl rfl (fun w' _ => by go_simp; try rfl) ?_; simp only [Act.put, List.setIfInBounds_toArray, List.set_cons_succ, List.set_cons_zero])))
        refine wpChainO_nil (fun w6 hb6 hl6 => ?_)
        have b6 : Below w5.heap.size (setAt w5 (w.heap.size + 1 + 1 + 1) (.cells #[.int .i64 (i1 : Int), .int .i64 (q3 + s1 + mm), .int .i64 (q2 + mv)] 74)) w6 := hb6
        have X6' := (b6.block _ (block_lt HK8.out)).trans (setAt_same (block_lt HK8.out))
        have BE : Hid (Below w.heap.size w w6) := Lib.hid ((below_setAt (b := w.heap.size + 1 + 1 + 1) (by omega) (BB.out.trans (B5.out.mono BB.out.size))).trans (b6.mono (Nat.le_trans BB.out.size B5.out.size)))
        have e0 := cell_at X6' 0
        have e1 := cell_at X6' 1
        have e2 := cell_at X6' 2
        have ze := szs (block_lt X6')
        clear hb6 hl6 b6 X6' hF fb hne fn4 ft0 ft1 ft3 fk0 fc0 fc1 fc2 fr1 fr2
        refine onlyN_intro ?_
        go_wp2_with fail
        refine bodyPost_ret (v := .tuple #[.agg #[.int .i64 (i1 : Int), .int .i64 (q3 + s1 + mm), .int .i64 (q2 + mv)], .bool false]) (by simp [results, Tryz.results30, go_sem, e0, e1, e2]) rfl ⟨by rw [HI1.out, ← HMM.out, HBV.out], BE.out⟩
    · have tB : decide (0 ≤ s2) = false := decide_eq_false hB
      obtain rfl : BV = false := by rw [← HBV.out]; exact decide_eq_false (fun h => hB h.2.1)
      go_wp2_with fail
      (refine region_chainO (cPlan w5 (w.heap.size + 1 + 1 + 1) (.cells #[.int .i64 (i1 : Int), .int .i64 (q3 + s1 + mm), .int .i64 (q2 + mv)] 74) 47) false [] [0, 1, 2, 3, 4, 5, 6, 7, 8, 9, 10, 11, 12, 13, 14, 15, 16, 17, 18, 19, 20, 21, 22, 23, 24, 25, 26, 27, 28, 29, 30, 31, 32, 33, 34, 35, 36, 37, 38, 39, 40, 41, 42, 43, 44, 45, 46, 47, 48] [] mixed (by kernel_rfl) (by kernel_rfl) (fun _ _ h => nomatch h) cPlan_ok cPlan_start ?_; refine wpPure_nil ?_; simp only [List.map_cons, List.map_nil, Array.getD_eq_getD_getElem?, List.getElem?_toArray, List.getElem?_cons_zero, List.getElem?_cons_succ, Option.getD_some])
      (repeat (first | (refine wpChainO_skip rfl ?_; simp only [Act.put, List.setIfInBounds_toArray, List.set_cons_succ, List.set_cons_zero]) | (refine wpChainO_quiet hF rfl rfl rfl ?_; intro K hK; go_big_quiet_op; go_big_quiet_on) | (refine wpChainO_pure _ rfl rfl (fun w' _ => by go_simp; try rfl) ?_; simp only [Act.put, List.setIfInBounds_toArray, List.set_cons_succ, List.set_cons_zero])))
      (refine wpChainO_cstore (.cells #[.int .i64 0, .int .i64 0, .int .i64 0] 74) (HK8.out) rfl rfl (fun w' hw' => by have c0 := cell_at hw' 0; have c1 := cell_at hw' 1; have c2 := cell_at hw' 2; have g0 := free_at hw'; have hlt := block_lt hw'; go_simp; rw [setCell_at hw', setAt_setCell hlt, setAt_setCell hlt]; rfl) ?_; simp only [Act.put, List.setIfInBounds_toArray, List.set_cons_succ, List.set_cons_zero])
      (repeat (first | (refine wpChainO_skip rfl ?_; simp only [Act.put, List.setIfInBounds_toArray, List.set_cons_succ, List.set_cons_zero]) | (refine wpChainO_quiet hF rfl rfl rfl ?_; intro K hK; go_big_quiet_op; go_big_quiet_on) | (refine wpChainO_pure _ rfl rfl (fun w' _ => by go_simp; try rfl) ?_; simp only [Act.put, List.setIfInBounds_toArray, List.set_cons_succ, List.set_cons_zero])))
      refine wpChainO_nil (fun w6 hb6 hl6 => ?_)
      have b6 : Below w5.heap.size (setAt w5 (w.heap.size + 1 + 1 + 1) (.cells #[.int .i64 (i1 : Int), .int .i64 (q3 + s1 + mm), .int .i64 (q2 + mv)] 74)) w6 := hb6
      have X6' := (b6.block _ (block_lt HK8.out)).trans (setAt_same (block_lt HK8.out))
      have BE : Hid (Below w.heap.size w w6) := Lib.hid ((below_setAt (b := w.heap.size + 1 + 1 + 1) (by omega) (BB.out.trans (B5.out.mono BB.out.size))).trans (b6.mono (Nat.le_trans BB.out.size B5.out.size)))
      have e0 := cell_at X6' 0
      have e1 := cell_at X6' 1
      have e2 := cell_at X6' 2
      have ze := szs (block_lt X6')
      clear hb6 hl6 b6 X6' hF fb hne fn4 ft0 ft1 ft3 fk0 fc0 fc1 fc2 fr1 fr2
      refine onlyN_intro ?_
      go_wp2_with fail
      refine bodyPost_ret (v := .tuple #[.agg #[.int .i64 (i1 : Int), .int .i64 (q3 + s1 + mm), .int .i64 (q2 + mv)], .bool false]) (by simp [results, Tryz.results30, go_sem, e0, e1, e2]) rfl ⟨by rw [HI1.out, ← HMM.out, HBV.out], BE.out⟩
  · have tA : decide (0 ≤ s1) = false := decide_eq_false hA
    obtain rfl : BV = false := by rw [← HBV.out]; exact decide_eq_false (fun h => hA h.1)
    go_wp2_with fail
    (refine region_chainO (cPlan w5 (w.heap.size + 1 + 1 + 1) (.cells #[.int .i64 (i1 : Int), .int .i64 (q3 + s1 + mm), .int .i64 (q2 + mv)] 74) 47) false [] [0, 1, 2, 3, 4, 5, 6, 7, 8, 9, 10, 11, 12, 13, 14, 15, 16, 17, 18, 19, 20, 21, 22, 23, 24, 25, 26, 27, 28, 29, 30, 31, 32, 33, 34, 35, 36, 37, 38, 39, 40, 41, 42, 43, 44, 45, 46, 47, 48] [] mixed (by kernel_rfl) (by kernel_rfl) (fun _ _ h => nomatch h) cPlan_ok cPlan_start ?_; refine wpPure_nil ?_; simp only [List.map_cons, List.map_nil, Array.getD_eq_getD_getElem?, List.getElem?_toArray, List.getElem?_cons_zero, List.getElem?_cons_succ, Option.getD_some])
    (repeat (first | (refine wpChainO_skip rfl ?_; simp only [Act.put, List.setIfInBounds_toArray, List.set_cons_succ, List.set_cons_zero]) | (refine wpChainO_quiet hF rfl rfl rfl ?_; intro K hK; go_big_quiet_op; go_big_quiet_on) | (refine wpChainO_pure _ rfl rfl (fun w' _ => by go_simp; try rfl) ?_; simp only [Act.put, List.setIfInBounds_toArray, List.set_cons_succ, List.set_cons_zero])))
    (refine wpChainO_cstore (.cells #[.int .i64 0, .int .i64 0, .int .i64 0] 74) (HK8.out) rfl rfl (fun w' hw' => by have c0 := cell_at hw' 0; have c1 := cell_at hw' 1; have c2 := cell_at hw' 2; have g0 := free_at hw'; have hlt := block_lt hw'; go_simp; rw [setCell_at hw', setAt_setCell hlt, setAt_setCell hlt]; rfl) ?_; simp only [Act.put, List.setIfInBounds_toArray, List.set_cons_succ, List.set_cons_zero])
    (repeat (first | (refine wpChainO_skip rfl ?_; simp only [Act.put, List.setIfInBounds_toArray, List.set_cons_succ, List.set_cons_zero]) | (refine wpChainO_quiet hF rfl rfl rfl ?_; intro K hK; go_big_quiet_op; go_big_quiet_on) | (refine wpChainO_pure _ rfl rfl (fun w' _ => by go_simp; try rfl) ?_; simp only [Act.put, List.setIfInBounds_toArray, List.set_cons_succ, List.set_cons_zero])))
    refine wpChainO_nil (fun w6 hb6 hl6 => ?_)
    have b6 : Below w5.heap.size (setAt w5 (w.heap.size + 1 + 1 + 1) (.cells #[.int .i64 (i1 : Int), .int .i64 (q3 + s1 + mm), .int .i64 (q2 + mv)] 74)) w6 := hb6
    have X6' := (b6.block _ (block_lt HK8.out)).trans (setAt_same (block_lt HK8.out))
    have BE : Hid (Below w.heap.size w w6) := Lib.hid ((below_setAt (b := w.heap.size + 1 + 1 + 1) (by omega) (BB.out.trans (B5.out.mono BB.out.size))).trans (b6.mono (Nat.le_trans BB.out.size B5.out.size)))
    have e0 := cell_at X6' 0
    have e1 := cell_at X6' 1
    have e2 := cell_at X6' 2
    have ze := szs (block_lt X6')
    clear hb6 hl6 b6 X6' hF fb hne fn4 ft0 ft1 ft3 fk0 fc0 fc1 fc2 fr1 fr2
    refine onlyN_intro ?_
    go_wp2_with fail
    refine bodyPost_ret (v := .tuple #[.agg #[.int .i64 (i1 : Int), .int .i64 (q3 + s1 + mm), .int .i64 (q2 + mv)], .bool false]) (by simp [results, Tryz.results30, go_sem, e0, e1, e2]) rfl ⟨by rw [HI1.out, ← HMM.out, HBV.out], BE.out⟩
end Go.Proofs.YtlnfhlmgnppcbaaGreat
