/- Trucks: a truck follows a route. -/
import Derived.Test.YtlnfhlmgnppcbaaTK3
import Derived.Test.YtlnfhlmgnppcbaaTK5
import Derived.Test.YtlnfhlmgnppcbaaTK6
import Derived.Test.YtlnfhlmgnppcbaaCT1
import Derived.BigQuiet
import Derived.BigRegion
namespace Go.Proofs.Ytlnfhlmgnppcbaa
open Go.RowKit Go.ChangeShapes Go.WideShapes Go.Deep
set_option linter.unusedVariables false
set_option linter.unusedSimpArgs false
set_option maxRecDepth 8000
open Rd
def vif (V : Nat → Vi) : Nat → List Value := fun i => [.int .i64 (V i).need, .int .i64 (V i).arr, .int .i64 (V i).lea, .int .i64 (V i).load]
theorem vif_len (V : Nat → Vi) (i : Nat) : (vif V i).length = 4 := rfl
def ViRow (w : World) (base : Nat) (v : Value) (n : Nat) (V : Nat → Vi) : Prop := Row w base 92 4 v n (vif V)
theorem infoVi : (Try.prog.info? 92).map (fun i => (i.zero, i.size, i.bytes)) = some (some (.agg #[.int .i64 0, .int .i64 0, .int .i64 0, .int .i64 0]), 4, 32) := by kernel_rfl
theorem wpList_append_Vi {ops : Array Oper} {rest : List Oper} {o : Oper} {a : Act} {Q : Exit → Act → World → Prop} (w : World) (hgd : o.guard = none) (x1 x2 : Operand) (ho : o.op = .call { callee := .builtin .append, args := #[x1, x2], argTypes := #[85, 85] })
    (base : Nat) (v : Value) (n : Nat) (V : Nat → Vi) (hs : a.eval x1 = v) (h1 : ViRow w base v n V) (b1 : Nat) (x : Vi) (hx : a.eval x2 = .slice (some ⟨b1, 0, none⟩) 1 1) (ob : TypeId) (fz : Nat × Nat) (hb1 : w.heap[b1]? = some (.cells (viC x) ob fz)) (hn : n ≤ 1000000) (hb : base ≤ w.heap.size)
    (h : ∀ v' w', ViRow w' base v' (n + 1) (upd V n x) → Off (fun i => base ≤ i) w w' → wpList Try.prog ops Q rest (a.put o.dst v') w') : wpList Try.prog ops Q (o :: rest) a w := by
  obtain ⟨i0, hi, hz0, hz1, hz2⟩ := info_parts infoVi
  refine wpList_append_row w hgd x1 x2 85 ho base 92 i0 _ 4 32 Try.underlying85 hi hz0 hz1 hz2 rfl (by decide) v n (vif V) hs h1 (vif_len V) b1 1 [.int .i64 x.need, .int .i64 x.arr, .int .i64 x.lea, .int .i64 x.load] hx rfl ob fz hb1 (fun u hu => by
    simp only [List.mem_cons, List.not_mem_nil, or_false] at hu
    rcases hu with rfl | rfl | rfl | rfl <;> rfl) (by omega) (by unfold maxLen; omega) hb ?_
  intro g cap w' k1 k2 k3 k4 k5 r b
  refine h _ w' (Row.congr r (fun i _ => ?_)) ((Off.of_grown b).mono (fun i _ hh => ?_))
  · show upd (vif V) n _ i = vif (upd V n x) i
    by_cases e : i = n
    · subst e; rw [upd_same]; simp [vif, upd]
    · rw [upd_ne e]; simp [vif, upd, e]
  · have hh : v.ownBlock = some i := by first | exact hh | exact hh.symm
    exact (World.ownsRow.lt h1 i hh).1
/-- Behind the first i needs. -/
noncomputable def stK (g : Ng) (t : Tk) (R : Nat → Int) (i : Nat) : St4 := ⟨atK g t R i, nowK g t R i, loadK g R i, drvK g t R i⟩
theorem stK_next (g : Ng) (t : Tk) (R : Nat → Int) (i : Nat) : visitS g (stK g t R i) (R i) = stK g t R (i + 1) := rfl
theorem stK_err (g : Ng) (t : Tk) (R : Nat → Int) (i : Nat) : visitE g t (stK g t R i) (R i) = stepK g t R i := rfl
theorem stK_vis (g : Ng) (t : Tk) (R : Nat → Int) (i : Nat) : visitV g (stK g t R i) (R i) = visK g t R i := rfl
theorem stK_home (g : Ng) (t : Tk) (R : Nat → Int) (k : Nat) : homeE g t (stK g t R k) = homeK g t R k := rfl
theorem ROk.small {g : Ng} {n : Nat} {r : Int} {R : Nat → Int} {k : Nat} (h : ROk g n r R k) {i : Nat} (hi : i ≤ k) : (stK g (g.T r.toNat) R i).Small n := by
  have h16 := h.k16
  refine ⟨h.at hi, ?_, ?_, ?_⟩
  · have := h.now hi; show -1000 ≤ nowK _ _ _ _ ∧ _; constructor
    · omega
    · show nowK _ _ _ _ ≤ _; omega
  · have := h.load hi; constructor
    · show -1000 ≤ loadK _ _ _; omega
    · show loadK _ _ _ ≤ _; omega
  · have := h.drv hi; constructor
    · show -1000 ≤ drvK _ _ _ _; omega
    · show drvK _ _ _ _ ≤ _; omega
theorem ROk.loadh {g : Ng} {n : Nat} {r : Int} {R : Nat → Int} {k : Nat} (h : ROk g n r R k) (hs : ∀ i, i < k → stepK g (g.T r.toNat) R i = 0) : -200000 ≤ (stK g (g.T r.toNat) R k).load * g.h ∧ (stK g (g.T r.toNat) R k).load * g.h ≤ 200000 := by
  have h0 := h.ng.h0
  have h1 := h.ng.h1
  have ht := h.tk
  have hl : 0 ≤ loadK g R k ∧ loadK g R k ≤ 32 := by
    cases k with
    | zero => simp [loadK]
    | succ k => have := step_ok (hs k (by omega)); omega
  show -200000 ≤ loadK g R k * g.h ∧ loadK g R k * g.h ≤ 200000
  have m1 := Int.mul_nonneg hl.1 h0
  have m2 := Int.mul_le_mul hl.2 h1 h0 (by decide)
  omega
/-- What a walk gives. -/
def WalkP (g : Ng) (r : Int) (R : Nat → Int) (k : Nat) (w : World) (e : Ending) (w' : World) : Prop :=
  Below w.heap.size w w' ∧ ((walkE g r R k ≠ 0 ∧ e = .returned (.tuple #[.pointer none, .slice none 0 0, .int .i64 (walkE g r R k)])) ∨
    (walkE g r R k = 0 ∧ ∃ (b : Nat) (v : Value), e = .returned (.tuple #[.pointer (some ⟨b, 0, none⟩), v, .int .i64 0]) ∧ w'.heap[b]? = some (.cells (tourC g (g.T r.toNat) (homeS g (g.T r.toNat) (stK g (g.T r.toNat) R k))) 163 (0, 0)) ∧ ViRow w' w.heap.size v k (visK g (g.T r.toNat) R)))
theorem vi_none (w : World) (base : Nat) (V : Nat → Vi) : ViRow w base (.slice none 0 0) 0 V := ⟨rfl, .inl ⟨rfl, rfl⟩⟩
set_option maxHeartbeats 16000000 in
theorem walk102 (g : Ng) (r : Int) (R : Nat → Int) (k : Nat) (ra : Option Addr) (rc : Nat) (w : World) (hg : g.In w) (hR : Sl w 1 ra k rc (nf R)) (hk : k ≤ 1000) :
    Calls Try.prog 102 #[.agg g.cells, .agg #[.int .i64 r, .slice ra k rc]] w (WalkP g r R k w) := by
  have BB : Hid (Below w.heap.size w ((w.alloc (.cells g.cells 81)).alloc (.cells #[.int .i64 r, .slice ra k rc] 84))) := Lib.hid (by (repeat' (first | (with_reducible exact Below.refl _ _) | (with_reducible assumption) | (with_reducible refine Below.drew ?_) | (with_reducible refine below_drewN ?_ _) | (with_reducible refine Below.alloc ?_ ?_ _) | (with_reducible refine Below.setCell ?_ ?_ _) | go_size)))
  have XG : Hid (((w.alloc (.cells g.cells 81)).alloc (.cells #[.int .i64 r, .slice ra k rc] 84)).heap[w.heap.size]? = some (.cells g.cells 81 (0, 0))) := Lib.hid (by
    have h0 := heap_alloc_new w (.cells g.cells 81)
    have bb : Below (w.alloc (.cells g.cells 81)).heap.size (w.alloc (.cells g.cells 81)) ((w.alloc (.cells g.cells 81)).alloc (.cells #[.int .i64 r, .slice ra k rc] 84)) := by (repeat' (first | (with_reducible exact Below.refl _ _) | (with_reducible assumption) | (with_reducible refine Below.drew ?_) | (with_reducible refine below_drewN ?_ _) | (with_reducible refine Below.alloc ?_ ?_ _) | (with_reducible refine Below.setCell ?_ ?_ _) | go_size))
    exact (bb.block _ (block_lt h0)).trans h0)
  have XR : Hid (((w.alloc (.cells g.cells 81)).alloc (.cells #[.int .i64 r, .slice ra k rc] 84)).heap[w.heap.size + 1]? = some (.cells #[.int .i64 r, .slice ra k rc] 84 (0, 0))) := Lib.hid (by
    have h0 := heap_alloc_new (w.alloc (.cells g.cells 81)) (.cells #[.int .i64 r, .slice ra k rc] 84)
    rwa [show (w.alloc (.cells g.cells 81)).heap.size = w.heap.size + 1 by simp] at h0)
  obtain ⟨w1, hw1⟩ : ∃ w1, w1 = (w.alloc (.cells g.cells 81)).alloc (.cells #[.int .i64 r, .slice ra k rc] 84) := ⟨_, rfl⟩
  rw [← hw1] at BB XG XR
  have HW1 := Lib.hid hw1
  have HG := Lib.hid hg
  have HR := Lib.hid (hR.below BB.out)
  have HG1 := Lib.hid (hg.below BB.out)
  have CK := Lib.hid (check114 g w1 (hg.below BB.out))
  have IN := Lib.hid (fun n lo hi w' => in115 n lo hi w')
  have hrm := hR.hm
  have hrc := hR.hc
  have htm := hg.trucks.hm
  have htc := hg.trucks.hc
  have hnm := hg.needs.hm
  have hnc := hg.needs.hc
  have HNA : Hid (∀ a, g.na = some a → a.block < w.heap.size ∨ g.nn = 0) := Lib.hid (fun a ha => by
    rcases Nat.eq_zero_or_pos g.nn with h | h
    · exact .inr h
    · obtain ⟨q, o, e, hq, _⟩ := hg.needs.nd h
      rw [e] at ha; cases ha
      exact .inl hq)
  obtain ⟨x, hx⟩ : ∃ x, x = nightE g := ⟨_, rfl⟩
  rw [← hx] at CK
  have HX := Lib.hid hx
  have HCC : Hid (g.cells = #[.int .i64 g.N, .slice g.ea g.em g.ec, .slice g.ta g.tn g.tc, .slice g.na g.nn g.nc, .int .i64 g.h]) := Lib.hid rfl
  rw [HCC.out] at XG HW1 CK ⊢
  clear hw1 hg hR hx
  go_enter Try.func102, Try.ntmps102
  go_wp2_with fail
  rw [← HW1.out]
  have g0 := cell_at XG.out 0
  have g1 := cell_at XG.out 1
  have g2 := cell_at XG.out 2
  have g3 := cell_at XG.out 3
  have g4 := cell_at XG.out 4
  have r0 := cell_at XR.out 0
  have r1 := cell_at XR.out 1
  have zg := szs (block_lt XG.out)
  have zr := szs (block_lt XR.out)
  go_wp2_with fail
  refine CK.out.mono ?_
  rintro e w2 ⟨rfl, b2⟩
  have B2 := Lib.hid b2
  clear b2 CK
  clear g0 g1 g2 g3 g4 r0 r1 zg zr
  by_cases h0 : x = 0
  · subst h0
    obtain ⟨n, hok, hroad⟩ := nok_of HX.out.symm
    have HOK := Lib.hid hok
    have HRO := Lib.hid hroad
    have ht8 := hok.tn
    have hn16 := hok.nn
    clear hok hroad
    have g0 := cell_kept B2.out (cell_at XG.out 0)
    have g1 := cell_kept B2.out (cell_at XG.out 1)
    have g2 := cell_kept B2.out (cell_at XG.out 2)
    have g3 := cell_kept B2.out (cell_at XG.out 3)
    have g4 := cell_kept B2.out (cell_at XG.out 4)
    have r0 := cell_kept B2.out (cell_at XR.out 0)
    have r1 := cell_kept B2.out (cell_at XR.out 1)
    try dsimp only at g0 g1 g2 g3 g4 r0 r1
    have zg := szs (cell_lt g0)
    have zr := szs (cell_lt r0)
    dsimp only at zg zr
    go_wp2_with fail
    refine (IN.out r 0 ((g.tn : Int) - 1) _).mono ?_
    rintro e w9 ⟨rfl, rfl⟩
    by_cases hr1 : 0 ≤ r ∧ r < g.tn
    · rw [inB_iff.2 (⟨hr1.1, by omega⟩ : 0 ≤ r ∧ r ≤ (g.tn : Int) - 1)]
      have AO := Lib.hid (anyOut116 ra k rc R w.heap.size g.nn g.na g.nc w2 g3 (by omega) (HR.out.below B2.out) hk)
      obtain ⟨y, hy⟩ : ∃ y, y = anyN (fun i => outB g.nn (R i)) k := ⟨_, rfl⟩
      rw [← hy] at AO
      have HY := Lib.hid hy
      clear hy
      go_wp2_with fail
      refine AO.out.mono ?_
      rintro e w3 ⟨rfl, b3⟩
      have B3 := Lib.hid (B2.out.trans (b3.mono B2.out.size))
      clear b3 AO
      clear g0 g1 g2 g3 g4 r0 r1 zg zr
      cases y with
      | true =>
        have HW : Hid (walkE g r R k = 7) := Lib.hid (by
          have : namesE g r R k = 7 := by unfold namesE; rw [if_neg (by omega), if_pos HY.out.symm]
          unfold walkE; rw [if_neg (by rw [← HX.out]; simp), if_pos (by rw [this]; simp), this])
        go_wp2_with fail
        go_returns
        exact ⟨BB.out.trans (B3.out.mono BB.out.size), .inl ⟨by rw [HW.out]; simp, by rw [HW.out]; rfl⟩⟩
      | false =>
        have g0 := cell_kept B3.out (cell_at XG.out 0)
        have g1 := cell_kept B3.out (cell_at XG.out 1)
        have g2 := cell_kept B3.out (cell_at XG.out 2)
        have g3 := cell_kept B3.out (cell_at XG.out 3)
        have g4 := cell_kept B3.out (cell_at XG.out 4)
        have r0 := cell_kept B3.out (cell_at XR.out 0)
        have r1 := cell_kept B3.out (cell_at XR.out 1)
        try dsimp only at g0 g1 g2 g3 g4 r0 r1
        have zg := szs (cell_lt g0)
        have zr := szs (cell_lt r0)
        dsimp only at zg zr
        have TW := Lib.hid (twice118 ra k rc R w3 (HR.out.below B3.out) hk)
        obtain ⟨z, hz⟩ : ∃ z, z = twiB R k := ⟨_, rfl⟩
        rw [← hz] at TW
        have HZ := Lib.hid hz
        clear hz
        go_wp2_with fail
        refine TW.out.mono ?_
        rintro e w4 ⟨rfl, b4⟩
        have B4 := Lib.hid (B3.out.trans (b4.mono B3.out.size))
        clear b4 TW B2 B3
        clear g0 g1 g2 g3 g4 r0 r1 zg zr
        cases z with
        | true =>
          have HW : Hid (walkE g r R k = 6) := Lib.hid (by
            have : namesE g r R k = 6 := by unfold namesE; rw [if_neg (by omega), if_neg (by rw [← HY.out]; simp), if_pos HZ.out.symm]
            unfold walkE; rw [if_neg (by rw [← HX.out]; simp), if_pos (by rw [this]; simp), this])
          go_wp2_with fail
          go_returns
          exact ⟨BB.out.trans (B4.out.mono BB.out.size), .inl ⟨by rw [HW.out]; simp, by rw [HW.out]; rfl⟩⟩
        | false =>
          have HNE : Hid (namesE g r R k = 0) := Lib.hid (by unfold namesE; rw [if_neg (by omega), if_neg (by rw [← HY.out]; simp), if_neg (by rw [← HZ.out]; simp)])
          have HWK : Hid (walkE g r R k = if scan (stepK g (g.T r.toNat) R) k ≠ 0 then scan (stepK g (g.T r.toNat) R) k else homeK g (g.T r.toNat) R k) := Lib.hid (by
            unfold walkE; rw [if_neg (by rw [← HX.out]; simp), if_neg (by rw [HNE.out]; simp)])
          obtain ⟨q, rfl⟩ := Int.eq_ofNat_of_zero_le hr1.1
          have hq : q < g.tn := by omega
          have tq : (q : Int) < (g.tn : Int) := by omega
          have HRK : Hid (ROk g n (q : Int) R k) := Lib.hid (by
            obtain ⟨a, b, c, d⟩ := names_ok HNE.out
            exact ⟨HOK.out, a, b, c, d, Nat.le_trans (inj_le c d) HOK.out.nn⟩)
          clear HNE HY HZ hr1
          obtain ⟨tb, to, htb, hg4, t0, t1, t2, t3⟩ := ((HG1.out.trucks).below B4.out).tk hq
          have zt := szs hg4
          obtain ⟨tk, htk⟩ : ∃ tk, tk = g.T q := ⟨_, rfl⟩
          rw [← htk] at t0 t1 t2 t3
          have HTK : Hid (g.T ((q : Int)).toNat = tk) := Lib.hid (by rw [htk]; rfl)
          clear htk
          rw [htb] at XG HW1 HCC
          have g0 := cell_kept B4.out (cell_at XG.out 0)
          have g1 := cell_kept B4.out (cell_at XG.out 1)
          have g2 := cell_kept B4.out (cell_at XG.out 2)
          have g3 := cell_kept B4.out (cell_at XG.out 3)
          have g4 := cell_kept B4.out (cell_at XG.out 4)
          have r0 := cell_kept B4.out (cell_at XR.out 0)
          have r1 := cell_kept B4.out (cell_at XR.out 1)
          try dsimp only at g0 g1 g2 g3 g4 r0 r1
          have zg := szs (cell_lt g0)
          have zr := szs (cell_lt r0)
          dsimp only at zg zr
          go_wp2_with fail
          (refine region_order (fun i : Nat => World.drewN _ i) [] [0, 1, 2, 3, 4, 5, 6, 7] 8 [9] mixed (by kernel_rfl) ⟨1, rfl⟩ ?_; simp only [List.map_cons, List.map_nil, Array.getD_eq_getD_getElem?, List.getElem?_toArray, List.getElem?_cons_zero, List.getElem?_cons_succ, Option.getD_some]; (repeat (refine wpPure_cons _ rfl (fun w' => by go_simp; try rfl) ?_; dsimp only [Act.put])); refine wpPure_nil ?_; (repeat (any_goals (first | go_big_quiet_step (fail) | quiet_step (fail) | (refine wpQuiet_step (fun K hK => ?_); go_simp; split <;> (refine hK _ ?_; clear hK K))))); (all_goals (refine wpQuiet_nil (fun nq => ?_))))
          have b5 : Below w4.heap.size w4 (w4.drewN nq) := below_drewN (Below.refl _ _) nq
          have B5 := Lib.hid (B4.out.trans (b5.mono B4.out.size))
          clear g0 g1 g2 g3 g4 r0 r1 zg zr
          clear t0 t1 t2 t3 zt b5 B4
          generalize w4.drewN nq = w5 at *
          go_wp2_with fail
          refine onlyN_intro ?_
          go_wp2_with fail
          have T6 := al_at w5 (.cells (tourC g tk ⟨0, 0, 0, 0⟩) 163) rfl
          have B6 := Lib.hid (B5.out.trans ((Below.refl _ w5).alloc (Nat.le_refl _) (.cells (tourC g tk ⟨0, 0, 0, 0⟩) 163) |>.mono B5.out.size))
          have HTC : Hid (∀ s : St4, tourC g tk s = #[.int .i64 tk.dep, .int .i64 tk.cap, .int .i64 tk.frm, .int .i64 tk.til, .int .i64 g.N, .slice g.ea g.em g.ec, .slice (some ⟨tb, to, none⟩) g.tn g.tc, .slice g.na g.nn g.nc, .int .i64 g.h, .int .i64 s.at', .int .i64 s.now, .int .i64 s.load, .int .i64 s.drv]) := Lib.hid (fun s => by unfold tourC; rw [htb])
          rw [HTC.out] at T6 B6
          dsimp only at T6 B6
          generalize hw6 : World.alloc w5 _ = w6 at *
          have HWB : Hid (w1.heap.size ≤ w5.heap.size) := Lib.hid B5.out.size
          generalize w5.heap.size = b at *
          have d0 := cell_at T6 0
          have d1 := cell_at T6 1
          have d2 := cell_at T6 2
          have d3 := cell_at T6 3
          have d4 := cell_at T6 4
          have d5 := cell_at T6 5
          have d6 := cell_at T6 6
          have d7 := cell_at T6 7
          have d8 := cell_at T6 8
          have d9 := cell_at T6 9
          have da := cell_at T6 10
          have db := cell_at T6 11
          have dc := cell_at T6 12
          have dfr := fun j => free_at T6 j
          have zt := szs (block_lt T6)
          go_region
          have hw7 : ((w6.setCell ⟨b, 9, none⟩ (.int .i64 tk.dep)).setCell ⟨b, 10, none⟩ (.int .i64 tk.frm)).heap[b]? = some (.cells (tourC g tk (stK g tk R 0)) 163 (0, 0)) := by
            have hl := block_lt T6
            rw [setCell_at T6, setAt_setCell hl, setAt_same hl, HTC.out]
            rfl
          have B7 : Hid (Below w1.heap.size w1 (((w6.setCell ⟨b, 9, none⟩ (.int .i64 tk.dep)).setCell ⟨b, 10, none⟩ (.int .i64 tk.frm)).drew)) := Lib.hid (by
            have o7 : Off (fun q => q = b) w6 ((w6.setCell ⟨b, 9, none⟩ (.int .i64 tk.dep)).setCell ⟨b, 10, none⟩ (.int .i64 tk.frm)) := ((Off.refl (fun q => q = b) w6).setCell (p := ⟨b, 9, none⟩) (fun _ => rfl) _).setCell (p := ⟨b, 10, none⟩) (fun _ => rfl) _
            have h2 := B6.out.trans (o7.toBelow B6.out.size (fun q hq h => by have := HWB.out; omega))
            exact h2.trans ((Below.refl _ _).drew |>.mono h2.size))
          have T7 : Hid ((((w6.setCell ⟨b, 9, none⟩ (.int .i64 tk.dep)).setCell ⟨b, 10, none⟩ (.int .i64 tk.frm)).drew).heap[b]? = some (.cells (tourC g tk (stK g tk R 0)) 163 (0, 0))) := Lib.hid hw7
          clear d0 d1 d2 d3 d4 d5 d6 d7 d8 d9 da db dc dfr zt hw6 hw7 T6 B6 B5
          generalize ((w6.setCell ⟨b, 9, none⟩ (.int .i64 tk.dep)).setCell ⟨b, 10, none⟩ (.int .i64 tk.frm)).drew = w7 at *
          have X7 := (B7.out.block _ (block_lt XR.out)).trans XR.out
          have x1 := cell_at X7 1
          have zx := szs (block_lt X7)
          clear X7 HCC
          rw [HTK.out] at HWK
          go_wp2_with fail
          go_loopw [9, 66] (fun s9 s66 wr => ∃ (i : Nat) (v : Value), s66 = .int .i64 i ∧ i ≤ k ∧ s9 = v ∧ Hid (scan (stepK g tk R) i = 0) ∧ Hid (wr.heap[b]? = some (.cells (tourC g tk (stK g tk R i)) 163 (0, 0))) ∧ Hid (ViRow wr (b + 1) v i (visK g tk R)) ∧ Hid (Below w1.heap.size w1 wr)) (fun _ s66 _ => k - (intOf s66).toNat)
          case atStart => exact ⟨0, _, rfl, by omega, rfl, Lib.hid rfl, T7, Lib.hid (vi_none _ _ _), B7⟩
          case round =>
            obtain ⟨i, v, rfl, hi, rfl, hsc, hto, hvr, hbw⟩ := hrel
            have SC := hsc
            have TO := hto
            have VR := hvr
            have BW := hbw
            clear hsc hto hvr hbw T7 B7 x1 zx
            by_cases hlt : i < k
            · have ti : (i : Int) < (k : Int) := by omega
              obtain ⟨ra1, ra2, rfl, hg5, e0⟩ := (HR.out.below BW.out).num hlt
              have z5 := szs hg5
              have hRi := HRK.out.needs i hlt
              have HRi := Lib.hid hRi
              have VS := visit119 g n tk (stK g tk R i) (R i) b wr HOK.out HRO.out (HG1.out.below BW.out) (by have := HRK.out.small (i := i) (by omega); rw [HTK.out] at this; exact this) (by have := HRK.out.tk; rw [HTK.out] at this; exact this.2.1) hRi TO.out (fun a ha => by
                have h1 := HWB.out
                have h2 := BB.out.size
                rcases HNA.out a ha with h | h
                · omega
                · exfalso; have := HRi.out; omega)
              unfold Visit at VS
              rw [stK_err, stK_next, stK_vis] at VS
              have HHIT := Lib.hid (fun (hx : stepK g tk R i ≠ 0) => scan_hit (f := stepK g tk R) SC.out hx hlt)
              have HNXT := Lib.hid (fun (hx : stepK g tk R i = 0) => scan_next (f := stepK g tk R) SC.out hx)
              generalize hy : stepK g tk R i = y at *
              generalize hv : visK g tk R i = vi at *
              have HVI := Lib.hid hv
              generalize hRR : R i = ri at *
              obtain ⟨v1, v2, v3, v4⟩ := vi
              unfold viC at VS
              dsimp only at VS
              replace VS := Lib.hid VS
              clear hy hv hRi hRR
              go_wp2_with fail
              refine VS.out.mono ?_
              rintro e w8 ⟨o8, ⟨hy0, rfl⟩ | ⟨rfl, rfl, hT8⟩⟩
              · have ty : (y != 0) = true := by simpa using hy0
                have HW : Hid (walkE g (q : Int) R k = y) := Lib.hid (by rw [HWK.out, if_pos (by rw [HHIT.out hy0]; exact hy0), HHIT.out hy0])
                have HY0 := Lib.hid hy0
                have B8 := Lib.hid (BW.out.trans (o8.toBelow BW.out.size (fun q hq h => by have := HWB.out; omega)))
                clear VS hy0 o8 HHIT HNXT
                have BA : Hid (Below w1.heap.size w1 (w8.alloc (.cells #[.int .i64 0, .int .i64 0, .int .i64 0, .int .i64 0] 92))) := Lib.hid (B8.out.alloc B8.out.size _)
                go_wp2_with fail
                go_returns
                exact ⟨BB.out.trans (BA.out.mono BB.out.size), .inl ⟨by rw [HW.out]; exact HY0.out, by rw [HW.out]; rfl⟩⟩
              · have B8 := Lib.hid (BW.out.trans (o8.toBelow BW.out.size (fun q hq h => by have := HWB.out; omega)))
                have VR8 := Lib.hid (Row.off VR.out o8 (fun gg hgg h => by have := (World.ownsRow.lt VR.out gg hgg).1; have h : gg = b := h; omega))
                have TO8 := Lib.hid hT8
                have hbs := block_lt hT8
                have hb1 := al_at (w8.alloc (.cells #[.int .i64 v1, .int .i64 v2, .int .i64 v3, .int .i64 v4] 92)) (.cells #[.int .i64 v1, .int .i64 v2, .int .i64 v3, .int .i64 v4] 92) (k := w8.heap.size + 1) (by simp)
                have HB1 := Lib.hid hb1
                have BA : Hid (Below w8.heap.size w8 ((w8.alloc (.cells #[.int .i64 v1, .int .i64 v2, .int .i64 v3, .int .i64 v4] 92)).alloc (.cells #[.int .i64 v1, .int .i64 v2, .int .i64 v3, .int .i64 v4] 92))) := Lib.hid (by (repeat' (first | (with_reducible exact Below.refl _ _) | (with_reducible assumption) | (with_reducible refine Below.drew ?_) | (with_reducible refine below_drewN ?_ _) | (with_reducible refine Below.alloc ?_ ?_ _) | (with_reducible refine Below.setCell ?_ ?_ _) | go_size)))
                have hle : b + 1 ≤ ((w8.alloc (.cells #[.int .i64 v1, .int .i64 v2, .int .i64 v3, .int .i64 v4] 92)).alloc (.cells #[.int .i64 v1, .int .i64 v2, .int .i64 v3, .int .i64 v4] 92)).heap.size := Nat.le_trans hbs BA.out.size
                clear hT8 o8 hb1 VS HHIT VR TO BW
                go_wp2_with (at_builtin; go_loud (refine wpList_append_Vi _ rfl (.tmp 79) (.tmp 81) rfl (b + 1) _ i (visK g tk R) rfl (Row.off (X := fun _ => False) VR8.out (Off.of_below BA.out) (fun _ _ h => h)) (w8.heap.size + 1) ⟨v1, v2, v3, v4⟩ rfl 92 (0, 0) HB1.out (by omega) hle ?_))
                intro v' w9 r9 o9
                have B9 : Hid (Below w1.heap.size w1 w9) := Lib.hid ((B8.out.trans (BA.out.mono B8.out.size)).trans (o9.toBelow (Nat.le_trans B8.out.size BA.out.size) (fun q hq h => by have := HWB.out; have h : b + 1 ≤ q := h; omega)))
                have TO9 : Hid (w9.heap[b]? = some (.cells (tourC g tk (stK g tk R (i + 1))) 163 (0, 0))) := Lib.hid ((o9.block _ (block_lt ((BA.out.block _ hbs).trans TO8.out)) (fun h => by have h : b + 1 ≤ b := h; omega)).trans ((BA.out.block _ hbs).trans TO8.out))
                have VR9 : Hid (ViRow w9 (b + 1) v' (i + 1) (visK g tk R)) := Lib.hid (by
                  rw [show visK g tk R = upd (visK g tk R) i ⟨v1, v2, v3, v4⟩ from by
                    funext j
                    by_cases e : j = i
                    · subst e; rw [upd_same, HVI.out]
                    · rw [upd_ne e]]
                  exact r9)
                have HSN := Lib.hid (HNXT.out trivial)
                clear r9 o9 HNXT hle hbs
                go_wp2_with fail
                go_roundw
                case rel => exact ⟨i + 1, v', by go_num, by omega, rfl, HSN, TO9, VR9, B9⟩
                case measure => simp [intOf]; omega
            · obtain rfl : i = k := by omega
              have HM := home120 g n tk (stK g tk R i) b wr HOK.out HRO.out (HG1.out.below BW.out) (by have := HRK.out.small (i := i) (by omega); rw [HTK.out] at this; exact this) (by have := HRK.out.tk; rw [HTK.out] at this; exact this.1)
                (by have := HRK.out.loadh (by rw [HTK.out]; exact fun j hj => scan_zero SC.out j hj); rw [HTK.out] at this; exact this) TO.out
              rw [stK_home] at HM
              rw [if_neg (by rw [SC.out]; simp)] at HWK
              have HFT : Hid (tourC g (g.T ((q : Int)).toNat) (homeS g (g.T ((q : Int)).toNat) (stK g (g.T ((q : Int)).toNat) R i)) = tourC g tk (homeS g tk (stK g tk R i))) := Lib.hid (by rw [HTK.out])
              have HFV : Hid (visK g (g.T ((q : Int)).toNat) R = visK g tk R) := Lib.hid (by rw [HTK.out])
              generalize hy : homeK g tk R i = y at *
              replace HM := Lib.hid HM
              clear hy
              go_wp2_with fail
              refine HM.out.mono ?_
              rintro e w8 ⟨rfl, o8, hT8⟩
              have B8 := Lib.hid (BW.out.trans (o8.toBelow BW.out.size (fun q hq h => by have := HWB.out; omega)))
              have VR8 := Lib.hid (Row.off VR.out o8 (fun gg hgg h => by have := (World.ownsRow.lt VR.out gg hgg).1; have h : gg = b := h; omega))
              have TO8 := Lib.hid hT8
              clear HM o8 hT8 TO VR BW
              by_cases hy0 : y = 0
              · subst hy0
                go_wp2_with fail
                go_returns
                refine ⟨BB.out.trans (B8.out.mono BB.out.size), .inr ⟨HWK.out, b, _, rfl, ?_, ?_⟩⟩
                · rw [HFT.out]; exact TO8.out trivial
                · rw [HFV.out]; exact Row.base_mono VR8.out (by have := HWB.out; have := BB.out.size; omega)
              · have ty : (y != 0) = true := by simpa using hy0
                have HY0 := Lib.hid hy0
                clear hy0 TO8
                go_wp2_with fail
                go_returns
                exact ⟨BB.out.trans (B8.out.mono BB.out.size), .inl ⟨by rw [HWK.out]; exact HY0.out, by rw [HWK.out]; rfl⟩⟩
    · have q1 : inB r 0 ((g.tn : Int) - 1) = false := by
        cases hh : inB r 0 ((g.tn : Int) - 1)
        · rfl
        · have := inB_iff.1 hh; exact absurd ⟨this.1, by omega⟩ hr1
      rw [q1]
      have HW : Hid (walkE g r R k = 7) := Lib.hid (by
        have : namesE g r R k = 7 := by unfold namesE; rw [if_pos (by omega)]
        unfold walkE; rw [if_neg (by rw [← HX.out]; simp), if_pos (by rw [this]; simp), this])
      go_wp2_with fail
      go_returns
      exact ⟨BB.out.trans (B2.out.mono BB.out.size), .inl ⟨by rw [HW.out]; simp, by rw [HW.out]; rfl⟩⟩
  · have tx : (x != 0) = true := by simpa using h0
    have HW : Hid (walkE g r R k = x) := Lib.hid (by unfold walkE; rw [if_pos (by rw [← HX.out]; exact h0)]; exact HX.out.symm)
    go_wp2_with fail
    go_returns
    exact ⟨BB.out.trans (B2.out.mono BB.out.size), .inl ⟨by rw [HW.out]; exact h0, by rw [HW.out]; rfl⟩⟩
end Go.Proofs.Ytlnfhlmgnppcbaa
