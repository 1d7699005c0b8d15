/- Trucks: a truck on its way drives to a node. -/
import Derived.Test.YtlnfhlmgnppcbaaTK1
import Derived.Test.YtlnfhlmgnppcbaaR8T3
import Derived.BigQuiet
namespace Go.Proofs.Ytlnfhlmgnppcbaa
open Go.RowKit Go.ChangeShapes Go.WideShapes Go.Deep
set_option linter.unusedVariables false
set_option linter.unusedSimpArgs false
set_option maxRecDepth 8000
open Rd
/-- A truck under way: where, when, with what load, after how many seconds of driving. -/
structure St4 where
  at' : Int
  now : Int
  load : Int
  drv : Int
def tourC (g : Ng) (t : Tk) (s : St4) : Array Value :=
  #[.int .i64 t.dep, .int .i64 t.cap, .int .i64 t.frm, .int .i64 t.til, .int .i64 g.N, .slice g.ea g.em g.ec, .slice g.ta g.tn g.tc, .slice g.na g.nn g.nc, .int .i64 g.h, .int .i64 s.at', .int .i64 s.now, .int .i64 s.load, .int .i64 s.drv]
/-- The numbers are small. -/
structure St4.Small (s : St4) (n : Nat) : Prop where
  at' : 0 ≤ s.at' ∧ s.at' < n
  now : -1000 ≤ s.now ∧ s.now ≤ 10000000
  load : -1000 ≤ s.load ∧ s.load ≤ 1000
  drv : -1000 ≤ s.drv ∧ s.drv ≤ 10000000
noncomputable def driveS (g : Ng) (s : St4) (v : Int) : St4 := if g.S s.at' v < 0 then s else ⟨v, s.now + g.S s.at' v, s.load, s.drv + g.S s.at' v⟩
noncomputable def driveE (g : Ng) (s : St4) (v : Int) : Int := if g.S s.at' v < 0 then 15 else 0
theorem times_ok {g : Ng} {n : Nat} (h : NOk g n) (hr : roadE g.N g.em g.E = 0) (w : World) (hg : Net w g.ea g.em g.ec g.E) {a : Int} (ha : 0 ≤ a ∧ a < n) :
    Calls Try.prog 103 #[.agg #[.int .i64 g.N, .slice g.ea g.em g.ec], .int .i64 a] w fun e w' => ∃ b, e = .returned (.tuple #[.slice (some ⟨b, 0, none⟩) n n, .int .i64 0]) ∧ Nums w' w.heap.size b n (g.S a) ∧ Below w.heap.size w w' := by
  refine (times103 g.N g.ea g.em g.ec g.E a w hg).mono ?_
  rintro e w' ⟨hb, ⟨h1, _⟩ | ⟨_, h2, _⟩ | ⟨n', s, b, _, hn, hs, hsn, hR, he, hN⟩⟩
  · exact absurd hr h1
  · exfalso
    have : nodeB g.N a = true := nodeB_iff.2 (by rw [h.hN]; exact ha)
    rw [h2] at this; cases this
  · have h3 := h.hN
    rw [hn] at h3
    obtain rfl : n' = n := by omega
    refine ⟨b, he, ?_, hb⟩
    have e1 : g.S a = sec (gr Ed.frm Ed.til n' g.em g.E) a := by
      funext v
      unfold Ng.S
      rw [hn, Int.toNat_natCast]
    rw [e1]; first | exact hN | (rw [hs]; exact hN)
set_option maxHeartbeats 16000000 in
theorem drive133 (g : Ng) (n : Nat) (t : Tk) (s : St4) (v : Int) (b : Nat) (w : World) (h : NOk g n) (hr : roadE g.N g.em g.E = 0) (hg : g.In w) (hs : s.Small n) (hv : 0 ≤ v ∧ v < n) (hb : w.heap[b]? = some (.cells (tourC g t s) 163 (0, 0))) :
    Calls Try.prog 133 #[.pointer (some ⟨b, 0, none⟩), .int .i64 v] w fun e w' => e = .returned (.int .i64 (driveE g s v)) ∧ w'.heap[b]? = some (.cells (tourC g t (driveS g s v)) 163 (0, 0)) ∧ Off (fun q => q = b) w w' := by
  have TM := Lib.hid (fun (w' : World) (bb : Below w.heap.size w w') => times_ok h hr w' (hg.below bb).net hs.at')
  have hS := h.S_bd hs.at' v
  have HDE : Hid (driveE g s v = if g.S s.at' v < 0 then 15 else 0) := Lib.hid rfl
  have HDS : Hid (driveS g s v = if g.S s.at' v < 0 then s else ⟨v, s.now + g.S s.at' v, s.load, s.drv + g.S s.at' v⟩) := Lib.hid rfl
  obtain ⟨h1, h2⟩ := hs.now
  obtain ⟨h3, h4⟩ := hs.drv
  obtain ⟨y, hy⟩ : ∃ y, y = g.S s.at' v := ⟨_, rfl⟩
  rw [← hy] at hS HDE HDS
  have HY := Lib.hid hy
  obtain ⟨v, rfl⟩ := Int.eq_ofNat_of_zero_le hv.1
  have hvn : v < n := by omega
  have tvn : (v : Int) < (n : Int) := by omega
  have hn64 := h.right.n2
  obtain ⟨E1, hE1⟩ : ∃ E1, E1 = driveE g s v := ⟨_, rfl⟩
  obtain ⟨S1, hS1⟩ : ∃ S1, S1 = driveS g s v := ⟨_, rfl⟩
  rw [← hE1] at HDE ⊢
  rw [← hS1] at HDS ⊢
  obtain ⟨fn, hfn⟩ : ∃ fn, fn = g.S s.at' := ⟨_, rfl⟩
  rw [← hfn] at TM
  have HFN : Hid (y = fn v) := Lib.hid (by rw [HY.out, hfn])
  have HBX := Lib.hid hb
  have hlt := block_lt hb
  unfold tourC at hb
  have c0 := cell_at hb 0
  have c1 := cell_at hb 1
  have c2 := cell_at hb 2
  have c3 := cell_at hb 3
  have c4 := cell_at hb 4
  have c5 := cell_at hb 5
  have c6 := cell_at hb 6
  have c7 := cell_at hb 7
  have c8 := cell_at hb 8
  have c9 := cell_at hb 9
  have ca := cell_at hb 10
  have cb := cell_at hb 11
  have cc := cell_at hb 12
  have zb := szs (block_lt hb)
  clear h hr hg hs hv hb hy hE1 hS1 hfn HY
  go_enter Try.func133, Try.ntmps133
  go_wp2_with fail
  (refine region_order (fun i : Nat => World.drewN _ i) [] [0, 1, 2, 3, 4, 5, 6, 7, 8] 9 [10, 11, 12, 13, 14] mixed (by kernel_rfl) ⟨1, rfl⟩ ?_; simp only [List.map_cons, List.map_nil, Array.getD_eq_getD_getElem?, List.getElem?_toArray, List.getElem?_cons_zero, List.getElem?_cons_succ, Option.getD_some]; (repeat (refine wpPure_cons _ rfl (fun w' => by go_simp; try rfl) ?_; dsimp only [Act.put])); refine wpPure_nil ?_; (repeat (any_goals (first | go_big_quiet_step (fail) | quiet_step (fail) | (refine wpQuiet_step (fun K hK => ?_); go_simp; split <;> (refine hK _ ?_; clear hK K))))); (all_goals (refine wpQuiet_nil (fun nq => ?_))))
  go_wp2_with fail
  have b1 : Below w.heap.size w (w.drewN nq) := below_drewN (Below.refl _ _) nq
  refine (TM.out _ b1).mono ?_
  rintro e w2 ⟨q, rfl, hN, b2⟩
  have B2 := Lib.hid (b1.trans (b2.mono b1.size))
  have tc := hN.cell hvn
  rw [← HFN.out] at tc
  have ht := hN.lt
  have HQB : Hid (b < w2.heap.size) := Lib.hid (Nat.lt_of_lt_of_le hlt B2.out.size)
  have HB2 := Lib.hid ((B2.out.block _ hlt).trans HBX.out)
  have HTC := Lib.hid (And.intro tc (And.intro ht.2 HB2.out))
  have hX := HB2.out
  unfold tourC at hX
  have d9 := cell_at hX 9
  have dfr := fun j => free_at hX j
  have zq := szs ht.2
  have zb2 := szs (block_lt hX)
  have HQ1 : q ≠ b := by have := ht.1; have := b1.size; omega
  have HQ2 : b ≠ q := fun e => HQ1 e.symm
  clear b1 b2 hN TM ht HFN hX c0 c1 c2 c3 c4 c5 c6 c7 c8 c9 ca cb cc zb
  by_cases hy0 : y < 0
  · have t0 := hy0
    rw [if_pos hy0] at HDE HDS
    go_wp2_with fail
    refine onlyN_intro ?_
    go_wp2_with fail
    go_returns
    exact ⟨by rw [HDE.out]; rfl, by rw [HDS.out]; exact HB2.out, Off.of_below B2.out⟩
  · have t0 : decide (y < 0) = false := decide_eq_false hy0
    have ty : 0 ≤ y := by omega
    rw [if_neg hy0] at HDE HDS
    go_wp2_with fail
    refine onlyN_intro ?_
    go_wp2_with fail
    have X3 : (w2.setCell ⟨b, 9, none⟩ (.int .i64 v)).heap[b]? = some (.cells (tourC g t ⟨v, s.now, s.load, s.drv⟩) 163 (0, 0)) := by
      rw [setCell_at HB2.out, setAt_same HQB.out]; rfl
    have o3 : Off (fun q => q = b) w2 (w2.setCell ⟨b, 9, none⟩ (.int .i64 v)) := (Off.refl (fun q => q = b) w2).setCell (p := ⟨b, 9, none⟩) (fun _ => rfl) _
    have tc3 := o3.cell tc HQ1
    have HO3 := Lib.hid ((Off.of_below (X := fun q => q = b) B2.out).same o3)
    have HX3 := Lib.hid X3
    unfold tourC at X3
    dsimp only at X3
    have da := cell_at X3 10
    have zb3 := szs (block_lt X3)
    have zq3 := szs (cell_lt tc3)
    dsimp only at zq3
    clear dfr d9 tc zq zb2 o3 X3
    generalize w2.setCell ⟨b, 9, none⟩ (.int .i64 v) = w3 at *
    (refine region_order (fun i : Nat => World.drewN _ i) [] [0, 1, 2, 3, 4, 5, 6, 7, 8, 9, 10] 11 [] mixed (by kernel_rfl) ⟨1, rfl⟩ ?_; simp only [List.map_cons, List.map_nil, Array.getD_eq_getD_getElem?, List.getElem?_toArray, List.getElem?_cons_zero, List.getElem?_cons_succ, Option.getD_some]; (repeat (refine wpPure_cons _ rfl (fun w' => by go_simp; try rfl) ?_; dsimp only [Act.put])); refine wpPure_nil ?_; (repeat (any_goals (first | go_big_quiet_step (fail) | quiet_step (fail) | (refine wpQuiet_step (fun K hK => ?_); go_simp; split <;> (refine hK _ ?_; clear hK K))))); (all_goals (refine wpQuiet_nil (fun nq => ?_))))
    have b3 : Below w3.heap.size w3 (w3.drewN nq) := below_drewN (Below.refl _ _) nq
    have tc4 := cell_kept b3 tc3
    have X4 := (b3.block _ (block_lt HX3.out)).trans HX3.out
    have HO4 := Lib.hid (HO3.out.trans (Y := fun _ => False) (Off.of_below b3) (fun _ _ h => h.elim))
    have HX4 := Lib.hid X4
    have fr4 := fun j => free_at X4 j
    unfold tourC at X4
    dsimp only at X4
    have da4 := cell_at X4 10
    have zb4 := szs (block_lt X4)
    clear tc3 da zb3 zq3 X4 b3 HX3 HO3
    generalize w3.drewN nq = w4 at *
    go_wp2_with fail
    refine onlyN_intro ?_
    go_wp2_with fail
    have X5 : (w4.setCell ⟨b, 10, none⟩ (.int .i64 (s.now + y))).heap[b]? = some (.cells (tourC g t ⟨v, s.now + y, s.load, s.drv⟩) 163 (0, 0)) := by
      rw [setCell_at HX4.out, setAt_same (block_lt HX4.out)]; rfl
    have o5 : Off (fun q => q = b) w4 (w4.setCell ⟨b, 10, none⟩ (.int .i64 (s.now + y))) := (Off.refl (fun q => q = b) w4).setCell (p := ⟨b, 10, none⟩) (fun _ => rfl) _
    have tc5 := o5.cell tc4 HQ1
    have HO5 := Lib.hid (HO4.out.same o5)
    have HX5 := Lib.hid X5
    unfold tourC at X5
    dsimp only at X5
    have dc := cell_at X5 12
    have zb5 := szs (block_lt X5)
    have zq5 := szs (cell_lt tc5)
    dsimp only at zq5
    clear fr4 da4 tc4 zb4 o5 X5 HX4 HO4
    generalize w4.setCell ⟨b, 10, none⟩ (.int .i64 (s.now + y)) = w5 at *
    (refine region_order (fun i : Nat => World.drewN _ i) [] [0, 1, 2, 3, 4, 5, 6, 7, 8, 9, 10] 11 [] mixed (by kernel_rfl) ⟨1, rfl⟩ ?_; simp only [List.map_cons, List.map_nil, Array.getD_eq_getD_getElem?, List.getElem?_toArray, List.getElem?_cons_zero, List.getElem?_cons_succ, Option.getD_some]; (repeat (refine wpPure_cons _ rfl (fun w' => by go_simp; try rfl) ?_; dsimp only [Act.put])); refine wpPure_nil ?_; (repeat (any_goals (first | go_big_quiet_step (fail) | quiet_step (fail) | (refine wpQuiet_step (fun K hK => ?_); go_simp; split <;> (refine hK _ ?_; clear hK K))))); (all_goals (refine wpQuiet_nil (fun nq => ?_))))
    have b5 : Below w5.heap.size w5 (w5.drewN nq) := below_drewN (Below.refl _ _) nq
    have X6 := (b5.block _ (block_lt HX5.out)).trans HX5.out
    have HO6 := Lib.hid (HO5.out.trans (Y := fun _ => False) (Off.of_below b5) (fun _ _ h => h.elim))
    have HX6 := Lib.hid X6
    have fr6 := fun j => free_at X6 j
    unfold tourC at X6
    dsimp only at X6
    have dc6 := cell_at X6 12
    have zb6 := szs (block_lt X6)
    clear tc5 dc zb5 zq5 X6 b5 HX5 HO5
    generalize w5.drewN nq = w6 at *
    go_wp2_with fail
    refine onlyN_intro ?_
    go_wp2_with fail
    go_returns
    have X7 : (w6.setCell ⟨b, 12, none⟩ (.int .i64 (s.drv + y))).heap[b]? = some (.cells (tourC g t ⟨v, s.now + y, s.load, s.drv + y⟩) 163 (0, 0)) := by
      rw [setCell_at HX6.out, setAt_same (block_lt HX6.out)]; rfl
    have o7 : Off (fun q => q = b) w6 (w6.setCell ⟨b, 12, none⟩ (.int .i64 (s.drv + y))) := (Off.refl (fun q => q = b) w6).setCell (p := ⟨b, 12, none⟩) (fun _ => rfl) _
    exact ⟨by rw [HDE.out]; rfl, by rw [HDS.out]; exact X7, HO6.out.same o7⟩
end Go.Proofs.Ytlnfhlmgnppcbaa
