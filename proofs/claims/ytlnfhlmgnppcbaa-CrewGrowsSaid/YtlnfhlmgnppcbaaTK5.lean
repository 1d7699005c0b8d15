/- Trucks: a truck serves a need. -/
import Derived.Test.YtlnfhlmgnppcbaaTK4
import Derived.BigQuiet
import Derived.BigRegion
namespace Go.Proofs.Ytlnfhlmgnppcbaa
open Go.RowKit Go.ChangeShapes Go.WideShapes Go.Deep
set_option linter.unusedVariables false
set_option linter.unusedSimpArgs false
set_option maxRecDepth 8000
open Rd
noncomputable def visitE (g : Ng) (t : Tk) (s : St4) (i : Int) : Int :=
  if g.S s.at' (g.nd i).node < 0 then 15 else if s.load + (g.nd i).mv < 0 ∨ t.cap < s.load + (g.nd i).mv then 24 else 0
noncomputable def visitS (g : Ng) (s : St4) (i : Int) : St4 := ⟨(g.nd i).node, s.now + g.S s.at' (g.nd i).node + g.work i, s.load + (g.nd i).mv, s.drv + g.S s.at' (g.nd i).node⟩
noncomputable def visitV (g : Ng) (s : St4) (i : Int) : Vi := ⟨i, s.now + g.S s.at' (g.nd i).node, s.now + g.S s.at' (g.nd i).node + g.work i, s.load + (g.nd i).mv⟩
def viC (x : Vi) : Array Value := #[.int .i64 x.need, .int .i64 x.arr, .int .i64 x.lea, .int .i64 x.load]
/-- What a visit leaves. -/
def Visit (g : Ng) (t : Tk) (s : St4) (i : Int) (b : Nat) (w : World) (e : Ending) (w' : World) : Prop :=
  Off (fun q => q = b) w w' ∧ ((visitE g t s i ≠ 0 ∧ e = .returned (.tuple #[.agg #[.int .i64 0, .int .i64 0, .int .i64 0, .int .i64 0], .int .i64 (visitE g t s i)])) ∨
    (visitE g t s i = 0 ∧ e = .returned (.tuple #[.agg (viC (visitV g s i)), .int .i64 0]) ∧ w'.heap[b]? = some (.cells (tourC g t (visitS g s i)) 163 (0, 0))))
theorem NOk.work {g : Ng} {n : Nat} (h : NOk g n) {i : Int} (hi : 0 ≤ i ∧ i < g.nn) : 0 ≤ g.work i ∧ g.work i ≤ 115200 := by
  have := h.D i.toNat (by omega)
  have h0 := h.h0
  have h1 := h.h1
  unfold Ng.work Ng.nd
  have m0 : 0 ≤ max (g.D i.toNat).mv (-(g.D i.toNat).mv) := by omega
  have m1 : max (g.D i.toNat).mv (-(g.D i.toNat).mv) ≤ 32 := by omega
  refine ⟨Int.mul_nonneg m0 h0, ?_⟩
  have := Int.mul_le_mul m1 h1 h0 (by decide)
  omega
theorem put4 {w : World} {r : Nat} {a0 a1 a2 a3 : Value} {T : TypeId} (h : w.heap[r]? = some (.cells #[a0, a1, a2, a3] T (0, 0))) (v0 v1 v2 v3 : Value) : ((((w.setCell ⟨r, 0, none⟩ v0).setCell ⟨r, 1, none⟩ v1).setCell ⟨r, 2, none⟩ v2).setCell ⟨r, 3, none⟩ v3).heap[r]? = some (.cells #[v0, v1, v2, v3] T (0, 0)) := by
  have hl := block_lt h
  rw [setCell_at h, setAt_setCell hl, setAt_setCell hl, setAt_setCell hl, setAt_same hl]
  rfl
theorem off4 (w : World) (r : Nat) (v0 v1 v2 v3 : Value) : Off (fun q => q = r) w ((((w.setCell ⟨r, 0, none⟩ v0).setCell ⟨r, 1, none⟩ v1).setCell ⟨r, 2, none⟩ v2).setCell ⟨r, 3, none⟩ v3) :=
  (((((Off.refl (fun q => q = r) w).setCell (p := ⟨r, 0, none⟩) (fun _ => rfl) _).setCell (p := ⟨r, 1, none⟩) (fun _ => rfl) _).setCell (p := ⟨r, 2, none⟩) (fun _ => rfl) _).setCell (p := ⟨r, 3, none⟩) (fun _ => rfl) _)
theorem two_set {w : World} {r : Nat} {a0 a1 a2 a3 : Value} {T : TypeId} (h : w.heap[r]? = some (.cells #[a0, a1, a2, a3] T (0, 0))) (v2 v3 : Value) : ((w.setCell ⟨r, 2, none⟩ v2).setCell ⟨r, 3, none⟩ v3).heap[r]? = some (.cells #[a0, a1, v2, v3] T (0, 0)) := by
  have hl := block_lt h
  rw [setCell_at h, setAt_setCell hl, setAt_same hl]
  rfl
set_option maxHeartbeats 16000000 in
theorem visit119 (g : Ng) (n : Nat) (t : Tk) (s : St4) (i : Int) (b : Nat) (w : World) (h : NOk g n) (hr : roadE g.N g.em g.E = 0) (hg : g.In w) (hs : s.Small n) (hc : 1 ≤ t.cap ∧ t.cap ≤ 32) (hi : 0 ≤ i ∧ i < g.nn) (hb : w.heap[b]? = some (.cells (tourC g t s) 163 (0, 0)))
    (hnb : ∀ a, g.na = some a → a.block ≠ b) :
    Calls Try.prog 119 #[.pointer (some ⟨b, 0, none⟩), .int .i64 i] w (Visit g t s i b w) := by
  obtain ⟨i, rfl⟩ := Int.eq_ofNat_of_zero_le hi.1
  have hin : i < g.nn := by omega
  have tin : (i : Int) < (g.nn : Int) := by omega
  have hw := h.work hi
  have hD := h.D i hin
  have e1 : g.nd (i : Int) = g.D i := by unfold Ng.nd; rw [Int.toNat_natCast]
  have HVE : Hid (visitE g t s i = if g.S s.at' (g.D i).node < 0 then 15 else if s.load + (g.D i).mv < 0 ∨ t.cap < s.load + (g.D i).mv then 24 else 0) := Lib.hid (by unfold visitE; rw [e1])
  have HVS : Hid (visitS g s i = ⟨(g.D i).node, s.now + g.S s.at' (g.D i).node + g.work i, s.load + (g.D i).mv, s.drv + g.S s.at' (g.D i).node⟩) := Lib.hid (by unfold visitS; rw [e1])
  have HVV : Hid (visitV g s i = ⟨i, s.now + g.S s.at' (g.D i).node, s.now + g.S s.at' (g.D i).node + g.work i, s.load + (g.D i).mv⟩) := Lib.hid (by unfold visitV; rw [e1])
  have HWK : Hid (g.work i = max (g.D i).mv (-(g.D i).mv) * g.h) := Lib.hid (by unfold Ng.work; rw [e1])
  have DR := Lib.hid (fun (w' : World) (bb : Below w.heap.size w w') => drive133 g n t s (g.D i).node b w' h hr (hg.below bb) hs hD.1 ((bb.block _ (block_lt hb)).trans hb))
  have hS := h.S_bd hs.at' (g.D i).node
  have HDE : Hid (driveE g s (g.D i).node = if g.S s.at' (g.D i).node < 0 then 15 else 0) := Lib.hid rfl
  have HDS : Hid (driveS g s (g.D i).node = if g.S s.at' (g.D i).node < 0 then s else ⟨(g.D i).node, s.now + g.S s.at' (g.D i).node, s.load, s.drv + g.S s.at' (g.D i).node⟩) := Lib.hid rfl
  have IN := Lib.hid (fun n lo hi w' => in115 n lo hi w')
  obtain ⟨q, o, hna, hq, p0, p1⟩ := hg.needs.nd hin
  have zq := szs hq
  have hqb : ¬ q = b := hnb _ hna
  have hnm := hg.needs.hm
  have hnc := hg.needs.hc
  obtain ⟨h1, h2⟩ := hs.now
  obtain ⟨h3, h4⟩ := hs.drv
  obtain ⟨h5, h6⟩ := hs.load
  obtain ⟨hd1, hd2, hd3, hd4⟩ := hD
  have HH := Lib.hid (And.intro h.h0 h.h1)
  obtain ⟨y, hy⟩ : ∃ y, y = g.S s.at' (g.D i).node := ⟨_, rfl⟩
  rw [← hy] at hS HDE HDS HVE HVS HVV
  obtain ⟨wk, hwk⟩ : ∃ wk, wk = g.work i := ⟨_, rfl⟩
  rw [← hwk] at HVS HVV hw HWK
  generalize hx : g.D i = x at *
  obtain ⟨nd, mv⟩ := x
  dsimp only at p0 p1 hd1 hd2 hd3 hd4 HDE HDS HVE HVS HVV DR HWK
  have HBX := Lib.hid hb
  have hlt := block_lt hb
  have HNA := Lib.hid hna
  unfold tourC at hb
  rw [hna] at hb
  have c0 := cell_at hb 0
  have c1 := cell_at hb 1
  have c2 := cell_at hb 2
  have c3 := cell_at hb 3
  have c4 := cell_at hb 4
  have c5 := cell_at hb 5
  have c6 := cell_at hb 6
  have c7 := cell_at hb 7
  have c8 := cell_at hb 8
  have c9 := cell_at hb 9
  have ca := cell_at hb 10
  have cb := cell_at hb 11
  have cc := cell_at hb 12
  have zb := szs (block_lt hb)
  clear h hr hg hs hi hin hb hy hwk e1 hx hnb
  go_enter Try.func119, Try.ntmps119
  go_wp2_with fail
  have BA : Hid (Below w.heap.size w ((w.alloc (.cells #[.int .i64 0, .int .i64 0, .int .i64 0, .int .i64 0] 92)).alloc (.cells #[.int .i64 nd, .int .i64 mv] 119))) := Lib.hid (by (repeat' (first | (with_reducible exact Below.refl _ _) | (with_reducible assumption) | (with_reducible refine Below.drew ?_) | (with_reducible refine below_drewN ?_ _) | (with_reducible refine Below.alloc ?_ ?_ _) | (with_reducible refine Below.setCell ?_ ?_ _) | go_size)))
  have RA : Hid (((w.alloc (.cells #[.int .i64 0, .int .i64 0, .int .i64 0, .int .i64 0] 92)).alloc (.cells #[.int .i64 nd, .int .i64 mv] 119)).heap[w.heap.size]? = some (.cells #[.int .i64 0, .int .i64 0, .int .i64 0, .int .i64 0] 92 (0, 0))) := Lib.hid (by
    have h0 := heap_alloc_new w (.cells #[.int .i64 0, .int .i64 0, .int .i64 0, .int .i64 0] 92)
    have bb : Below (w.alloc (.cells #[.int .i64 0, .int .i64 0, .int .i64 0, .int .i64 0] 92)).heap.size (w.alloc (.cells #[.int .i64 0, .int .i64 0, .int .i64 0, .int .i64 0] 92)) ((w.alloc (.cells #[.int .i64 0, .int .i64 0, .int .i64 0, .int .i64 0] 92)).alloc (.cells #[.int .i64 nd, .int .i64 mv] 119)) := by (repeat' (first | (with_reducible exact Below.refl _ _) | (with_reducible assumption) | (with_reducible refine Below.drew ?_) | (with_reducible refine below_drewN ?_ _) | (with_reducible refine Below.alloc ?_ ?_ _) | (with_reducible refine Below.setCell ?_ ?_ _) | go_size))
    exact (bb.block _ (block_lt h0)).trans h0)
  have XA : Hid (((w.alloc (.cells #[.int .i64 0, .int .i64 0, .int .i64 0, .int .i64 0] 92)).alloc (.cells #[.int .i64 nd, .int .i64 mv] 119)).heap[w.heap.size + 1]? = some (.cells #[.int .i64 nd, .int .i64 mv] 119 (0, 0))) := Lib.hid (by
    have h0 := heap_alloc_new (w.alloc (.cells #[.int .i64 0, .int .i64 0, .int .i64 0, .int .i64 0] 92)) (.cells #[.int .i64 nd, .int .i64 mv] 119)
    rwa [show (w.alloc (.cells #[.int .i64 0, .int .i64 0, .int .i64 0, .int .i64 0] 92)).heap.size = w.heap.size + 1 by simp] at h0)
  generalize (World.alloc (World.alloc w _) _) = w1 at *
  refine (DR.out _ BA.out).mono ?_
  rintro e w3 ⟨rfl, hT3, o3⟩
  have HNR : Hid (¬ w.heap.size = b ∧ ¬ w.heap.size + 1 = b) := Lib.hid ⟨by omega, by omega⟩
  have R3 := Lib.hid ((o3.block _ (block_lt RA.out) HNR.out.1).trans RA.out)
  have X3 := Lib.hid ((o3.block _ (block_lt XA.out) HNR.out.2).trans XA.out)
  have O3 := Lib.hid ((Off.of_below (X := fun q => q = b) BA.out).same o3)
  have T3 := Lib.hid hT3
  have HLT := Lib.hid hlt
  have c0 := cell_at R3.out 0
  have c1 := cell_at R3.out 1
  have c2 := cell_at R3.out 2
  have c3 := cell_at R3.out 3
  have fr := fun j => free_at R3.out j
  have zr := szs (block_lt R3.out)
  clear hT3 o3 DR BA RA XA p0 p1 zq c4 c5 c6 c7 c8 c9 ca cb cc zb hlt
  rw [HDE.out]
  by_cases hy0 : y < 0
  · rw [if_pos hy0]
    rw [if_pos hy0] at HVE
    go_wp2_with fail
    have KZ := put4 R3.out (.int .i64 0) (.int .i64 0) (.int .i64 0) (.int .i64 0)
    have OZ := O3.out.trans (Y := fun q => q = w.heap.size) (off4 w3 w.heap.size (.int .i64 0) (.int .i64 0) (.int .i64 0) (.int .i64 0)) (fun k hk h => by omega)
    generalize World.setCell (World.setCell (World.setCell (World.setCell w3 _ _) _ _) _ _) _ _ = w9 at *
    have k0 := cell_at KZ 0
    have k1 := cell_at KZ 1
    have k2 := cell_at KZ 2
    have k3 := cell_at KZ 3
    have zk := szs (block_lt KZ)
    refine bodyPost_ret (v := .tuple #[.agg #[(.int .i64 0), (.int .i64 0), (.int .i64 0), (.int .i64 0)], .int .i64 15]) (by simp [results, Try.results119, go_sem, k0, k1, k2, k3]) rfl ⟨OZ, ?_⟩
    exact .inl ⟨by rw [HVE.out]; decide, by rw [HVE.out]⟩
  · rw [if_neg hy0]
    rw [if_neg hy0] at HVE
    rw [HDS.out, if_neg hy0] at T3
    have t0 : decide (y < 0) = false := decide_eq_false hy0
    have ty : 0 ≤ y := by omega
    clear HDS HDE
    clear c0 c1 c2 c3 fr zr
    have c0 := cell_at R3.out 0
    have c1 := cell_at R3.out 1
    have c2 := cell_at R3.out 2
    have c3 := cell_at R3.out 3
    have fr := fun j => free_at R3.out j
    have zr := szs (block_lt R3.out)
    have hT := T3.out
    unfold tourC at hT
    dsimp only at hT
    have d0 := cell_at hT 0
    have d1 := cell_at hT 1
    have d2 := cell_at hT 2
    have d3 := cell_at hT 3
    have d4 := cell_at hT 4
    have d5 := cell_at hT 5
    have d6 := cell_at hT 6
    have d7 := cell_at hT 7
    have d8 := cell_at hT 8
    have d9 := cell_at hT 9
    have da := cell_at hT 10
    have db := cell_at hT 11
    have dc := cell_at hT 12
    have dfr := fun j => free_at T3.out j
    have zt := szs (block_lt hT)
    have x0 := cell_at X3.out 0
    have x1 := cell_at X3.out 1
    have zx := szs (block_lt X3.out)
    clear hT
    have HCP := Lib.hid hc
    clear hc
    go_wp2_with fail
    (refine region_order (fun i : Nat => World.drewN _ i) [] [0, 1, 2, 3, 4, 5, 6, 7, 8, 9, 10, 11] 12 [13] mixed (by kernel_rfl) ⟨1, rfl⟩ ?_; simp only [List.map_cons, List.map_nil, Array.getD_eq_getD_getElem?, List.getElem?_toArray, List.getElem?_cons_zero, List.getElem?_cons_succ, Option.getD_some]; (repeat (refine wpPure_cons _ rfl (fun w' => by go_simp; try rfl) ?_; dsimp only [Act.put])); refine wpPure_nil ?_; (repeat (any_goals (first | go_big_quiet_step (fail) | quiet_step (fail) | (refine wpQuiet_step (fun K hK => ?_); go_simp; split <;> (refine hK _ ?_; clear hK K))))); (all_goals (refine wpQuiet_nil (fun nq => ?_))))
    have b4 : Below w3.heap.size w3 (w3.drewN nq) := below_drewN (Below.refl _ _) nq
    replace R3 := Lib.hid ((b4.block _ (block_lt R3.out)).trans R3.out)
    replace X3 := Lib.hid ((b4.block _ (block_lt X3.out)).trans X3.out)
    replace T3 := Lib.hid ((b4.block _ (block_lt T3.out)).trans T3.out)
    replace O3 := Lib.hid (O3.out.trans (Y := fun _ => False) (Off.of_below b4) (fun _ _ h => h.elim))
    clear c0 c1 c2 c3 fr zr d0 d1 d2 d3 d4 d5 d6 d7 d8 d9 da db dc dfr zt x0 x1 zx
    clear b4
    generalize w3.drewN nq = w4 at *
    have c0 := cell_at R3.out 0
    have c1 := cell_at R3.out 1
    have c2 := cell_at R3.out 2
    have c3 := cell_at R3.out 3
    have fr := fun j => free_at R3.out j
    have zr := szs (block_lt R3.out)
    have hT := T3.out
    unfold tourC at hT
    dsimp only at hT
    have d0 := cell_at hT 0
    have d1 := cell_at hT 1
    have d2 := cell_at hT 2
    have d3 := cell_at hT 3
    have d4 := cell_at hT 4
    have d5 := cell_at hT 5
    have d6 := cell_at hT 6
    have d7 := cell_at hT 7
    have d8 := cell_at hT 8
    have d9 := cell_at hT 9
    have da := cell_at hT 10
    have db := cell_at hT 11
    have dc := cell_at hT 12
    have dfr := fun j => free_at T3.out j
    have zt := szs (block_lt hT)
    have x0 := cell_at X3.out 0
    have x1 := cell_at X3.out 1
    have zx := szs (block_lt X3.out)
    clear hT
    go_wp2_with fail
    refine (IN.out (s.load + mv) 0 t.cap _).mono ?_
    rintro e w9 ⟨rfl, rfl⟩
    by_cases hl : inB (s.load + mv) 0 t.cap = false
    · rw [hl]
      have HV2 : Hid (visitE g t s i = 24) := Lib.hid (by
        have : ¬ (0 ≤ s.load + mv ∧ s.load + mv ≤ t.cap) := fun h => by rw [inB_iff.2 h] at hl; cases hl
        rw [HVE.out, if_pos (by omega)])
      go_wp2_with fail
      refine onlyN_intro ?_
      go_wp2_with fail
      have KZ := put4 R3.out (.int .i64 0) (.int .i64 0) (.int .i64 0) (.int .i64 0)
      have OZ := O3.out.trans (Y := fun q => q = w.heap.size) (off4 w4 w.heap.size (.int .i64 0) (.int .i64 0) (.int .i64 0) (.int .i64 0)) (fun k hk h => by omega)
      generalize World.setCell (World.setCell (World.setCell (World.setCell w4 _ _) _ _) _ _) _ _ = w9 at *
      have k0 := cell_at KZ 0
      have k1 := cell_at KZ 1
      have k2 := cell_at KZ 2
      have k3 := cell_at KZ 3
      have zk := szs (block_lt KZ)
      refine bodyPost_ret (v := .tuple #[.agg #[(.int .i64 0), (.int .i64 0), (.int .i64 0), (.int .i64 0)], .int .i64 24]) (by simp [results, Try.results119, go_sem, k0, k1, k2, k3]) rfl ⟨OZ, ?_⟩
      exact .inl ⟨by rw [HV2.out]; decide, by rw [HV2.out]⟩
    · have hl' : inB (s.load + mv) 0 t.cap = true := by simpa using hl
      have hlb := inB_iff.1 hl'
      rw [hl']
      have HV2 : Hid (visitE g t s i = 0) := Lib.hid (by rw [HVE.out, if_neg (by omega)])
      clear hl hl' HVE
      go_wp2_with fail
      refine onlyN_intro ?_
      go_wp2_with fail
      have b5 : Below w4.heap.size w4 (w4.alloc (.cells #[.int .i64 (i : Int), .int .i64 (s.now + y), .int .i64 0, .int .i64 0] 92)) := by (repeat' (first | (with_reducible exact Below.refl _ _) | (with_reducible assumption) | (with_reducible refine Below.drew ?_) | (with_reducible refine below_drewN ?_ _) | (with_reducible refine Below.alloc ?_ ?_ _) | (with_reducible refine Below.setCell ?_ ?_ _) | go_size))
      have V3 := Lib.hid (heap_alloc_new w4 (.cells #[.int .i64 (i : Int), .int .i64 (s.now + y), .int .i64 0, .int .i64 0] 92))
      have HNV : Hid (¬ w4.heap.size = b) := Lib.hid (by have := block_lt T3.out; omega)
      have HVR : Hid (w4.heap.size ≠ w.heap.size ∧ w4.heap.size ≠ w.heap.size + 1 ∧ w.heap.size ≤ w4.heap.size) := Lib.hid (by have := block_lt R3.out; have := block_lt X3.out; omega)
      replace R3 := Lib.hid ((b5.block _ (block_lt R3.out)).trans R3.out)
      replace X3 := Lib.hid ((b5.block _ (block_lt X3.out)).trans X3.out)
      replace T3 := Lib.hid ((b5.block _ (block_lt T3.out)).trans T3.out)
      replace O3 := Lib.hid (O3.out.trans (Y := fun _ => False) (Off.of_below b5) (fun _ _ h => h.elim))
      clear c0 c1 c2 c3 fr zr d0 d1 d2 d3 d4 d5 d6 d7 d8 d9 da db dc dfr zt x0 x1 zx
      clear b5
      generalize w4.alloc (.cells #[.int .i64 (i : Int), .int .i64 (s.now + y), .int .i64 0, .int .i64 0] 92) = w5 at *
      generalize w4.heap.size = vb at *
      have c0 := cell_at R3.out 0
      have c1 := cell_at R3.out 1
      have c2 := cell_at R3.out 2
      have c3 := cell_at R3.out 3
      have fr := fun j => free_at R3.out j
      have zr := szs (block_lt R3.out)
      have hT := T3.out
      unfold tourC at hT
      dsimp only at hT
      have d0 := cell_at hT 0
      have d1 := cell_at hT 1
      have d2 := cell_at hT 2
      have d3 := cell_at hT 3
      have d4 := cell_at hT 4
      have d5 := cell_at hT 5
      have d6 := cell_at hT 6
      have d7 := cell_at hT 7
      have d8 := cell_at hT 8
      have d9 := cell_at hT 9
      have da := cell_at hT 10
      have db := cell_at hT 11
      have dc := cell_at hT 12
      have dfr := fun j => free_at T3.out j
      have zt := szs (block_lt hT)
      have x0 := cell_at X3.out 0
      have x1 := cell_at X3.out 1
      have zx := szs (block_lt X3.out)
      clear hT
      (refine region_order (fun i : Nat => World.drewN _ i) [] [0, 1, 2, 3, 4, 5, 6, 7, 8] 9 [] mixed (by kernel_rfl) ⟨1, rfl⟩ ?_; simp only [List.map_cons, List.map_nil, Array.getD_eq_getD_getElem?, List.getElem?_toArray, List.getElem?_cons_zero, List.getElem?_cons_succ, Option.getD_some]; (repeat (refine wpPure_cons _ rfl (fun w' => by go_simp; try rfl) ?_; dsimp only [Act.put])); refine wpPure_nil ?_; (repeat (any_goals (first | go_big_quiet_step (fail) | quiet_step (fail) | (refine wpQuiet_step (fun K hK => ?_); go_simp; split <;> (refine hK _ ?_; clear hK K))))); (all_goals (refine wpQuiet_nil (fun nq => ?_))))
      have b6 : Below w5.heap.size w5 (w5.drewN nq) := below_drewN (Below.refl _ _) nq
      replace V3 := Lib.hid ((b6.block _ (block_lt V3.out)).trans V3.out)
      replace R3 := Lib.hid ((b6.block _ (block_lt R3.out)).trans R3.out)
      replace X3 := Lib.hid ((b6.block _ (block_lt X3.out)).trans X3.out)
      replace T3 := Lib.hid ((b6.block _ (block_lt T3.out)).trans T3.out)
      replace O3 := Lib.hid (O3.out.trans (Y := fun _ => False) (Off.of_below b6) (fun _ _ h => h.elim))
      clear c0 c1 c2 c3 fr zr d0 d1 d2 d3 d4 d5 d6 d7 d8 d9 da db dc dfr zt x0 x1 zx
      clear b6
      generalize w5.drewN nq = w6 at *
      have c0 := cell_at R3.out 0
      have c1 := cell_at R3.out 1
      have c2 := cell_at R3.out 2
      have c3 := cell_at R3.out 3
      have fr := fun j => free_at R3.out j
      have zr := szs (block_lt R3.out)
      have hT := T3.out
      unfold tourC at hT
      dsimp only at hT
      have d0 := cell_at hT 0
      have d1 := cell_at hT 1
      have d2 := cell_at hT 2
      have d3 := cell_at hT 3
      have d4 := cell_at hT 4
      have d5 := cell_at hT 5
      have d6 := cell_at hT 6
      have d7 := cell_at hT 7
      have d8 := cell_at hT 8
      have d9 := cell_at hT 9
      have da := cell_at hT 10
      have db := cell_at hT 11
      have dc := cell_at hT 12
      have dfr := fun j => free_at T3.out j
      have zt := szs (block_lt hT)
      have x0 := cell_at X3.out 0
      have x1 := cell_at X3.out 1
      have zx := szs (block_lt X3.out)
      clear hT
      go_wp2_with fail
      refine onlyN_intro ?_
      go_wp2_with fail
      have hT5 : (World.setCell w6 ⟨b, 11, none⟩ (.int .i64 (s.load + mv))).heap[b]? = some (.cells (tourC g t ⟨nd, s.now + y, s.load + mv, s.drv + y⟩) 163 (0, 0)) := by
        rw [setCell_at T3.out, setAt_same (block_lt T3.out)]; rfl
      have o5 : Off (fun q => q = b) w6 (World.setCell w6 ⟨b, 11, none⟩ (.int .i64 (s.load + mv))) := (Off.refl (fun q => q = b) w6).setCell (p := ⟨b, 11, none⟩) (fun _ => rfl) _
      replace R3 := Lib.hid ((o5.block _ (block_lt R3.out) HNR.out.1).trans R3.out)
      replace X3 := Lib.hid ((o5.block _ (block_lt X3.out) HNR.out.2).trans X3.out)
      replace V3 := Lib.hid ((o5.block _ (block_lt V3.out) HNV.out).trans V3.out)
      replace O3 := Lib.hid (O3.out.same o5)
      replace T3 := Lib.hid hT5
      clear c0 c1 c2 c3 fr zr d0 d1 d2 d3 d4 d5 d6 d7 d8 d9 da db dc dfr zt x0 x1 zx
      clear hT5 o5
      generalize World.setCell w6 ⟨b, 11, none⟩ (.int .i64 (s.load + mv)) = w8 at *
      have c0 := cell_at R3.out 0
      have c1 := cell_at R3.out 1
      have c2 := cell_at R3.out 2
      have c3 := cell_at R3.out 3
      have fr := fun j => free_at R3.out j
      have zr := szs (block_lt R3.out)
      have hT := T3.out
      unfold tourC at hT
      dsimp only at hT
      have d0 := cell_at hT 0
      have d1 := cell_at hT 1
      have d2 := cell_at hT 2
      have d3 := cell_at hT 3
      have d4 := cell_at hT 4
      have d5 := cell_at hT 5
      have d6 := cell_at hT 6
      have d7 := cell_at hT 7
      have d8 := cell_at hT 8
      have d9 := cell_at hT 9
      have da := cell_at hT 10
      have db := cell_at hT 11
      have dc := cell_at hT 12
      have dfr := fun j => free_at T3.out j
      have zt := szs (block_lt hT)
      have x0 := cell_at X3.out 0
      have x1 := cell_at X3.out 1
      have zx := szs (block_lt X3.out)
      clear hT
      have HWB := Lib.hid hw
      have hmh : 0 ≤ g.h ∧ g.h ≤ 3600 := HH.out
      obtain rfl : wk = max mv (-mv) * g.h := HWK.out
      clear HWK
      (refine region_order (fun i : Nat => World.drewN _ i) [] [0, 1, 2, 3, 4, 5, 6, 7, 8, 9, 10, 11, 12, 13, 14, 15, 16, 17, 18] 19 [] mixed (by kernel_rfl) ⟨1, rfl⟩ ?_; simp only [List.map_cons, List.map_nil, Array.getD_eq_getD_getElem?, List.getElem?_toArray, List.getElem?_cons_zero, List.getElem?_cons_succ, Option.getD_some]; (repeat (refine wpPure_cons _ rfl (fun w' => by go_simp; try rfl) ?_; dsimp only [Act.put])); refine wpPure_nil ?_; (repeat (any_goals (first | go_big_quiet_step (fail) | quiet_step (fail) | (refine wpQuiet_step (fun K hK => ?_); go_simp; split <;> (refine hK _ ?_; clear hK K))))); (all_goals (refine wpQuiet_nil (fun nq => ?_))))
      have b9 : Below w8.heap.size w8 (w8.drewN nq) := below_drewN (Below.refl _ _) nq
      replace V3 := Lib.hid ((b9.block _ (block_lt V3.out)).trans V3.out)
      replace R3 := Lib.hid ((b9.block _ (block_lt R3.out)).trans R3.out)
      replace X3 := Lib.hid ((b9.block _ (block_lt X3.out)).trans X3.out)
      replace T3 := Lib.hid ((b9.block _ (block_lt T3.out)).trans T3.out)
      replace O3 := Lib.hid (O3.out.trans (Y := fun _ => False) (Off.of_below b9) (fun _ _ h => h.elim))
      clear c0 c1 c2 c3 fr zr d0 d1 d2 d3 d4 d5 d6 d7 d8 d9 da db dc dfr zt x0 x1 zx
      clear b9
      generalize w8.drewN nq = w10 at *
      have c0 := cell_at R3.out 0
      have c1 := cell_at R3.out 1
      have c2 := cell_at R3.out 2
      have c3 := cell_at R3.out 3
      have fr := fun j => free_at R3.out j
      have zr := szs (block_lt R3.out)
      have hT := T3.out
      unfold tourC at hT
      dsimp only at hT
      have d0 := cell_at hT 0
      have d1 := cell_at hT 1
      have d2 := cell_at hT 2
      have d3 := cell_at hT 3
      have d4 := cell_at hT 4
      have d5 := cell_at hT 5
      have d6 := cell_at hT 6
      have d7 := cell_at hT 7
      have d8 := cell_at hT 8
      have d9 := cell_at hT 9
      have da := cell_at hT 10
      have db := cell_at hT 11
      have dc := cell_at hT 12
      have dfr := fun j => free_at T3.out j
      have zt := szs (block_lt hT)
      have x0 := cell_at X3.out 0
      have x1 := cell_at X3.out 1
      have zx := szs (block_lt X3.out)
      clear hT
      go_wp2_with fail
      refine onlyN_intro ?_
      go_wp2_with fail
      have hT5 : (World.setCell w10 ⟨b, 10, none⟩ (.int .i64 (s.now + y + max mv (-mv) * g.h))).heap[b]? = some (.cells (tourC g t ⟨nd, s.now + y + max mv (-mv) * g.h, s.load + mv, s.drv + y⟩) 163 (0, 0)) := by
        rw [setCell_at T3.out, setAt_same (block_lt T3.out)]; rfl
      have o5 : Off (fun q => q = b) w10 (World.setCell w10 ⟨b, 10, none⟩ (.int .i64 (s.now + y + max mv (-mv) * g.h))) := (Off.refl (fun q => q = b) w10).setCell (p := ⟨b, 10, none⟩) (fun _ => rfl) _
      replace R3 := Lib.hid ((o5.block _ (block_lt R3.out) HNR.out.1).trans R3.out)
      replace X3 := Lib.hid ((o5.block _ (block_lt X3.out) HNR.out.2).trans X3.out)
      replace V3 := Lib.hid ((o5.block _ (block_lt V3.out) HNV.out).trans V3.out)
      replace O3 := Lib.hid (O3.out.same o5)
      replace T3 := Lib.hid hT5
      clear c0 c1 c2 c3 fr zr d0 d1 d2 d3 d4 d5 d6 d7 d8 d9 da db dc dfr zt x0 x1 zx
      clear hT5 o5
      generalize World.setCell w10 ⟨b, 10, none⟩ (.int .i64 (s.now + y + max mv (-mv) * g.h)) = w8 at *
      have c0 := cell_at R3.out 0
      have c1 := cell_at R3.out 1
      have c2 := cell_at R3.out 2
      have c3 := cell_at R3.out 3
      have fr := fun j => free_at R3.out j
      have zr := szs (block_lt R3.out)
      have hT := T3.out
      unfold tourC at hT
      dsimp only at hT
      have d0 := cell_at hT 0
      have d1 := cell_at hT 1
      have d2 := cell_at hT 2
      have d3 := cell_at hT 3
      have d4 := cell_at hT 4
      have d5 := cell_at hT 5
      have d6 := cell_at hT 6
      have d7 := cell_at hT 7
      have d8 := cell_at hT 8
      have d9 := cell_at hT 9
      have da := cell_at hT 10
      have db := cell_at hT 11
      have dc := cell_at hT 12
      have dfr := fun j => free_at T3.out j
      have zt := szs (block_lt hT)
      have x0 := cell_at X3.out 0
      have x1 := cell_at X3.out 1
      have zx := szs (block_lt X3.out)
      clear hT
      have v2 := cell_at V3.out 2
      have v3 := cell_at V3.out 3
      have vfr := fun j => free_at V3.out j
      have zv := szs (block_lt V3.out)
      have nvb : vb ≠ b := HNV.out
      have nvb2 : b ≠ vb := fun e => HNV.out e.symm
      go_region
      have hV := two_set V3.out (.int .i64 (s.now + y + max mv (-mv) * g.h)) (.int .i64 (s.load + mv))
      have oV : Off (fun q => q = vb) w8 ((w8.setCell ⟨vb, 2, none⟩ (.int .i64 (s.now + y + max mv (-mv) * g.h))).setCell ⟨vb, 3, none⟩ (.int .i64 (s.load + mv))) := ((Off.refl (fun q => q = vb) w8).setCell (p := ⟨vb, 2, none⟩) (fun _ => rfl) _).setCell (p := ⟨vb, 3, none⟩) (fun _ => rfl) _
      have bV : Below ((w8.setCell ⟨vb, 2, none⟩ (.int .i64 (s.now + y + max mv (-mv) * g.h))).setCell ⟨vb, 3, none⟩ (.int .i64 (s.load + mv))).heap.size ((w8.setCell ⟨vb, 2, none⟩ (.int .i64 (s.now + y + max mv (-mv) * g.h))).setCell ⟨vb, 3, none⟩ (.int .i64 (s.load + mv))) (((w8.setCell ⟨vb, 2, none⟩ (.int .i64 (s.now + y + max mv (-mv) * g.h))).setCell ⟨vb, 3, none⟩ (.int .i64 (s.load + mv))).drew) := by (repeat' (first | (with_reducible exact Below.refl _ _) | (with_reducible assumption) | (with_reducible refine Below.drew ?_) | (with_reducible refine below_drewN ?_ _) | (with_reducible refine Below.alloc ?_ ?_ _) | (with_reducible refine Below.setCell ?_ ?_ _) | go_size))
      have oD : Off (fun q => q = vb) w8 (((w8.setCell ⟨vb, 2, none⟩ (.int .i64 (s.now + y + max mv (-mv) * g.h))).setCell ⟨vb, 3, none⟩ (.int .i64 (s.load + mv))).drew) := oV.trans (Y := fun _ => False) (Off.of_below bV) (fun _ _ h => h.elim)
      have hVD := (bV.block _ (block_lt hV)).trans hV
      replace R3 := Lib.hid ((oD.block _ (block_lt R3.out) (fun h => HVR.out.1 h.symm)).trans R3.out)
      replace X3 := Lib.hid ((oD.block _ (block_lt X3.out) (fun h => HVR.out.2.1 h.symm)).trans X3.out)
      replace T3 := Lib.hid ((oD.block _ (block_lt T3.out) nvb2).trans T3.out)
      replace O3 := Lib.hid (O3.out.trans (Y := fun q => q = vb) oD (fun k hk h => by have := HVR.out.2.2; omega))
      clear c0 c1 c2 c3 fr zr d0 d1 d2 d3 d4 d5 d6 d7 d8 d9 da db dc dfr zt x0 x1 zx
      clear v2 v3 vfr zv nvb nvb2 oV bV oD hV V3
      generalize ((w8.setCell ⟨vb, 2, none⟩ (.int .i64 (s.now + y + max mv (-mv) * g.h))).setCell ⟨vb, 3, none⟩ (.int .i64 (s.load + mv))).drew = w11 at *
      have c0 := cell_at R3.out 0
      have c1 := cell_at R3.out 1
      have c2 := cell_at R3.out 2
      have c3 := cell_at R3.out 3
      have fr := fun j => free_at R3.out j
      have zr := szs (block_lt R3.out)
      have hT := T3.out
      unfold tourC at hT
      dsimp only at hT
      have d0 := cell_at hT 0
      have d1 := cell_at hT 1
      have d2 := cell_at hT 2
      have d3 := cell_at hT 3
      have d4 := cell_at hT 4
      have d5 := cell_at hT 5
      have d6 := cell_at hT 6
      have d7 := cell_at hT 7
      have d8 := cell_at hT 8
      have d9 := cell_at hT 9
      have da := cell_at hT 10
      have db := cell_at hT 11
      have dc := cell_at hT 12
      have dfr := fun j => free_at T3.out j
      have zt := szs (block_lt hT)
      have x0 := cell_at X3.out 0
      have x1 := cell_at X3.out 1
      have zx := szs (block_lt X3.out)
      clear hT
      have v0 := cell_at hVD 0
      have v1 := cell_at hVD 1
      have v2 := cell_at hVD 2
      have v3 := cell_at hVD 3
      have zv := szs (block_lt hVD)
      have TF := T3
      clear d0 d1 d2 d3 d4 d5 d6 d7 d8 d9 da db dc dfr zt x0 x1 zx hVD
      go_wp2_with fail
      have TF2 : Hid (((((w11.setCell ⟨w.heap.size, 0, none⟩ (.int .i64 (i : Int))).setCell ⟨w.heap.size, 1, none⟩ (.int .i64 (s.now + y))).setCell ⟨w.heap.size, 2, none⟩ (.int .i64 (s.now + y + max mv (-mv) * g.h))).setCell ⟨w.heap.size, 3, none⟩ (.int .i64 (s.load + mv))).heap[b]? = some (.cells (tourC g t ⟨nd, s.now + y + max mv (-mv) * g.h, s.load + mv, s.drv + y⟩) 163 (0, 0))) := Lib.hid (((off4 w11 w.heap.size _ _ _ _).block _ (block_lt T3.out) (fun h => HNR.out.1 h.symm)).trans T3.out)
      have KZ := put4 R3.out (.int .i64 (i : Int)) (.int .i64 (s.now + y)) (.int .i64 (s.now + y + max mv (-mv) * g.h)) (.int .i64 (s.load + mv))
      have OZ := O3.out.trans (Y := fun q => q = w.heap.size) (off4 w11 w.heap.size (.int .i64 (i : Int)) (.int .i64 (s.now + y)) (.int .i64 (s.now + y + max mv (-mv) * g.h)) (.int .i64 (s.load + mv))) (fun k hk h => by omega)
      generalize World.setCell (World.setCell (World.setCell (World.setCell w11 _ _) _ _) _ _) _ _ = w9 at *
      have k0 := cell_at KZ 0
      have k1 := cell_at KZ 1
      have k2 := cell_at KZ 2
      have k3 := cell_at KZ 3
      have zk := szs (block_lt KZ)
      refine bodyPost_ret (v := .tuple #[.agg #[(.int .i64 (i : Int)), (.int .i64 (s.now + y)), (.int .i64 (s.now + y + max mv (-mv) * g.h)), (.int .i64 (s.load + mv))], .int .i64 0]) (by simp [results, Try.results119, go_sem, k0, k1, k2, k3]) rfl ⟨OZ, ?_⟩
      exact .inr ⟨HV2.out, by rw [HVV.out]; rfl, by rw [HVS.out]; exact TF2.out⟩
end Go.Proofs.Ytlnfhlmgnppcbaa
