/- Crew: where a truck is when it drives on to a node. -/
import Derived.Test.YtlnfhlmgnppcbaaTK4
import Derived.Test.YtlnfhlmgnppcbaaTRQ
import Derived.BigQuiet
import Derived.BigRegion
namespace Go.Proofs.Ytlnfhlmgnppcbaa
open Go.RowKit Go.ChangeShapes Go.WideShapes Go.Deep
set_option linter.unusedVariables false
set_option linter.unusedSimpArgs false
set_option maxRecDepth 8000
open Rd
theorem al_at (w : World) (a : Obj) {k : Nat} (hk : w.heap.size = k) : (w.alloc a).heap[k]? = some a := by subst hk; exact heap_alloc_new w a
theorem al_keep {w : World} {i : Nat} {o : Obj} (h : w.heap[i]? = some o) (a : Obj) : (w.alloc a).heap[i]? = some o := by
  have bb : Below w.heap.size w (w.alloc a) := (Below.refl _ _).alloc (Nat.le_refl _) _
  exact (bb.block _ (block_lt h)).trans h
theorem put3 {w : World} {r : Nat} {a0 a1 a2 : Value} {T : TypeId} (h : w.heap[r]? = some (.cells #[a0, a1, a2] T (0, 0))) (v0 v1 v2 : Value) : (((w.setCell ⟨r, 0, none⟩ v0).setCell ⟨r, 1, none⟩ v1).setCell ⟨r, 2, none⟩ v2).heap[r]? = some (.cells #[v0, v1, v2] T (0, 0)) := by
  have hl := block_lt h
  rw [setCell_at h, setAt_setCell hl, setAt_setCell hl, setAt_same hl]
  rfl
theorem off3 (w : World) (r : Nat) (v0 v1 v2 : Value) : Off (fun q => q = r) w (((w.setCell ⟨r, 0, none⟩ v0).setCell ⟨r, 1, none⟩ v1).setCell ⟨r, 2, none⟩ v2) :=
  ((((Off.refl (fun q => q = r) w).setCell (p := ⟨r, 0, none⟩) (fun _ => rfl) _).setCell (p := ⟨r, 1, none⟩) (fun _ => rfl) _).setCell (p := ⟨r, 2, none⟩) (fun _ => rfl) _)
def cpC (p : Cs) : Array Value := #[.int .i64 p.at', .int .i64 p.load, .int .i64 p.now]
/-- The numbers are small. -/
structure Cs.Small (p : Cs) (n : Nat) : Prop where
  at' : 0 ≤ p.at' ∧ p.at' < n
  load : -1000 ≤ p.load ∧ p.load ≤ 1000
  now : -1000 ≤ p.now ∧ p.now ≤ 10000000
noncomputable def toS (g : Ng) (p : Cs) (v : Int) : Cs := if g.S p.at' v < 0 then ⟨0, 0, 0⟩ else ⟨v, p.load, p.now + g.S p.at' v⟩
noncomputable def toB (g : Ng) (p : Cs) (v : Int) : Bool := decide (0 ≤ g.S p.at' v)
set_option maxHeartbeats 8000000 in
theorem to97 (g : Ng) (n : Nat) (p : Cs) (v : Int) (w : World) (h : NOk g n) (hr : roadE g.N g.em g.E = 0) (hg : Net w g.ea g.em g.ec g.E) (hs : p.Small n) (hv : 0 ≤ v ∧ v < n) :
    Calls Try.prog 97 #[.agg (cpC p), .agg #[.int .i64 g.N, .slice g.ea g.em g.ec], .int .i64 v] w fun e w' => e = .returned (.tuple #[.agg (cpC (toS g p v)), .bool (toB g p v)]) ∧ Below w.heap.size w w' := by
  have BA : Hid (Below w.heap.size w (((w.alloc (.cells (cpC p) 124)).alloc (.cells #[.int .i64 g.N, .slice g.ea g.em g.ec] 77)).alloc (.cells #[.int .i64 0, .int .i64 0, .int .i64 0] 124))) := Lib.hid (by (repeat' (first | (with_reducible exact Below.refl _ _) | (with_reducible assumption) | (with_reducible refine Below.drew ?_) | (with_reducible refine below_drewN ?_ _) | (with_reducible refine Below.alloc ?_ ?_ _) | (with_reducible refine Below.setCell ?_ ?_ _) | go_size)))
  have X0 := al_keep (al_keep (al_at w (.cells (cpC p) 124) rfl) (.cells #[.int .i64 g.N, .slice g.ea g.em g.ec] 77)) (.cells #[.int .i64 0, .int .i64 0, .int .i64 0] 124)
  have X1 := al_keep (al_at (w.alloc (.cells (cpC p) 124)) (.cells #[.int .i64 g.N, .slice g.ea g.em g.ec] 77) (k := w.heap.size + 1) (by simp)) (.cells #[.int .i64 0, .int .i64 0, .int .i64 0] 124)
  have X2 := al_at ((w.alloc (.cells (cpC p) 124)).alloc (.cells #[.int .i64 g.N, .slice g.ea g.em g.ec] 77)) (.cells #[.int .i64 0, .int .i64 0, .int .i64 0] 124) (k := w.heap.size + 1 + 1) (by simp)
  obtain ⟨w1, hw1⟩ : ∃ w1, w1 = ((w.alloc (.cells (cpC p) 124)).alloc (.cells #[.int .i64 g.N, .slice g.ea g.em g.ec] 77)).alloc (.cells #[.int .i64 0, .int .i64 0, .int .i64 0] 124) := ⟨_, rfl⟩
  rw [← hw1] at BA X0 X1 X2
  have HW1 := Lib.hid hw1
  have TM := Lib.hid (times_ok h hr w1 (hg.below BA.out) hs.at')
  have hS := h.S_bd hs.at' v
  have HTS : Hid (toS g p v = if g.S p.at' v < 0 then ⟨0, 0, 0⟩ else ⟨v, p.load, p.now + g.S p.at' v⟩) := Lib.hid rfl
  have HTB : Hid (toB g p v = decide (0 ≤ g.S p.at' v)) := Lib.hid rfl
  obtain ⟨y, hy⟩ : ∃ y, y = g.S p.at' v := ⟨_, rfl⟩
  rw [← hy] at hS HTS HTB
  obtain ⟨S1, hS1⟩ : ∃ S1, S1 = toS g p v := ⟨_, rfl⟩
  obtain ⟨B1, hB1⟩ : ∃ B1, B1 = toB g p v := ⟨_, rfl⟩
  rw [← hS1] at HTS ⊢
  rw [← hB1] at HTB ⊢
  have HY := Lib.hid hy
  have hn64 := h.right.n2
  obtain ⟨h1, h2⟩ := hs.now
  obtain ⟨v, rfl⟩ := Int.eq_ofNat_of_zero_le hv.1
  have hvn : v < n := by omega
  have tvn : (v : Int) < (n : Int) := by omega
  obtain ⟨fn, hfn⟩ : ∃ fn, fn = g.S p.at' := ⟨_, rfl⟩
  rw [← hfn] at TM
  have HFN : Hid (y = fn v) := Lib.hid (by rw [HY.out, hfn])
  obtain ⟨pa, pl, pn⟩ := p
  unfold cpC at *
  dsimp only at *
  have a0 := cell_at X0 0
  have a1 := cell_at X0 1
  have a2 := cell_at X0 2
  have b0 := cell_at X1 0
  have b1 := cell_at X1 1
  have za := szs (block_lt X0)
  have zb := szs (block_lt X1)
  have HX0 := Lib.hid X0
  have HX2 := Lib.hid X2
  clear h hr hg hs hv hy hS1 hB1 hfn HY hw1 X0 X1 X2
  go_enter Try.func97, Try.ntmps97
  go_wp2_with fail
  rw [← HW1.out]
  go_wp2_with fail
  refine TM.out.mono ?_
  rintro e w2 ⟨q, rfl, hN, b2⟩
  have B2 := Lib.hid (BA.out.trans (b2.mono BA.out.size))
  have tc := hN.cell hvn
  rw [← HFN.out] at tc
  have ht := hN.lt
  have zq := szs ht.2
  have Y0 := (b2.block _ (block_lt HX0.out)).trans HX0.out
  have Y2 := Lib.hid ((b2.block _ (block_lt HX2.out)).trans HX2.out)
  clear a0 a1 a2 b0 b1 za zb TM HX0 HX2 HFN HW1
  have fr := fun j => free_at Y2.out j
  have zr := szs (block_lt Y2.out)
  have m0 := cell_at Y2.out 0
  have m1 := cell_at Y2.out 1
  have m2 := cell_at Y2.out 2
  by_cases hy0 : y < 0
  · have t0 := hy0
    rw [if_pos hy0] at HTS
    clear Y0 hN b2
    have HTB2 : Hid (B1 = false) := Lib.hid (by rw [HTB.out]; exact decide_eq_false (by omega))
    go_wp2_with fail
    have KZ := put3 Y2.out (.int .i64 0) (.int .i64 0) (.int .i64 0)
    have OZ := B2.out.trans ((off3 _ (w.heap.size + 1 + 1) (.int .i64 0) (.int .i64 0) (.int .i64 0)).toBelow B2.out.size (fun q hq h => by omega))
    generalize World.setCell (World.setCell (World.setCell _ _ _) _ _) _ _ = w9 at *
    have k0 := cell_at KZ 0
    have k1 := cell_at KZ 1
    have k2 := cell_at KZ 2
    have zk := szs (block_lt KZ)
    exact bodyPost_ret (v := .tuple #[.agg #[(.int .i64 0), (.int .i64 0), (.int .i64 0)], .bool false]) (by simp [results, Try.results97, go_sem, k0, k1, k2]) rfl ⟨by (rw [HTS.out, HTB2.out]), OZ⟩
  · have t0 : decide (y < 0) = false := decide_eq_false hy0
    rw [if_neg hy0] at HTS
    have HTB2 : Hid (B1 = true) := Lib.hid (by rw [HTB.out]; exact decide_eq_true (by omega))
    have a0 := cell_at Y0 0
    have a1 := cell_at Y0 1
    have a2 := cell_at Y0 2
    have za := szs (block_lt Y0)
    clear Y0 hN b2
    go_wp2_with fail
    (refine region_order (fun i : Nat => World.drewN _ i) [] [0, 1, 2, 3, 4, 5, 6, 7, 8, 9, 10] 11 [12] mixed (by kernel_rfl) ⟨1, rfl⟩ ?_; simp only [List.map_cons, List.map_nil, Array.getD_eq_getD_getElem?, List.getElem?_toArray, List.getElem?_cons_zero, List.getElem?_cons_succ, Option.getD_some]; (repeat (refine wpPure_cons _ rfl (fun w' => by go_simp; try rfl) ?_; dsimp only [Act.put])); refine wpPure_nil ?_; (repeat (any_goals (first | go_big_quiet_step (fail) | quiet_step (fail) | (refine wpQuiet_step (fun K hK => ?_); go_simp; split <;> (refine hK _ ?_; clear hK K))))); (all_goals (refine wpQuiet_nil (fun nq => ?_))))
    have b3 : Below w2.heap.size w2 (w2.drewN nq) := below_drewN (Below.refl _ _) nq
    have Z2 := (b3.block _ (block_lt Y2.out)).trans Y2.out
    have B3 := Lib.hid (B2.out.trans (b3.mono B2.out.size))
    clear a0 a1 a2 za fr zr m0 m1 m2 tc zq Y2 b3 B2 ht
    generalize w2.drewN nq = w3 at *
    have fr := fun j => free_at Z2 j
    have zr := szs (block_lt Z2)
    have m0 := cell_at Z2 0
    have m1 := cell_at Z2 1
    have m2 := cell_at Z2 2
    have HZ2 := Lib.hid Z2
    clear Z2
    go_wp2_with fail
    refine onlyN_intro ?_
    go_wp2_with fail
    have KZ := put3 HZ2.out (.int .i64 (v : Int)) (.int .i64 pl) (.int .i64 (pn + y))
    have OZ := B3.out.trans ((off3 _ (w.heap.size + 1 + 1) (.int .i64 (v : Int)) (.int .i64 pl) (.int .i64 (pn + y))).toBelow B3.out.size (fun q hq h => by omega))
    generalize World.setCell (World.setCell (World.setCell _ _ _) _ _) _ _ = w9 at *
    have k0 := cell_at KZ 0
    have k1 := cell_at KZ 1
    have k2 := cell_at KZ 2
    have zk := szs (block_lt KZ)
    exact bodyPost_ret (v := .tuple #[.agg #[(.int .i64 (v : Int)), (.int .i64 pl), (.int .i64 (pn + y))], .bool true]) (by simp [results, Try.results97, go_sem, k0, k1, k2]) rfl ⟨by (rw [HTS.out, HTB2.out]), OZ⟩
end Go.Proofs.Ytlnfhlmgnppcbaa
