/- General theorems of this seat, in one text. -/
import Derived.Test.YtlnfhlmgnppcbaaGreatZC
import Derived.Test.YtlnfhlmgnppcbaaGreatZBA
import Derived.Shelf.SlSortCmp.WholeK
import Derived.Shelf.SlicesE.Clone
import Derived.Test.YtlnfhlmgnppcbaaGreatProg
import Derived.Test.YtlnfhlmgnppcbaaGreatZBC
import Derived.Test.YtlnfhlmgnppcbaaGreatZBB
import Derived.Shelf.SlSortCmp.NoneTotal
namespace Go.Proofs.YtlnfhlmgnppcbaaGreat
open Go.RowKit Go.ChangeShapes Go.WideShapes Go.Deep
set_option linter.unusedVariables false
set_option linter.unusedSimpArgs false
def cmp1 (a b : Int) : Int := if a < b then -1 else if b < a then 1 else 0
theorem nan130 (n : Int) (w : World) : Calls Tryz.prog 130 #[.int .i64 n] w fun e w' => e = .returned (.bool false) ∧ w = w' := by
  have t : (n != n) = false := by simp
  go_enter Tryz.func130, Tryz.ntmps130
  go_wp2_with fail
  go_returns
  exact ⟨rfl, rfl⟩
theorem cmp101 (a b : Int) (w : World) : Calls Tryz.prog 101 #[.int .i64 a, .int .i64 b] w fun e w' => e = .returned (.int .i64 (cmp1 a b)) ∧ w = w' := by
  have C := Lib.hid (fun n w' => nan130 n w')
  by_cases h1 : a < b
  · have HE : Hid (cmp1 a b = -1) := Lib.hid (by simp [cmp1, h1])
    go_enter Tryz.func101, Tryz.ntmps101
    go_wp2_with fail
    refine (C.out _ _).mono ?_
    rintro e w1 ⟨rfl, rfl⟩
    go_wp2_with fail
    refine (C.out _ _).mono ?_
    rintro e w1 ⟨rfl, rfl⟩
    go_wp2_with fail
    go_returns
    exact ⟨by rw [HE.out]; rfl, rfl⟩
  · by_cases h2 : b < a
    · have HE : Hid (cmp1 a b = 1) := Lib.hid (by simp [cmp1, h1, h2])
      have h1' : b ≤ a := by omega
      clear h1
      go_enter Tryz.func101, Tryz.ntmps101
      go_wp2_with fail
      refine (C.out _ _).mono ?_
      rintro e w1 ⟨rfl, rfl⟩
      go_wp2_with fail
      refine (C.out _ _).mono ?_
      rintro e w1 ⟨rfl, rfl⟩
      go_wp2_with fail
      go_returns
      exact ⟨by rw [HE.out]; rfl, rfl⟩
    · have HE : Hid (cmp1 a b = 0) := Lib.hid (by simp [cmp1, h1, h2])
      have h1' : b ≤ a := by omega
      have h2' : a ≤ b := by omega
      clear h1 h2
      go_enter Tryz.func101, Tryz.ntmps101
      go_wp2_with fail
      refine (C.out _ _).mono ?_
      rintro e w1 ⟨rfl, rfl⟩
      go_wp2_with fail
      refine (C.out _ _).mono ?_
      rintro e w1 ⟨rfl, rfl⟩
      go_wp2_with fail
      go_returns
      exact ⟨by rw [HE.out]; rfl, rfl⟩
def kC (v : Ev) : Array Value := #[.int .i64 v.at', .int .i64 v.dev, .int .i64 v.seq, .int .i64 v.late, .int .i64 v.kind, .int .i64 v.bike, .int .i64 v.place, .int .i64 v.rider, .int .i64 v.ride]
theorem kC_get (v : Ev) {j : Nat} (hj : j < 9) : (kC v)[j]? = some (.int .i64 ((keyE v).getD j 0)) := by
  rcases (by omega : j = 0 ∨ j = 1 ∨ j = 2 ∨ j = 3 ∨ j = 4 ∨ j = 5 ∨ j = 6 ∨ j = 7 ∨ j = 8) with rfl | rfl | rfl | rfl | rfl | rfl | rfl | rfl | rfl <;> rfl
theorem cmpL_drop (v u : Ev) {j : Nat} (hj : j < 9) : cmpL ((keyE v).drop j) ((keyE u).drop j) = if cmp1 ((keyE v).getD j 0) ((keyE u).getD j 0) = 0 then cmpL ((keyE v).drop (j + 1)) ((keyE u).drop (j + 1)) else cmp1 ((keyE v).getD j 0) ((keyE u).getD j 0) := by
  have h : ∀ (xs ys : List Int), j < xs.length → j < ys.length → cmpL (xs.drop j) (ys.drop j) = if cmp1 (xs.getD j 0) (ys.getD j 0) = 0 then cmpL (xs.drop (j + 1)) (ys.drop (j + 1)) else cmp1 (xs.getD j 0) (ys.getD j 0) := fun xs ys h1 h2 => by
    rw [List.drop_eq_getElem_cons h1, List.drop_eq_getElem_cons h2]
    have e1 : xs.getD j 0 = xs[j] := by simp [List.getD, h1]
    have e2 : ys.getD j 0 = ys[j] := by simp [List.getD, h2]
    rw [e1, e2]
    show (if xs[j] < ys[j] then -1 else if ys[j] < xs[j] then 1 else _) = _
    unfold cmp1
    by_cases a1 : xs[j] < ys[j]
    · simp [a1]
    · by_cases a2 : ys[j] < xs[j]
      · simp [a1, a2]
      · simp [a1, a2]
  exact h _ _ hj hj
set_option maxHeartbeats 4000000 in
theorem compare102 (v u : Ev) (w : World) : Calls Tryz.prog 102 #[.agg (eC v), .agg (eC u)] w fun e w' => e = .returned (.int .i64 (cmpE v u)) ∧ Grew w w' := by
  have hE : cmpE v u = cmpL ((keyE v).drop 0) ((keyE u).drop 0) := rfl
  have HE := Lib.hid hE
  have KD := Lib.hid (fun (j : Nat) (hj : j < 9) => cmpL_drop v u hj)
  have KV := Lib.hid (fun (j : Nat) (hj : j < 9) => kC_get v hj)
  have KU := Lib.hid (fun (j : Nat) (hj : j < 9) => kC_get u hj)
  obtain ⟨r, hr⟩ : ∃ r, r = cmpE v u := ⟨_, rfl⟩
  rw [← hr] at HE ⊢
  obtain ⟨kv, hkv⟩ : ∃ kv : Nat → Int, kv = fun j => (keyE v).getD j 0 := ⟨_, rfl⟩
  obtain ⟨ku, hku⟩ : ∃ ku : Nat → Int, ku = fun j => (keyE u).getD j 0 := ⟨_, rfl⟩
  have HKV := Lib.hid hkv
  have HKU := Lib.hid hku
  unfold eC
  clear hE hr hkv hku
  obtain ⟨v1, v2, v3, v4, v5, v6, v7, v8, v9⟩ := v
  obtain ⟨n1, n2, n3, n4, n5, n6, n7, n8, n9⟩ := u
  dsimp only
  go_enter Tryz.func102, Tryz.ntmps102
  go_wp2_with fail
  obtain ⟨wb, hwb⟩ : ∃ wb, wb = ((w.alloc (.cells #[.int .i64 v1, .int .i64 v2, .int .i64 v3, .int .i64 v4, .int .i64 v5, .int .i64 v6, .int .i64 v7, .int .i64 v8, .int .i64 v9] 81)).alloc (.cells #[.int .i64 n1, .int .i64 n2, .int .i64 n3, .int .i64 n4, .int .i64 n5, .int .i64 n6, .int .i64 n7, .int .i64 n8, .int .i64 n9] 81)) := ⟨_, rfl⟩
  obtain ⟨wc, hwc⟩ : ∃ wc, wc = wb.alloc (.cells #[.int .i64 v3, .int .i64 v1, .int .i64 v2, .int .i64 v4, .int .i64 v5, .int .i64 v6, .int .i64 v7, .int .i64 v8, .int .i64 v9] 199) := ⟨_, rfl⟩
  obtain ⟨wd, hwd⟩ : ∃ wd, wd = wc.alloc (.cells #[.int .i64 n3, .int .i64 n1, .int .i64 n2, .int .i64 n4, .int .i64 n5, .int .i64 n6, .int .i64 n7, .int .i64 n8, .int .i64 n9] 199) := ⟨_, rfl⟩
  rw [← hwb, ← hwc, ← hwd]
  have hz2 : wb.heap.size = w.heap.size + 2 := by rw [hwb]; simp
  have hz3 : wc.heap.size = w.heap.size + 3 := by rw [hwc]; simp [hz2]
  have x1 : wc.heap[w.heap.size + 2]? = some (.cells (kC ⟨v1, v2, v3, v4, v5, v6, v7, v8, v9⟩) 199) := by rw [hwc, ← hz2]; exact heap_alloc_new wb _
  have x2 : wd.heap[w.heap.size + 3]? = some (.cells (kC ⟨n1, n2, n3, n4, n5, n6, n7, n8, n9⟩) 199) := by rw [hwd, ← hz3]; exact heap_alloc_new wc _
  have bcd : Below wc.heap.size wc wd := by rw [hwd]; exact (Below.refl _ _).alloc (Nat.le_refl _) _
  have X1 := Lib.hid ((bcd.block _ (block_lt x1)).trans x1)
  have X2 := Lib.hid x2
  have G0 : Hid (Grew w wd) := Lib.hid (by rw [hwd, hwc, hwb]; (repeat' (first | (with_reducible exact Grew.refl _) | (with_reducible assumption) | (with_reducible refine Grew.drew ?_) | (with_reducible refine Grew.drewN ?_ _) | (with_reducible refine Grew.alloc ?_ _))))
  clear hwb hwc hwd hz2 hz3 x1 x2 bcd
  go_loopw [47] (fun i wr => ∃ j : Nat, i = .int .i64 j ∧ j ≤ 9 ∧ Hid (r = cmpL ((keyE ⟨v1, v2, v3, v4, v5, v6, v7, v8, v9⟩).drop j) ((keyE ⟨n1, n2, n3, n4, n5, n6, n7, n8, n9⟩).drop j) ∧ Grew wd wr)) (fun i _ => 9 - (intOf i).toNat)
  case atStart => exact ⟨0, rfl, by omega, Lib.hid ⟨HE.out, Grew.refl _⟩⟩
  case round =>
    obtain ⟨j, rfl, hj, hrel⟩ := hrel
    have GR := Lib.hid (G0.out.trans hrel.out.2)
    by_cases hlt : j < 9
    · have tj : (j : Int) < 9 := by omega
      have y1 := (hrel.out.2.1.block _ (block_lt X1.out)).trans X1.out
      have y2 := (hrel.out.2.1.block _ (block_lt X2.out)).trans X2.out
      have ca := (cell_at y1 j).trans (KV.out j hlt)
      have cb := (cell_at y2 j).trans (KU.out j hlt)
      have kd := KD.out j hlt
      have z1 := szs (block_lt y1)
      have z2 := szs (block_lt y2)
      obtain ⟨x, hx⟩ : ∃ x, x = (keyE ⟨v1, v2, v3, v4, v5, v6, v7, v8, v9⟩).getD j 0 := ⟨_, rfl⟩
      obtain ⟨y, hy⟩ : ∃ y, y = (keyE ⟨n1, n2, n3, n4, n5, n6, n7, n8, n9⟩).getD j 0 := ⟨_, rfl⟩
      rw [← hx] at ca kd
      rw [← hy] at cb kd
      have CC := Lib.hid (fun w' => cmp101 x y w')
      obtain ⟨c, hc⟩ : ∃ c, c = cmp1 x y := ⟨_, rfl⟩
      rw [← hc] at CC kd
      have hr := hrel.out.1
      rw [kd] at hr
      have HR := Lib.hid hr
      have HG := Lib.hid hrel.out.2
      clear hrel y1 y2 kd hx hy hc hr
      obtain ⟨wo, rfl⟩ : ∃ wo : World, wo = wr := ⟨_, rfl⟩
      go_wp2_with fail
      (obtain ⟨ι, hne, Fw, fb, hF⟩ := dfamily wo); have hF : ∀ w', (dPlan wo (fun _ => .int .i64 c) [6] [] []).D () w' → ∃ i, w' = Fw i := hF
      have f0 := fun i => cell_kept (fb i) ca
      have f1 := fun i => cell_kept (fb i) cb
      clear ca cb
      (refine region_chain (dPlan wo (fun _ => .int .i64 c) [6] [] []) () [] [0, 1, 2, 3, 4, 5, 6, 7] [] mixed (by kernel_rfl) (by kernel_rfl) (dPlan_ok (by simp) (by simp)) (dPlan_start _ _ _ _ _) ?_; refine wpPure_nil ?_; simp only [List.map_cons, List.map_nil, Array.getD_eq_getD_getElem?, List.getElem?_toArray, List.getElem?_cons_zero, List.getElem?_cons_succ, Option.getD_some])
      (repeat (first | (refine wpChain_skip rfl ?_; simp only [Act.put, List.setIfInBounds_toArray, List.set_cons_succ, List.set_cons_zero]) | (refine wpChain_quiet hF rfl rfl rfl ?_; intro K hK; go_big_quiet_op; go_big_quiet_on) | (refine wpChain_pure _ rfl rfl (fun w' _ => by go_simp; try rfl) ?_; simp only [Act.put, List.setIfInBounds_toArray, List.set_cons_succ, List.set_cons_zero])))
      refine wpChain_dcall 101 #[.int .i64 x, .int .i64 y] rfl rfl (fun w' => by go_simp) (fun w' hb => (CC.out w').mono fun _ _ ⟨he, hw⟩ => ⟨he, hw ▸ Grew.refl _⟩) ?_
      simp only [Act.put, List.setIfInBounds_toArray, List.set_cons_succ, List.set_cons_zero]
      (repeat (first | (refine wpChain_skip rfl ?_; simp only [Act.put, List.setIfInBounds_toArray, List.set_cons_succ, List.set_cons_zero]) | (refine wpChain_quiet hF rfl rfl rfl ?_; intro K hK; go_big_quiet_op; go_big_quiet_on) | (refine wpChain_pure _ rfl rfl (fun w' _ => by go_simp; try rfl) ?_; simp only [Act.put, List.setIfInBounds_toArray, List.set_cons_succ, List.set_cons_zero])))
      refine wpChain_nil (fun w4 hb4 hl4 => ?_)
      have B4 : Hid (Grew wo w4) := hb4
      clear hb4 hl4 hF fb f0 f1 hne
      refine onlyN_intro ?_
      by_cases hc : c = 0
      · have t : (c != 0) = false := by simp [hc]
        have hh := HR.out
        rw [if_pos hc] at hh
        have HR2 := Lib.hid hh
        clear hc HR hh
        go_wp2_with fail
        go_roundw
        case rel => exact ⟨j + 1, by go_num, by omega, Lib.hid ⟨HR2.out, HG.out.trans B4.out⟩⟩
        case measure => simp [intOf]; omega
      · have t : (c != 0) = true := by simp [hc]
        have HR2 := Lib.hid (show r = c from by have := HR.out; rw [if_neg hc] at this; exact this)
        clear hc HR
        go_wp2_with fail
        go_returns
        exact ⟨by rw [HR2.out]; rfl, GR.out.trans B4.out⟩
    · obtain rfl : j = 9 := by omega
      have HR2 := Lib.hid (show r = 0 from hrel.out.1)
      clear hrel
      go_wp2_with fail
      go_returns
      exact ⟨by rw [HR2.out]; rfl, GR.out⟩
end Go.Proofs.YtlnfhlmgnppcbaaGreat
namespace Go.Proofs.YtlnfhlmgnppcbaaGreat
open Go.RowKit Go.ChangeShapes Go.WideShapes Go.Deep
set_option linter.unusedVariables false
set_option linter.unusedSimpArgs false
end Go.Proofs.YtlnfhlmgnppcbaaGreat
namespace Go.Proofs.YtlnfhlmgnppcbaaGreat
open Go.RowKit Go.ChangeShapes Go.WideShapes Go.Deep
set_option linter.unusedVariables false
set_option linter.unusedSimpArgs false
def orV (a b c : Int) : Int := if a = 0 then (if b = 0 then c else b) else a
theorem cmpD_or (v u : Ev) : cmpD v u = orV (cmp1 v.dev u.dev) (cmp1 v.seq u.seq) (cmpE v u) := by
  unfold cmpD keyD cmpL orV cmp1
  by_cases a1 : v.dev < u.dev
  · simp [a1]
  · by_cases a2 : u.dev < v.dev
    · simp [a1, a2]
    · simp only [a1, a2, if_false, if_true]
      unfold cmpL
      by_cases b1 : v.seq < u.seq
      · simp [b1]
      · by_cases b2 : u.seq < v.seq
        · simp [b1, b2]
        · simp only [b1, b2, if_false, if_true]; rfl
set_option maxHeartbeats 1000000 in
theorem or100 (b : Nat) (x y z : Int) (w : World) (h : w.heap[b]? = some (.cells #[.int .i64 x, .int .i64 y, .int .i64 z] 3 (0, 0))) : Calls Tryz.prog 100 #[.slice (some ⟨b, 0, none⟩) 3 3] w fun e w' => e = .returned (.int .i64 (orV x y z)) ∧ w = w' := by
  have c0 : w.cell? ⟨b, 0, none⟩ = some (.int .i64 x) := cell_at h 0
  have c1 : w.cell? ⟨b, 1, none⟩ = some (.int .i64 y) := cell_at h 1
  have c2 : w.cell? ⟨b, 2, none⟩ = some (.int .i64 z) := cell_at h 2
  have zb := szs (block_lt h)
  clear h
  obtain ⟨r, hr⟩ : ∃ r, r = orV x y z := ⟨_, rfl⟩
  rw [← hr]
  unfold orV at hr
  by_cases hx : x = 0
  · rw [if_pos hx] at hr
    have tx : (x != 0) = false := by simp [hx]
    by_cases hy : y = 0
    · rw [if_pos hy] at hr
      have ty : (y != 0) = false := by simp [hy]
      by_cases hz : z = 0
      · have tz : (z != 0) = false := by simp [hz]
        have HR := Lib.hid (hr.trans hz)
        clear hx hy hz hr
        go_enter Tryz.func100, Tryz.ntmps100
        go_wp2_with fail
        refine wp_loop_rounds 4 ?_
        iterate 4
          rw [rounds_succ]
          go_wp2_with fail
        go_returns
        exact ⟨by rw [HR.out]; rfl, rfl⟩
      · have tz : (z != 0) = true := by simp [hz]
        have HR := Lib.hid hr
        clear hx hy hz hr
        go_enter Tryz.func100, Tryz.ntmps100
        go_wp2_with fail
        refine wp_loop_rounds 4 ?_
        iterate 3
          rw [rounds_succ]
          go_wp2_with fail
        go_returns
        exact ⟨by rw [HR.out]; rfl, rfl⟩
    · rw [if_neg hy] at hr
      have ty : (y != 0) = true := by simp [hy]
      have HR := Lib.hid hr
      clear hx hy hr
      go_enter Tryz.func100, Tryz.ntmps100
      go_wp2_with fail
      refine wp_loop_rounds 4 ?_
      iterate 2
        rw [rounds_succ]
        go_wp2_with fail
      go_returns
      exact ⟨by rw [HR.out]; rfl, rfl⟩
  · rw [if_neg hx] at hr
    have tx : (x != 0) = true := by simp [hx]
    have HR := Lib.hid hr
    clear hx hr
    go_enter Tryz.func100, Tryz.ntmps100
    go_wp2_with fail
    refine wp_loop_rounds 4 ?_
    iterate 1
      rw [rounds_succ]
      go_wp2_with fail
    go_returns
    exact ⟨by rw [HR.out]; rfl, rfl⟩
end Go.Proofs.YtlnfhlmgnppcbaaGreat
namespace Go.Proofs.YtlnfhlmgnppcbaaGreat
open Go.RowKit Go.ChangeShapes Go.WideShapes Go.Deep
set_option linter.unusedVariables false
set_option linter.unusedSimpArgs false
set_option maxHeartbeats 4000000 in
theorem set99 (v u : Ev) (w : World) : Calls Tryz.prog 99 #[.agg (eC v), .agg (eC u)] w fun e w' => e = .returned (.int .i64 (cmpD v u)) ∧ Grew w w' := by
  have CC := Lib.hid (fun w' => compare102 v u w')
  have C1 := Lib.hid (fun w' => cmp101 v.dev u.dev w')
  have C2 := Lib.hid (fun w' => cmp101 v.seq u.seq w')
  obtain ⟨y1, hy1⟩ : ∃ y1, y1 = cmp1 v.dev u.dev := ⟨_, rfl⟩
  obtain ⟨y2, hy2⟩ : ∃ y2, y2 = cmp1 v.seq u.seq := ⟨_, rfl⟩
  obtain ⟨y3, hy3⟩ : ∃ y3, y3 = cmpE v u := ⟨_, rfl⟩
  have HR : Hid (cmpD v u = orV y1 y2 y3) := Lib.hid (by rw [cmpD_or, hy1, hy2, hy3])
  rw [← hy3] at CC
  rw [← hy1] at C1
  rw [← hy2] at C2
  clear hy1 hy2 hy3
  obtain ⟨r, hr⟩ : ∃ r, r = cmpD v u := ⟨_, rfl⟩
  rw [← hr] at HR ⊢
  clear hr
  unfold eC at *
  obtain ⟨v1, v2, v3, v4, v5, v6, v7, v8, v9⟩ := v
  obtain ⟨n1, n2, n3, n4, n5, n6, n7, n8, n9⟩ := u
  dsimp only at CC C1 C2 ⊢
  go_enter Tryz.func99, Tryz.ntmps99
  go_wp2_with fail
  obtain ⟨wa, hwa⟩ : ∃ wa, wa = w.alloc (.cells #[.int .i64 v1, .int .i64 v2, .int .i64 v3, .int .i64 v4, .int .i64 v5, .int .i64 v6, .int .i64 v7, .int .i64 v8, .int .i64 v9] 81) := ⟨_, rfl⟩
  obtain ⟨wb, hwb⟩ : ∃ wb, wb = wa.alloc (.cells #[.int .i64 n1, .int .i64 n2, .int .i64 n3, .int .i64 n4, .int .i64 n5, .int .i64 n6, .int .i64 n7, .int .i64 n8, .int .i64 n9] 81) := ⟨_, rfl⟩
  rw [← hwa, ← hwb]
  have hz : wa.heap.size = w.heap.size + 1 := by rw [hwa]; simp
  have x1 : wb.heap[w.heap.size]? = some (.cells #[.int .i64 v1, .int .i64 v2, .int .i64 v3, .int .i64 v4, .int .i64 v5, .int .i64 v6, .int .i64 v7, .int .i64 v8, .int .i64 v9] 81) := by
    have e : wa.heap[w.heap.size]? = some (.cells #[.int .i64 v1, .int .i64 v2, .int .i64 v3, .int .i64 v4, .int .i64 v5, .int .i64 v6, .int .i64 v7, .int .i64 v8, .int .i64 v9] 81) := by rw [hwa]; exact heap_alloc_new w _
    have hb : Below wa.heap.size wa wb := by rw [hwb]; exact (Below.refl _ _).alloc (Nat.le_refl _) _
    exact (hb.block _ (block_lt e)).trans e
  have x2 : wb.heap[w.heap.size + 1]? = some (.cells #[.int .i64 n1, .int .i64 n2, .int .i64 n3, .int .i64 n4, .int .i64 n5, .int .i64 n6, .int .i64 n7, .int .i64 n8, .int .i64 n9] 81) := by rw [hwb, ← hz]; exact heap_alloc_new wa _
  have G0 : Hid (Grew w wb) := Lib.hid (by rw [hwb, hwa]; (repeat' (first | (with_reducible exact Grew.refl _) | (with_reducible assumption) | (with_reducible refine Grew.drew ?_) | (with_reducible refine Grew.drewN ?_ _) | (with_reducible refine Grew.alloc ?_ _))))
  clear hwa hwb hz
  obtain ⟨A, hA⟩ : ∃ A, A = w.heap.size := ⟨_, rfl⟩
  obtain ⟨B, hB⟩ : ∃ B, B = w.heap.size + 1 := ⟨_, rfl⟩
  have a0 := cell_at x1 0
  have b0 := cell_at x2 0
  have a1 := cell_at x1 1
  have b1 := cell_at x2 1
  have a2 := cell_at x1 2
  have b2 := cell_at x2 2
  have a3 := cell_at x1 3
  have b3 := cell_at x2 3
  have a4 := cell_at x1 4
  have b4 := cell_at x2 4
  have a5 := cell_at x1 5
  have b5 := cell_at x2 5
  have a6 := cell_at x1 6
  have b6 := cell_at x2 6
  have a7 := cell_at x1 7
  have b7 := cell_at x2 7
  have a8 := cell_at x1 8
  have b8 := cell_at x2 8
  clear x1 x2 hA hB
  (obtain ⟨ι, hne, Fw, fb, hF⟩ := dfamily wb); have hF : ∀ w', (dPlan wb (fun i => if i = 4 then .int .i64 y1 else if i = 9 then .int .i64 y2 else .int .i64 y3) [4, 9, 12] [(13, fun b => .slice (some ⟨b, 0, none⟩) 3 3, .cells #[.int .i64 y1, .int .i64 y2, .int .i64 y3] 3)] []).D () w' → ∃ i, w' = Fw i := hF
  have f0 := fun i => cell_kept (fb i) a0
  have g0 := fun i => cell_kept (fb i) b0
  have f1 := fun i => cell_kept (fb i) a1
  have g1 := fun i => cell_kept (fb i) b1
  have f2 := fun i => cell_kept (fb i) a2
  have g2 := fun i => cell_kept (fb i) b2
  have f3 := fun i => cell_kept (fb i) a3
  have g3 := fun i => cell_kept (fb i) b3
  have f4 := fun i => cell_kept (fb i) a4
  have g4 := fun i => cell_kept (fb i) b4
  have f5 := fun i => cell_kept (fb i) a5
  have g5 := fun i => cell_kept (fb i) b5
  have f6 := fun i => cell_kept (fb i) a6
  have g6 := fun i => cell_kept (fb i) b6
  have f7 := fun i => cell_kept (fb i) a7
  have g7 := fun i => cell_kept (fb i) b7
  have f8 := fun i => cell_kept (fb i) a8
  have g8 := fun i => cell_kept (fb i) b8
  clear a0 b0 a1 b1 a2 b2 a3 b3 a4 b4 a5 b5 a6 b6 a7 b7 a8 b8
  (refine region_chain (dPlan wb (fun i => if i = 4 then .int .i64 y1 else if i = 9 then .int .i64 y2 else .int .i64 y3) [4, 9, 12] [(13, fun b => .slice (some ⟨b, 0, none⟩) 3 3, .cells #[.int .i64 y1, .int .i64 y2, .int .i64 y3] 3)] []) () [] [0, 1, 2, 3, 5, 6, 7, 8, 10, 11, 4, 9, 12, 13] [14, 15] mixed (by kernel_rfl) (by kernel_rfl) (dPlan_ok (by simp) (by simp)) (dPlan_start _ _ _ _ _) ?_; refine wpPure_nil ?_; simp only [List.map_cons, List.map_nil, Array.getD_eq_getD_getElem?, List.getElem?_toArray, List.getElem?_cons_zero, List.getElem?_cons_succ, Option.getD_some])
  (repeat (first | (refine wpChain_skip rfl ?_; simp only [Act.put, List.setIfInBounds_toArray, List.set_cons_succ, List.set_cons_zero]) | (refine wpChain_quiet hF rfl rfl rfl ?_; intro K hK; go_big_quiet_op; go_big_quiet_on) | (refine wpChain_pure _ rfl rfl (fun w' _ => by go_simp; try rfl) ?_; simp only [Act.put, List.setIfInBounds_toArray, List.set_cons_succ, List.set_cons_zero])))
  refine wpChain_dcall 101 #[.int .i64 v1, .int .i64 n1] rfl rfl (fun w' => by go_simp) (fun w' hb => (C1.out w').mono fun _ _ ⟨he, hw⟩ => ⟨he, hw ▸ Grew.refl _⟩) ?_
  simp only [Act.put, List.setIfInBounds_toArray, List.set_cons_succ, List.set_cons_zero]
  refine wpChain_dcall 101 #[.int .i64 v2, .int .i64 n2] rfl rfl (fun w' => by go_simp) (fun w' hb => (C2.out w').mono fun _ _ ⟨he, hw⟩ => ⟨he, hw ▸ Grew.refl _⟩) ?_
  simp only [Act.put, List.setIfInBounds_toArray, List.set_cons_succ, List.set_cons_zero]
  refine wpChain_dcall 102 _ rfl rfl (fun w' => by go_simp) (fun w' hb => CC.out w') ?_
  simp only [Act.put, List.setIfInBounds_toArray, List.set_cons_succ, List.set_cons_zero]
  simp only [if_true, if_false, (by decide : ¬ (9 = 4)), (by decide : ¬ (12 = 4)), (by decide : ¬ (12 = 9))]
  (refine wpChain_alloc _ _ rfl (List.mem_cons_self ..) rfl (fun w' => by go_simp) (fun b1 hb1 => ?_); simp only [Act.put, List.setIfInBounds_toArray, List.set_cons_succ, List.set_cons_zero])
  refine wpChain_nil (fun w4 hb4 hl4 => ?_)
  have B4 : Hid (Grew wb w4) := hb4
  have hx1 : w4.heap[b1]? = some (.cells #[.int .i64 y1, .int .i64 y2, .int .i64 y3] 3) := (hl4.2 (13, b1, .cells #[.int .i64 y1, .int .i64 y2, .int .i64 y3] 3) (by simp)).2
  clear hb4 hl4 hF fb hne f0 f1 f2 f3 f4 f5 f6 f7 f8 g0 g1 g2 g3 g4 g5 g6 g7 g8 CC C1 C2
  have C := Lib.hid (or100 b1 y1 y2 y3 w4 hx1)
  clear hx1
  go_wp2_with fail
  refine C.out.mono ?_
  rintro e w5 ⟨rfl, rfl⟩
  go_wp2_with fail
  refine onlyN_intro ?_
  go_wp2_with fail
  go_returns
  exact ⟨by rw [HR.out]; rfl, G0.out.trans B4.out⟩
end Go.Proofs.YtlnfhlmgnppcbaaGreat
namespace Go.Proofs.YtlnfhlmgnppcbaaGreat
open Go.RowKit Go.ChangeShapes Go.WideShapes Go.Deep
set_option linter.unusedVariables false
set_option linter.unusedSimpArgs false
theorem eqFields_ints (P : Program) (t3 : TypeId) (ht : P.underlying t3 = some (.int .i64)) (hs : ∀ w, (sizeOf t3).run P w = .ok 1 w) (hag : ∀ w, (isAgg t3).run P w = .ok false w) (d : Nat) (xs ys : Array Value) (w : World) : ∀ (fs : List Field) (X Y : Field → Int), (∀ f ∈ fs, f.type = t3 ∧ f.name ≠ "_" ∧ xs[f.offset]? = some (.int .i64 (X f)) ∧ ys[f.offset]? = some (.int .i64 (Y f))) →
    (Op.eqFields (d + 1) xs ys fs).run P w = .ok (fs.all fun f => decide (X f = Y f)) w
  | [], X, Y, _ => rfl
  | f :: fs, X, Y, h => by
    obtain ⟨h1, h2, h3, h4⟩ := h f (by simp)
    have ih := eqFields_ints P t3 ht hs hag d xs ys w fs X Y (fun g hg => h g (by simp [hg]))
    have p1 : (part t3 xs f.offset).run P w = .ok (.int .i64 (X f)) w := by unfold part; simp [hag, hs, h3]
    have p2 : (part t3 ys f.offset).run P w = .ok (.int .i64 (Y f)) w := by unfold part; simp [hag, hs, h4]
    unfold Op.eqFields
    rw [if_pos h2, h1]
    simp only [Sem.run_bind, p1, p2, Result.andThen_ok, run_equalIn_int w d t3 .i64 .i64 _ _ ht]
    by_cases e : X f = Y f
    · simp [e, ih]
    · simp [e]
theorem eq_ints (P : Program) (t t3 : TypeId) (fs : Array Field) (xs ys : List Int) (hu : P.underlying t = some (.struct fs)) (hp : P.stoodInHeld t = false) (ht : P.underlying t3 = some (.int .i64)) (hs : ∀ w, (sizeOf t3).run P w = .ok 1 w) (hag : ∀ w, (isAgg t3).run P w = .ok false w)
    (hf : ∀ f ∈ fs.toList, f.type = t3 ∧ f.name ≠ "_" ∧ f.offset < xs.length ∧ f.offset < ys.length) (hall : (fs.toList.all fun f => decide (xs.getD f.offset 0 = ys.getD f.offset 0)) = decide (xs = ys)) (w : World) :
    (binOp .eql t (.agg (xs.map (Value.int .i64)).toArray) (.agg (ys.map (Value.int .i64)).toArray)).run P w = .ok (.bool (decide (xs = ys))) w ∧ (binOp .neq t (.agg (xs.map (Value.int .i64)).toArray) (.agg (ys.map (Value.int .i64)).toArray)).run P w = .ok (.bool (!decide (xs = ys))) w := by
  have hfo : P.fieldsOf t = fs := by unfold Program.fieldsOf; rw [hu]
  have hE : (Op.equalIn 10000 t (.agg (xs.map (Value.int .i64)).toArray) (.agg (ys.map (Value.int .i64)).toArray)).run P w = .ok (decide (xs = ys)) w := by
    rw [run_equalIn_struct w 9999 t _ _ (by rw [hfo]; exact hu) hp, hfo, eqFields_ints P t3 ht hs hag 9998 _ _ w fs.toList (fun f => xs.getD f.offset 0) (fun f => ys.getD f.offset 0) (fun f hf' => ?_), hall]
    obtain ⟨h1, h2, h3, h4⟩ := hf f hf'
    exact ⟨h1, h2, by simp [List.getElem?_eq_getElem h3, List.getD], by simp [List.getElem?_eq_getElem h4, List.getD]⟩
  rw [run_eql_struct, run_neq_struct, hE]
  exact ⟨rfl, rfl⟩
theorem exec_eql {P : Program} {ρ : Operand → Value} {o : Oper} {op : BinOp} {t t2 : TypeId} {x y : Operand} {xs ys : Array Value} {r : Value} {w : World} (ho : o.op = .binOp op t x y t2) (hx : ρ x = .agg xs) (hy : ρ y = .agg ys) (hg : P.eqGuardType P.depth t = false) (hb : (binOp op t (.agg xs) (.agg ys)).run P w = .ok r w) (hop : op = .eql ∨ op = .neq) : (execOp ρ o).run P w = .ok (.value r) w := by
  rcases hop with rfl | rfl
  all_goals
    unfold execOp
    rw [ho]
    dsimp only
    rw [hx, hy]
    simp [run_eqGuard_agg w _ t x y xs ys hg, hb]
theorem eqNum (a b c d : Int) (w : World) : (binOp .eql 173 (.agg #[.int .i64 a, .int .i64 b]) (.agg #[.int .i64 c, .int .i64 d])).run Tryz.prog w = .ok (.bool (decide (a = c) && decide (b = d))) w := by
  have h := (eq_ints Tryz.prog 173 3 _ [a, b] [c, d] Tryz.underlying173 (by kernel_rfl) (by kernel_rfl) (fun w => by kernel_rfl) (fun w => by kernel_rfl) (by simp) (by simp [Bool.decide_and]) w).1
  simpa [Bool.decide_and] using h
def lE (v : Ev) : List Int := [v.dev, v.seq, v.at', v.late, v.kind, v.bike, v.place, v.rider, v.ride]
theorem number105 (v : Ev) (w : World) : Calls Tryz.prog 105 #[.agg (eC v)] w fun e w' => e = .returned (.agg #[.int .i64 v.dev, .int .i64 v.seq]) ∧ Grew w w' := by
  unfold eC at *
  obtain ⟨v1, v2, v3, v4, v5, v6, v7, v8, v9⟩ := v
  dsimp only
  go_enter Tryz.func105, Tryz.ntmps105
  go_wp2_with fail
  go_returns
  exact ⟨rfl, by (repeat' (first | (with_reducible exact Grew.refl _) | (with_reducible assumption) | (with_reducible refine Grew.drew ?_) | (with_reducible refine Grew.drewN ?_ _) | (with_reducible refine Grew.alloc ?_ _)))⟩
set_option maxHeartbeats 1000000 in
theorem set104 (v u : Ev) (w : World) : Calls Tryz.prog 104 #[.agg (eC v), .agg (eC u)] w fun e w' => e = .returned (.bool (sameN v u)) ∧ Grew w w' := by
  have C1 := Lib.hid (fun w' => number105 v w')
  have C2 := Lib.hid (fun w' => number105 u w')
  have EQ := Lib.hid (fun w' => eqNum v.dev v.seq u.dev u.seq w')
  obtain ⟨r, hr⟩ : ∃ r, r = sameN v u := ⟨_, rfl⟩
  have e : (decide (v.dev = u.dev) && decide (v.seq = u.seq)) = r := hr ▸ rfl
  rw [e] at EQ
  rw [← hr]
  clear hr e
  unfold eC at *
  obtain ⟨v1, v2, v3, v4, v5, v6, v7, v8, v9⟩ := v
  obtain ⟨n1, n2, n3, n4, n5, n6, n7, n8, n9⟩ := u
  dsimp only at C1 C2 EQ ⊢
  go_enter Tryz.func104, Tryz.ntmps104
  go_wp2_with fail
  obtain ⟨wa, hwa⟩ : ∃ wa, wa = w.alloc (.cells #[.int .i64 v1, .int .i64 v2, .int .i64 v3, .int .i64 v4, .int .i64 v5, .int .i64 v6, .int .i64 v7, .int .i64 v8, .int .i64 v9] 81) := ⟨_, rfl⟩
  obtain ⟨wb, hwb⟩ : ∃ wb, wb = wa.alloc (.cells #[.int .i64 n1, .int .i64 n2, .int .i64 n3, .int .i64 n4, .int .i64 n5, .int .i64 n6, .int .i64 n7, .int .i64 n8, .int .i64 n9] 81) := ⟨_, rfl⟩
  rw [← hwa, ← hwb]
  have hz : wa.heap.size = w.heap.size + 1 := by rw [hwa]; simp
  have x1 : wb.heap[w.heap.size]? = some (.cells #[.int .i64 v1, .int .i64 v2, .int .i64 v3, .int .i64 v4, .int .i64 v5, .int .i64 v6, .int .i64 v7, .int .i64 v8, .int .i64 v9] 81) := by
    have e : wa.heap[w.heap.size]? = some (.cells #[.int .i64 v1, .int .i64 v2, .int .i64 v3, .int .i64 v4, .int .i64 v5, .int .i64 v6, .int .i64 v7, .int .i64 v8, .int .i64 v9] 81) := by rw [hwa]; exact heap_alloc_new w _
    have hb : Below wa.heap.size wa wb := by rw [hwb]; exact (Below.refl _ _).alloc (Nat.le_refl _) _
    exact (hb.block _ (block_lt e)).trans e
  have x2 : wb.heap[w.heap.size + 1]? = some (.cells #[.int .i64 n1, .int .i64 n2, .int .i64 n3, .int .i64 n4, .int .i64 n5, .int .i64 n6, .int .i64 n7, .int .i64 n8, .int .i64 n9] 81) := by rw [hwb, ← hz]; exact heap_alloc_new wa _
  have G0 : Hid (Grew w wb) := Lib.hid (by rw [hwb, hwa]; (repeat' (first | (with_reducible exact Grew.refl _) | (with_reducible assumption) | (with_reducible refine Grew.drew ?_) | (with_reducible refine Grew.drewN ?_ _) | (with_reducible refine Grew.alloc ?_ _))))
  clear hwa hwb hz
  have a0 := cell_at x1 0
  have b0 := cell_at x2 0
  have a1 := cell_at x1 1
  have b1 := cell_at x2 1
  have a2 := cell_at x1 2
  have b2 := cell_at x2 2
  have a3 := cell_at x1 3
  have b3 := cell_at x2 3
  have a4 := cell_at x1 4
  have b4 := cell_at x2 4
  have a5 := cell_at x1 5
  have b5 := cell_at x2 5
  have a6 := cell_at x1 6
  have b6 := cell_at x2 6
  have a7 := cell_at x1 7
  have b7 := cell_at x2 7
  have a8 := cell_at x1 8
  have b8 := cell_at x2 8
  clear x1 x2
  (obtain ⟨ι, hne, Fw, fb, hF⟩ := dfamily wb); have hF : ∀ w', (dPlan wb (fun i => if i = 1 then .agg #[.int .i64 v1, .int .i64 v2] else .agg #[.int .i64 n1, .int .i64 n2]) [1, 3] [] []).D () w' → ∃ i, w' = Fw i := hF
  have f0 := fun i => cell_kept (fb i) a0
  have g0 := fun i => cell_kept (fb i) b0
  have f1 := fun i => cell_kept (fb i) a1
  have g1 := fun i => cell_kept (fb i) b1
  have f2 := fun i => cell_kept (fb i) a2
  have g2 := fun i => cell_kept (fb i) b2
  have f3 := fun i => cell_kept (fb i) a3
  have g3 := fun i => cell_kept (fb i) b3
  have f4 := fun i => cell_kept (fb i) a4
  have g4 := fun i => cell_kept (fb i) b4
  have f5 := fun i => cell_kept (fb i) a5
  have g5 := fun i => cell_kept (fb i) b5
  have f6 := fun i => cell_kept (fb i) a6
  have g6 := fun i => cell_kept (fb i) b6
  have f7 := fun i => cell_kept (fb i) a7
  have g7 := fun i => cell_kept (fb i) b7
  have f8 := fun i => cell_kept (fb i) a8
  have g8 := fun i => cell_kept (fb i) b8
  clear a0 b0 a1 b1 a2 b2 a3 b3 a4 b4 a5 b5 a6 b6 a7 b7 a8 b8
  (refine region_chain (dPlan wb (fun i => if i = 1 then .agg #[.int .i64 v1, .int .i64 v2] else .agg #[.int .i64 n1, .int .i64 n2]) [1, 3] [] []) () [] [0, 2, 1, 3, 4, 5] [] mixed (by kernel_rfl) (by kernel_rfl) (dPlan_ok (by simp) (by simp)) (dPlan_start _ _ _ _ _) ?_; refine wpPure_nil ?_; simp only [List.map_cons, List.map_nil, Array.getD_eq_getD_getElem?, List.getElem?_toArray, List.getElem?_cons_zero, List.getElem?_cons_succ, Option.getD_some])
  (repeat (first | (refine wpChain_skip rfl ?_; simp only [Act.put, List.setIfInBounds_toArray, List.set_cons_succ, List.set_cons_zero]) | (refine wpChain_quiet hF rfl rfl rfl ?_; intro K hK; go_big_quiet_op; go_big_quiet_on) | (refine wpChain_pure _ rfl rfl (fun w' _ => by go_simp; try rfl) ?_; simp only [Act.put, List.setIfInBounds_toArray, List.set_cons_succ, List.set_cons_zero])))
  refine wpChain_dcall 105 _ rfl rfl (fun w' => by go_simp) (fun w' hb => C1.out w') ?_
  simp only [Act.put, List.setIfInBounds_toArray, List.set_cons_succ, List.set_cons_zero]
  refine wpChain_dcall 105 _ rfl rfl (fun w' => by go_simp) (fun w' hb => C2.out w') ?_
  simp only [Act.put, List.setIfInBounds_toArray, List.set_cons_succ, List.set_cons_zero]
  simp only [if_true, if_false, (by decide : ¬ (3 = 1))]
  refine wpChain_pure (.bool r) rfl rfl (fun w' _ => exec_eql rfl rfl rfl Tryz.eqGuardType173 (EQ.out w') (.inl rfl)) ?_
  simp only [Act.put, List.setIfInBounds_toArray, List.set_cons_succ, List.set_cons_zero]
  (repeat (first | (refine wpChain_skip rfl ?_; simp only [Act.put, List.setIfInBounds_toArray, List.set_cons_succ, List.set_cons_zero]) | (refine wpChain_quiet hF rfl rfl rfl ?_; intro K hK; go_big_quiet_op; go_big_quiet_on) | (refine wpChain_pure _ rfl rfl (fun w' _ => by go_simp; try rfl) ?_; simp only [Act.put, List.setIfInBounds_toArray, List.set_cons_succ, List.set_cons_zero])))
  refine wpChain_nil (fun w4 hb4 hl4 => ?_)
  have B4 : Hid (Grew wb w4) := hb4
  clear hb4 hl4 hF fb hne f0 f1 f2 f3 f4 f5 f6 f7 f8 g0 g1 g2 g3 g4 g5 g6 g7 g8 C1 C2 EQ
  go_wp2_with fail
  refine onlyN_intro ?_
  go_wp2_with fail
  go_returns
  exact ⟨rfl, G0.out.trans B4.out⟩
end Go.Proofs.YtlnfhlmgnppcbaaGreat
namespace Go.Proofs.YtlnfhlmgnppcbaaGreat
open Go.Shelf
def sort42_ren : Go.Shelf.Ren := ⟨fun | 6 => 98 | 15 => 129 | 14 => 128 | 28 => 153 | 29 => 154 | 20 => 145 | 21 => 146 | 22 => 147 | 23 => 148 | 24 => 149 | 25 => 150 | 26 => 151 | 27 => 152 | 46 => 164 | 47 => 165 | 48 => 166 | 49 => 167 | 50 => 168 | 57 => 175 | n => n, fun | 22 => 25 | 24 => 81 | 25 => 170 | 3 => 3 | 39 => 198 | 0 => 0 | 53 => 225 | 55 => 227 | 4 => 4 | 46 => 218 | 45 => 217 | 50 => 222 | 5 => 5 | 9 => 9 | 66 => 238 | 70 => 242 | 76 => 253 | 77 => 237 | n => n, fun | n => n⟩
theorem sort98 : Go.Proofs.SlLaysF0.n6 Tryz.prog sort42_ren := {
  mixed := by kernel_rfl
  f6 := ⟨Tryz.f98.name, by decide, Tryz.func98.trans (congrArg some (by kernel_rfl))⟩
  f14 := ⟨Tryz.f128.name, by decide, Tryz.func128.trans (congrArg some (by kernel_rfl))⟩
  f15 := Tryz.func129.trans (congrArg some (by kernel_rfl))
  f20 := ⟨Tryz.f145.name, by decide, Tryz.func145.trans (congrArg some (by kernel_rfl))⟩
  f21 := ⟨Tryz.f146.name, by decide, Tryz.func146.trans (congrArg some (by kernel_rfl))⟩
  f22 := ⟨Tryz.f147.name, by decide, Tryz.func147.trans (congrArg some (by kernel_rfl))⟩
  f23 := ⟨Tryz.f148.name, by decide, Tryz.func148.trans (congrArg some (by kernel_rfl))⟩
  f24 := ⟨Tryz.f149.name, by decide, Tryz.func149.trans (congrArg some (by kernel_rfl))⟩
  f25 := ⟨Tryz.f150.name, by decide, Tryz.func150.trans (congrArg some (by kernel_rfl))⟩
  f26 := ⟨Tryz.f151.name, by decide, Tryz.func151.trans (congrArg some (by kernel_rfl))⟩
  f27 := ⟨Tryz.f152.name, by decide, Tryz.func152.trans (congrArg some (by kernel_rfl))⟩
  f28 := Tryz.func153.trans (congrArg some (by kernel_rfl))
  f29 := Tryz.func154.trans (congrArg some (by kernel_rfl))
  f46 := ⟨Tryz.f164.name, by decide, Tryz.func164.trans (congrArg some (by kernel_rfl))⟩
  f47 := Tryz.func165.trans (congrArg some (by kernel_rfl))
  f48 := Tryz.func166.trans (congrArg some (by kernel_rfl))
  f49 := ⟨Tryz.f167.name, by decide, Tryz.func167.trans (congrArg some (by kernel_rfl))⟩
  f50 := ⟨Tryz.f168.name, by decide, Tryz.func168.trans (congrArg some (by kernel_rfl))⟩
  f57 := ⟨Tryz.f175.name, by decide, Tryz.func175.trans (congrArg some (by kernel_rfl))⟩
  t0 := Tryz.underlying0
  a0 := Tryz.isAgg0
  z0 := Tryz.sizeOf0
  v0 := Tryz.zeroValue0
  t3 := Tryz.underlying3
  a3 := Tryz.isAgg3
  z3 := Tryz.sizeOf3
  v3 := Tryz.zeroValue3
  t4 := Tryz.underlying4
  a4 := Tryz.isAgg4
  z4 := Tryz.sizeOf4
  v4 := Tryz.zeroValue4
  t5 := Tryz.underlying5
  a5 := Tryz.isAgg5
  z5 := Tryz.sizeOf5
  v5 := Tryz.zeroValue5
  t9 := Tryz.underlying9
  a9 := Tryz.isAgg9
  z9 := Tryz.sizeOf9
  v9 := Tryz.zeroValue9
  t22 := Tryz.underlying25
  a22 := Tryz.isAgg25
  z22 := Tryz.sizeOf25
  v22 := Tryz.zeroValue25
  t25 := Tryz.underlying170
  a25 := Tryz.isAgg170
  z25 := Tryz.sizeOf170
  v25 := Tryz.zeroValue170
  t39 := Tryz.underlying198
  a39 := Tryz.isAgg198
  z39 := Tryz.sizeOf198
  v39 := Tryz.zeroValue198
  t45 := Tryz.underlying217
  a45 := Tryz.isAgg217
  z45 := Tryz.sizeOf217
  v45 := Tryz.zeroValue217
  t46 := Tryz.underlying218
  a46 := Tryz.isAgg218
  z46 := Tryz.sizeOf218
  v46 := Tryz.zeroValue218
  t50 := Tryz.underlying222
  a50 := Tryz.isAgg222
  z50 := Tryz.sizeOf222
  v50 := Tryz.zeroValue222
  t53 := Tryz.underlying225
  a53 := Tryz.isAgg225
  z53 := Tryz.sizeOf225
  v53 := Tryz.zeroValue225
  t55 := Tryz.underlying227
  a55 := Tryz.isAgg227
  z55 := Tryz.sizeOf227
  v55 := Tryz.zeroValue227
  t66 := Tryz.underlying238
  a66 := Tryz.isAgg238
  z66 := Tryz.sizeOf238
  v66 := Tryz.zeroValue238
  t70 := Tryz.underlying242
  a70 := Tryz.isAgg242
  z70 := Tryz.sizeOf242
  v70 := Tryz.zeroValue242
  t76 := Tryz.underlying253
  a76 := Tryz.isAgg253
  z76 := Tryz.sizeOf253
  v76 := Tryz.zeroValue253
  t77 := Tryz.underlying237
  a77 := Tryz.isAgg237
  z77 := Tryz.sizeOf237
  v77 := Tryz.zeroValue237 }
def clone41_ren : Go.Shelf.Ren := ⟨fun | 41 => 97 | n => n, fun | 22 => 25 | 23 => 81 | 4 => 4 | n => n, fun | n => n⟩
end Go.Proofs.YtlnfhlmgnppcbaaGreat
namespace Go.Proofs.YtlnfhlmgnppcbaaGreat
open Go.RowKit Go.ChangeShapes Go.WideShapes Go.Deep
set_option linter.unusedVariables false
set_option linter.unusedSimpArgs false
def evs (v : Ev) : List Value := [.int .i64 v.dev, .int .i64 v.seq, .int .i64 v.at', .int .i64 v.late, .int .i64 v.kind, .int .i64 v.bike, .int .i64 v.place, .int .i64 v.rider, .int .i64 v.ride]
theorem evs_len (v : Ev) : (evs v).length = 9 := rfl
def EvRow (w : World) (base : Nat) (v : Value) (n : Nat) (F : Nat → Ev) : Prop := Row w base 81 9 v n (fun i => evs (F i))
structure EvAt (w : World) (b o : Nat) (v : Ev) : Prop where
  c0 : w.cell? ⟨b, o, none⟩ = some (.int .i64 v.dev)
  c1 : w.cell? ⟨b, o + 1, none⟩ = some (.int .i64 v.seq)
  c2 : w.cell? ⟨b, o + 2, none⟩ = some (.int .i64 v.at')
  c3 : w.cell? ⟨b, o + 3, none⟩ = some (.int .i64 v.late)
  c4 : w.cell? ⟨b, o + 4, none⟩ = some (.int .i64 v.kind)
  c5 : w.cell? ⟨b, o + 5, none⟩ = some (.int .i64 v.bike)
  c6 : w.cell? ⟨b, o + 6, none⟩ = some (.int .i64 v.place)
  c7 : w.cell? ⟨b, o + 7, none⟩ = some (.int .i64 v.rider)
  c8 : w.cell? ⟨b, o + 8, none⟩ = some (.int .i64 v.ride)
theorem EvAt.of {w : World} {b o : Nat} {v : Ev} (h : ∀ j, j < 9 → w.cell? ⟨b, o + j, none⟩ = (evs v)[j]?) : EvAt w b o v :=
  ⟨h 0 (by decide), h 1 (by decide), h 2 (by decide), h 3 (by decide), h 4 (by decide), h 5 (by decide), h 6 (by decide), h 7 (by decide), h 8 (by decide)⟩
theorem EvRow.at {w : World} {base b n c : Nat} {F : Nat → Ev} (h : EvRow w base (.slice (some ⟨b, 0, none⟩) n c) n F) {i : Nat} (hi : i < n) : EvAt w b (i * 9) (F i) :=
  EvAt.of fun j hj => Row.cell h (fun i => rfl) hi hj
theorem EvRow.at2 {w : World} {base b n c : Nat} {F : Nat → Ev} (h : EvRow w base (.slice (some ⟨b, 0, none⟩) n c) n F) {k i : Nat} (hi : k + i < n) : EvAt w b (k * 9 + i * 9) (F (k + i)) := by
  rw [← Nat.add_mul]; exact h.at hi
theorem EvRow.put {w : World} {base b n c : Nat} {F : Nat → Ev} (h : EvRow w base (.slice (some ⟨b, 0, none⟩) n c) n F) {i : Nat} (hi : i < n) (x : Ev) : EvRow (putCells w b (i * 9) (evs x)) base (.slice (some ⟨b, 0, none⟩) n c) n (upd F i x) :=
  Row.congr (Row.put h (fun i => rfl) hi (evs x) rfl) fun j _ => by
    by_cases hj : j = i
    · subst hj; rw [upd_same, upd_same]
    · rw [upd_ne hj, upd_ne hj]
def Compacted (w : World) (base b n c : Nat) (F : Nat → Ev) (e : Ending) (w' : World) : Prop :=
  ∃ (m : Nat) (F' : Nat → Ev), e = .returned (.slice (some ⟨b, 0, none⟩) m c) ∧ m ≤ n ∧ ents F' m = firstsE (ents F n) ∧ EvRow w' base (.slice (some ⟨b, 0, none⟩) m c) m F' ∧ Off (fun k => k = b) w w'
set_option maxHeartbeats 4000000 in
theorem compact103 (base b n c : Nat) (F : Nat → Ev) (w : World) (hR : EvRow w base (.slice (some ⟨b, 0, none⟩) n c) n F) : Calls Tryz.prog 103 #[.slice (some ⟨b, 0, none⟩) n c, .func (.func 104) #[] #[]] w (Compacted w base b n c F) := by
  obtain ⟨hb, hn, hc⟩ : b < w.heap.size ∧ n ≤ c ∧ c ≤ 9223372036854775807 := by
    rcases Row.shape hR with ⟨h, _⟩ | ⟨g', cap', he, _, h1, h2, h3⟩
    · cases h
    · cases he; exact ⟨h1, h2, h3⟩
  have HR := Lib.hid hR
  clear hR
  have zb := szs hb
  by_cases h2 : n < 2
  · have t2 : (n : Int) < 2 := by omega
    have HF := Lib.hid (firsts_few F h2)
    clear h2
    go_enter Tryz.func103, Tryz.ntmps103
    go_wp2_with fail
    go_returns
    exact ⟨n, F, rfl, Nat.le_refl _, HF.out.symm, HR.out, Off.refl _ _⟩
  · have t2 : (2 : Int) ≤ (n : Int) := by omega
    go_enter Tryz.func103, Tryz.ntmps103
    go_wp2_with fail
    go_loopw [5] (fun i wr => ∃ k : Nat, i = .int .i64 k ∧ 1 ≤ k ∧ k ≤ n ∧ Hid (firstsE (ents F k) = ents F k ∧ Below w.heap.size w wr)) (fun i _ => n - (intOf i).toNat)
    case atStart => exact ⟨1, rfl, by omega, by omega, Lib.hid ⟨rfl, by (repeat' (first | (with_reducible exact Below.refl _ _) | (with_reducible assumption) | (with_reducible refine Below.drew ?_) | (with_reducible refine below_drewN ?_ _) | (with_reducible refine Below.alloc ?_ ?_ _) | (with_reducible refine Below.setCell ?_ ?_ _) | go_size))⟩⟩
    case round =>
      obtain ⟨k, rfl, hk1, hk, hrel⟩ := hrel
      obtain ⟨kk, rfl⟩ : ∃ kk, k = kk + 1 := ⟨k - 1, by omega⟩
      by_cases hlt : kk + 1 < n
      · have k1 : ((kk : Int) + 1) < (n : Int) := by omega
        have k2 : (kk : Int) < (n : Int) := by omega
        have C47 := fun w' => set104 (F (kk + 1)) (F kk) w'
        have RR : EvRow wr base (.slice (some ⟨b, 0, none⟩) n c) n F := Row.off (X := fun _ => False) HR.out (Off.of_below hrel.out.2) (fun _ _ h => h)
        have A1 := RR.at hlt
        have A0 := RR.at (show kk < n by omega)
        have zr := szs (Nat.lt_of_lt_of_le hb hrel.out.2.size)
        obtain ⟨r, hr⟩ : ∃ r, r = sameN (F (kk + 1)) (F kk) := ⟨_, rfl⟩
        obtain ⟨v, hv⟩ : ∃ v, v = F (kk + 1) := ⟨_, rfl⟩
        obtain ⟨u, hu⟩ : ∃ u, u = F kk := ⟨_, rfl⟩
        rw [← hr] at C47
        rw [← hv] at A1 C47
        rw [← hu] at A0 C47
        have HV := Lib.hid hv
        have HU := Lib.hid hu
        have HS := Lib.hid hr
        clear RR hr hv hu
        unfold eC at C47
        obtain ⟨v1, v2, v3, v4, v5, v6, v7, v8, v9⟩ := v
        obtain ⟨n1, n2, n3, n4, n5, n6, n7, n8, n9⟩ := u
        (have a0 := (A1).c0; have a1 := (A1).c1; have a2 := (A1).c2; have a3 := (A1).c3; have a4 := (A1).c4; have a5 := (A1).c5; have a6 := (A1).c6; have a7 := (A1).c7; have a8 := (A1).c8); (try dsimp only at a0 a1 a2 a3 a4 a5 a6 a7 a8)
        (have d0 := (A0).c0; have d1 := (A0).c1; have d2 := (A0).c2; have d3 := (A0).c3; have d4 := (A0).c4; have d5 := (A0).c5; have d6 := (A0).c6; have d7 := (A0).c7; have d8 := (A0).c8); (try dsimp only at d0 d1 d2 d3 d4 d5 d6 d7 d8)
        dsimp only at C47
        have C47 := Lib.hid C47
        clear A1 A0
        have HREL := hrel
        clear hrel
        go_wp2_with fail
        (obtain ⟨ι, hne, Fw, fb, hF⟩ := dfamily wr); have hF : ∀ w', (dPlan wr (fun i => .bool r) [10] [] []).D () w' → ∃ i, w' = Fw i := hF
        (have f0 := fun i => cell_kept (fb i) a0; have f1 := fun i => cell_kept (fb i) a1; have f2 := fun i => cell_kept (fb i) a2; have f3 := fun i => cell_kept (fb i) a3; have f4 := fun i => cell_kept (fb i) a4; have f5 := fun i => cell_kept (fb i) a5; have f6 := fun i => cell_kept (fb i) a6; have f7 := fun i => cell_kept (fb i) a7; have f8 := fun i => cell_kept (fb i) a8); (clear a0 a1 a2 a3 a4 a5 a6 a7 a8)
        (have g0 := fun i => cell_kept (fb i) d0; have g1 := fun i => cell_kept (fb i) d1; have g2 := fun i => cell_kept (fb i) d2; have g3 := fun i => cell_kept (fb i) d3; have g4 := fun i => cell_kept (fb i) d4; have g5 := fun i => cell_kept (fb i) d5; have g6 := fun i => cell_kept (fb i) d6; have g7 := fun i => cell_kept (fb i) d7; have g8 := fun i => cell_kept (fb i) d8); (clear d0 d1 d2 d3 d4 d5 d6 d7 d8)
        (refine region_chain (dPlan wr (fun i => .bool r) [10] [] []) () [] [0, 1, 2, 3, 4, 5, 6, 7, 8, 9, 10] [] mixed (by kernel_rfl) (by kernel_rfl) (dPlan_ok (by simp) (by simp)) (dPlan_start _ _ _ _ _) ?_; refine wpPure_nil ?_; simp only [List.map_cons, List.map_nil, Array.getD_eq_getD_getElem?, List.getElem?_toArray, List.getElem?_cons_zero, List.getElem?_cons_succ, Option.getD_some])
        (repeat (first | (refine wpChain_skip rfl ?_; simp only [Act.put, List.setIfInBounds_toArray, List.set_cons_succ, List.set_cons_zero]) | (refine wpChain_quiet hF rfl rfl rfl ?_; intro K hK; go_big_quiet_op; go_big_quiet_on) | (refine wpChain_pure _ rfl rfl (fun w' _ => by go_simp; try rfl) ?_; simp only [Act.put, List.setIfInBounds_toArray, List.set_cons_succ, List.set_cons_zero])))
        refine wpChain_dcall 104 _ rfl rfl (fun w' => by go_simp) (fun w' hb => C47.out w') ?_
        simp only [Act.put, List.setIfInBounds_toArray, List.set_cons_succ, List.set_cons_zero]
        refine wpChain_nil (fun w4 hb4 hl4 => ?_)
        have B4 : Hid (Grew wr w4) := hb4
        clear hb4 hl4 hF fb hne C47 f0 f1 f2 f3 f4 f5 f6 f7 f8 g0 g1 g2 g3 g4 g5 g6 g7 g8
        go_wp2_with fail
        refine onlyN_intro ?_
        cases r
        · go_wp2_with fail
          go_roundw
          case rel => 
            refine ⟨kk + 2, by go_num, by omega, by omega, Lib.hid ⟨?_, ?_⟩⟩
            · rw [firsts_step F (by omega), HREL.out.1, ents_succ F (kk + 1), if_neg]
              rw [Nat.add_sub_cancel, sameN_comm, ← HS.out]; decide
            · exact HREL.out.2.trans (B4.out.1.mono HREL.out.2.size)
          case measure => simp [intOf]; omega
        · have HEQ : Hid (firstsE (ents F (kk + 2)) = ents F (kk + 1)) := Lib.hid (by
            rw [firsts_step F (show 0 < kk + 1 by omega), if_pos (by rw [Nat.add_sub_cancel, sameN_comm, ← HS.out]), HREL.out.1])
          have BW := Lib.hid (HREL.out.2.trans (B4.out.1.mono HREL.out.2.size))
          have O4 := Lib.hid (Off.of_below (X := fun k => k = b) BW.out)
          clear HREL B4 C47 HS HV HU hF zr
          go_wp2_with fail
          obtain ⟨m, hm⟩ : ∃ m, n - (kk + 1) = m := ⟨_, rfl⟩
          obtain ⟨c2, hc2⟩ : ∃ c2, c - (kk + 1) = c2 := ⟨_, rfl⟩
          rw [hm, hc2]
          have hmn : kk + 1 + m = n := by omega
          have hm1 : m ≤ c2 := by omega
          have hm2 : c2 ≤ 9223372036854775807 := by omega
          clear hm hc2 ι Fw
          go_loopw [5, 7] (fun s5 s7 wr => ∃ (j i : Nat) (F' : Nat → Ev), s5 = .int .i64 j ∧ s7 = .int .i64 ((i : Int) + 1) ∧ i + 1 ≤ m ∧ j ≤ kk + 1 + i ∧ Hid (ents F' j = firstsE (ents F (kk + 1 + (i + 1))) ∧ (∀ x, j ≤ x → F' x = F x) ∧ EvRow wr base (.slice (some ⟨b, 0, none⟩) n c) n F' ∧ Off (fun k => k = b) w wr)) (fun _ s7 _ => m - (intOf s7).toNat)
          case atStart => exact ⟨kk + 1, 0, F, rfl, rfl, by omega, by omega, Lib.hid ⟨HEQ.out.symm, fun x _ => rfl, Row.off (X := fun _ => False) HR.out (Off.of_below BW.out) (fun _ _ h => h), O4.out⟩⟩
          case round =>
            obtain ⟨j, i, F', rfl, rfl, hi, hj, hrel⟩ := hrel
            have HREL := hrel
            clear hrel O4 BW HEQ
            have zr := szs (Nat.lt_of_lt_of_le hb HREL.out.2.2.2.size)
            by_cases hlt2 : i + 1 < m
            · have i1 : ((i : Int) + 1) < (m : Int) := by omega
              have i2 : (i : Int) < (m : Int) := by omega
              have RR := HREL.out.2.2.1
              have A1 := RR.at2 (k := kk + 1) (i := i + 1) (by omega)
              have A0 := RR.at2 (k := kk + 1) (i := i) (by omega)
              have e1 : F' (kk + 1 + (i + 1)) = F (kk + 1 + (i + 1)) := HREL.out.2.1 _ (by omega)
              have e0 : F' (kk + 1 + i) = F (kk + 1 + i) := HREL.out.2.1 _ (by omega)
              rw [e1] at A1
              rw [e0] at A0
              have C47 := fun w' => set104 (F (kk + 1 + (i + 1))) (F (kk + 1 + i)) w'
              obtain ⟨r, hr⟩ : ∃ r, r = sameN (F (kk + 1 + (i + 1))) (F (kk + 1 + i)) := ⟨_, rfl⟩
              obtain ⟨v, hv⟩ : ∃ v, v = F (kk + 1 + (i + 1)) := ⟨_, rfl⟩
              obtain ⟨u, hu⟩ : ∃ u, u = F (kk + 1 + i) := ⟨_, rfl⟩
              rw [← hr] at C47
              rw [← hv] at A1 C47
              rw [← hu] at A0 C47
              have HV := Lib.hid hv
              have HS := Lib.hid hr
              clear RR hr hv hu e1 e0
              unfold eC at C47
              obtain ⟨x1, x2, x3, x4, x5, x6, x7, x8, x9⟩ := v
              obtain ⟨y1, y2, y3, y4, y5, y6, y7, y8, y9⟩ := u
              (have a0 := (A1).c0; have a1 := (A1).c1; have a2 := (A1).c2; have a3 := (A1).c3; have a4 := (A1).c4; have a5 := (A1).c5; have a6 := (A1).c6; have a7 := (A1).c7; have a8 := (A1).c8); (try dsimp only at a0 a1 a2 a3 a4 a5 a6 a7 a8)
              (have d0 := (A0).c0; have d1 := (A0).c1; have d2 := (A0).c2; have d3 := (A0).c3; have d4 := (A0).c4; have d5 := (A0).c5; have d6 := (A0).c6; have d7 := (A0).c7; have d8 := (A0).c8); (try dsimp only at d0 d1 d2 d3 d4 d5 d6 d7 d8)
              dsimp only at C47
              have C47 := Lib.hid C47
              clear A1 A0
              go_wp2_with fail
              (obtain ⟨ι, hne, Fw, fb, hF⟩ := dfamily wr); have hF : ∀ w', (dPlan wr (fun i => .bool r) [10] [] []).D () w' → ∃ i, w' = Fw i := hF
              (have f0 := fun i => cell_kept (fb i) a0; have f1 := fun i => cell_kept (fb i) a1; have f2 := fun i => cell_kept (fb i) a2; have f3 := fun i => cell_kept (fb i) a3; have f4 := fun i => cell_kept (fb i) a4; have f5 := fun i => cell_kept (fb i) a5; have f6 := fun i => cell_kept (fb i) a6; have f7 := fun i => cell_kept (fb i) a7; have f8 := fun i => cell_kept (fb i) a8); (clear a0 a1 a2 a3 a4 a5 a6 a7 a8)
              (have g0 := fun i => cell_kept (fb i) d0; have g1 := fun i => cell_kept (fb i) d1; have g2 := fun i => cell_kept (fb i) d2; have g3 := fun i => cell_kept (fb i) d3; have g4 := fun i => cell_kept (fb i) d4; have g5 := fun i => cell_kept (fb i) d5; have g6 := fun i => cell_kept (fb i) d6; have g7 := fun i => cell_kept (fb i) d7; have g8 := fun i => cell_kept (fb i) d8); (clear d0 d1 d2 d3 d4 d5 d6 d7 d8)
              (refine region_chain (dPlan wr (fun i => .bool r) [10] [] []) () [] [0, 1, 2, 3, 4, 5, 6, 7, 8, 9, 10, 11] [] mixed (by kernel_rfl) (by kernel_rfl) (dPlan_ok (by simp) (by simp)) (dPlan_start _ _ _ _ _) ?_; refine wpPure_nil ?_; simp only [List.map_cons, List.map_nil, Array.getD_eq_getD_getElem?, List.getElem?_toArray, List.getElem?_cons_zero, List.getElem?_cons_succ, Option.getD_some])
              (repeat (first | (refine wpChain_skip rfl ?_; simp only [Act.put, List.setIfInBounds_toArray, List.set_cons_succ, List.set_cons_zero]) | (refine wpChain_quiet hF rfl rfl rfl ?_; intro K hK; go_big_quiet_op; go_big_quiet_on) | (refine wpChain_pure _ rfl rfl (fun w' _ => by go_simp; try rfl) ?_; simp only [Act.put, List.setIfInBounds_toArray, List.set_cons_succ, List.set_cons_zero])))
              refine wpChain_dcall 104 _ rfl rfl (fun w' => by go_simp) (fun w' hb => C47.out w') ?_
              simp only [Act.put, List.setIfInBounds_toArray, List.set_cons_succ, List.set_cons_zero]
              (repeat (first | (refine wpChain_skip rfl ?_; simp only [Act.put, List.setIfInBounds_toArray, List.set_cons_succ, List.set_cons_zero]) | (refine wpChain_quiet hF rfl rfl rfl ?_; intro K hK; go_big_quiet_op; go_big_quiet_on) | (refine wpChain_pure _ rfl rfl (fun w' _ => by go_simp; try rfl) ?_; simp only [Act.put, List.setIfInBounds_toArray, List.set_cons_succ, List.set_cons_zero])))
              refine wpChain_nil (fun w4 hb4 hl4 => ?_)
              have B4 : Hid (Grew wr w4) := hb4
              clear hb4 hl4 hF fb hne C47 f0 f1 f2 f3 f4 f5 f6 f7 f8 g0 g1 g2 g3 g4 g5 g6 g7 g8
              go_wp2_with fail
              refine onlyN_intro ?_
              have RR4 : EvRow w4 base (.slice (some ⟨b, 0, none⟩) n c) n F' := Row.off (X := fun _ => False) HREL.out.2.2.1 (Off.of_below B4.out.1) (fun _ _ h => h)
              have z4 := szs (Nat.lt_of_lt_of_le hb (Nat.le_trans HREL.out.2.2.2.size B4.out.1.size))
              have ST := firsts_step F (show 0 < kk + 1 + (i + 1) by omega)
              have e2 : kk + 1 + (i + 1) - 1 = kk + 1 + i := by omega
              rw [e2, sameN_comm, ← HS.out] at ST
              have OW := Lib.hid (HREL.out.2.2.2.trans (Off.of_below (X := fun k => k = b) B4.out.1) (fun _ _ h => h))
              cases r
              · rw [if_neg (by decide)] at ST
                have HST := Lib.hid ST
                have A2 := RR4.at2 (k := kk + 1) (i := i + 1) (by omega)
                have A3 := RR4.at (show j < n by omega)
                have e1 : F' (kk + 1 + (i + 1)) = F (kk + 1 + (i + 1)) := HREL.out.2.1 _ (by omega)
                rw [e1, ← HV.out] at A2
                have fr : ∀ o, w4.frozen? ⟨b, o, none⟩ = false := fun o => Row.free RR4 o
                have tj : (j : Int) < (n : Int) := by omega
                have HR4 := Lib.hid RR4
                (have a0 := (A2).c0; have a1 := (A2).c1; have a2 := (A2).c2; have a3 := (A2).c3; have a4 := (A2).c4; have a5 := (A2).c5; have a6 := (A2).c6; have a7 := (A2).c7; have a8 := (A2).c8); (try dsimp only at a0 a1 a2 a3 a4 a5 a6 a7 a8)
                have d0 := A3.c0
                have d1 := A3.c1
                have d2 := A3.c2
                have d3 := A3.c3
                have d4 := A3.c4
                have d5 := A3.c5
                have d6 := A3.c6
                have d7 := A3.c7
                have d8 := A3.c8
                clear ST e2 RR4 A2 A3 e1 zr
                go_wp2_with fail
                go_roundw
                case rel =>
                  have hput := (HR4.out).put (show j < n by omega) ⟨x1, x2, x3, x4, x5, x6, x7, x8, x9⟩
                  refine ⟨j + 1, i + 1, upd F' j (F (kk + 1 + (i + 1))), by go_num, by go_num, by omega, by omega, Lib.hid ⟨?_, fun x hx => ?_, ?_, ?_⟩⟩
                  · rw [ents_push, HREL.out.1]; exact HST.out.symm
                  · rw [upd_ne (by omega)]; exact HREL.out.2.1 x (by omega)
                  · rw [← HV.out]; exact hput
                  · exact off_putCells (X := fun k => k = b) rfl (evs ⟨x1, x2, x3, x4, x5, x6, x7, x8, x9⟩) (j * 9) w4 OW.out
                case measure => simp [intOf]; omega
              · rw [if_pos rfl] at ST
                have HST := Lib.hid ST
                have HR4 := Lib.hid RR4
                clear ST e2 RR4 zr
                go_wp2_with fail
                go_roundw
                case rel =>
                  exact ⟨j, i + 1, F', rfl, by go_num, by omega, by omega, Lib.hid ⟨HREL.out.1.trans HST.out.symm, HREL.out.2.1, HR4.out, OW.out⟩⟩
                case measure => simp [intOf]; omega
            · obtain rfl : m = i + 1 := by omega
              obtain ⟨w5, hcl, hr5, ho5⟩ := clear_rest (P := Tryz.prog) (fun i => evs_len _) HREL.out.2.2.1 (k := j) (by omega) Tryz.underlying25 (zv := .agg #[.int .i64 0, .int .i64 0, .int .i64 0, .int .i64 0, .int .i64 0, .int .i64 0, .int .i64 0, .int .i64 0, .int .i64 0]) (fun w => by kernel_rfl) (by rfl) (by simp [Value.cells]; rfl)
              have H5 := Lib.hid hr5
              have O5 := Lib.hid ho5
              have tj : (j : Int) ≤ (n : Int) := by omega
              have tc : (j : Int) ≤ (c : Int) := by omega
              clear hr5 ho5
              go_wp2_with fail
              go_returns
              refine ⟨j, F', rfl, by omega, ?_, H5.out, HREL.out.2.2.2.trans O5.out (fun _ _ h => h)⟩
              rw [HREL.out.1, hmn]
      · obtain rfl : n = kk + 1 := by omega
        go_wp2_with fail
        go_returns
        exact ⟨_, F, rfl, Nat.le_refl _, hrel.out.1.symm, Row.off (X := fun _ => False) HR.out (Off.of_below hrel.out.2) (fun _ _ h => h), Off.of_below hrel.out.2⟩
end Go.Proofs.YtlnfhlmgnppcbaaGreat
namespace Go.Proofs.YtlnfhlmgnppcbaaGreat
open Go.RowKit Go.ChangeShapes Go.WideShapes Go.Deep
set_option linter.unusedVariables false
set_option linter.unusedSimpArgs false
theorem infoEv : (Tryz.prog.info? 81).map (fun i => (i.zero, i.size, i.bytes)) = some (some (.agg #[.int .i64 0, .int .i64 0, .int .i64 0, .int .i64 0, .int .i64 0, .int .i64 0, .int .i64 0, .int .i64 0, .int .i64 0]), 9, 72) := by kernel_rfl
theorem evs_one (v : Ev) : ∀ u ∈ evs v, u.oneCell' = true := by
  intro u hu
  simp only [evs, List.mem_cons, List.not_mem_nil, or_false] at hu
  rcases hu with rfl | rfl | rfl | rfl | rfl | rfl | rfl | rfl | rfl <;> rfl
theorem swoE : Go.Sort.SWO (ltOf cmpE) where
  irrefl x := by simp [ltOf, cmpE, cmpL_self]
  trans x y z h1 h2 := decide_eq_true (cmpL_trans (by rfl) (by rfl) (of_decide_eq_true h1) (of_decide_eq_true h2))
  ntrans x y z h1 h2 := by
    have h1 := of_decide_eq_false h1
    have h2 := of_decide_eq_false h2
    refine decide_eq_false fun h => ?_
    by_cases e : cmpE x y = 0
    · have : x = y := keyE_inj (cmpL_zero (by rfl) e)
      subst this; exact h2 h
    · have hn : cmpE y x = - cmpE x y := cmpL_neg _ _
      exact h2 (cmpL_trans (xs := keyE y) (ys := keyE x) (by rfl) (by rfl) (by unfold cmpE at *; omega) h)
theorem swoD : Go.Sort.SWO (ltOf cmpD) where
  irrefl x := by simp [ltOf, cmpD, cmpL_self]
  trans x y z h1 h2 := decide_eq_true (cmpL_trans (by rfl) (by rfl) (of_decide_eq_true h1) (of_decide_eq_true h2))
  ntrans x y z h1 h2 := by
    have h1 := of_decide_eq_false h1
    have h2 := of_decide_eq_false h2
    refine decide_eq_false fun h => ?_
    by_cases e : cmpD x y = 0
    · have : x = y := cmpD_zero e
      subst this; exact h2 h
    · have hn : cmpD y x = - cmpD x y := cmpL_neg _ _
      exact h2 (cmpL_trans (xs := keyD y) (ys := keyD x) (by rfl) (by rfl) (by unfold cmpD at *; omega) h)
def Sorted (cf : Ev → Ev → Int) (w : World) (base b n c : Nat) (F : Nat → Ev) (e : Ending) (w' : World) : Prop :=
  e = .returned (.tuple #[]) ∧ ∃ F' : Nat → Ev, (ents F' n).Perm (ents F n) ∧ (∀ i j, i < j → j < n → ltOf cf (F' j) (F' i) = false) ∧ EvRow w' base (.slice (some ⟨b, 0, none⟩) n c) n F' ∧ Off (fun k => k = b) w w'
set_option maxRecDepth 8000 in
theorem sortD (base b n c : Nat) (F : Nat → Ev) (w : World) (hR : EvRow w base (.slice (some ⟨b, 0, none⟩) n c) n F) (hn : n < 4611686018427387904) : Calls Tryz.prog 98 #[.slice (some ⟨b, 0, none⟩) n c, .func (.func 99) #[] #[]] w (Sorted cmpD w base b n c F) :=
  sort_row sort98 9 (fun w => by kernel_rfl) (fun w => by kernel_rfl) evs evs_len evs_one cmpD swoD 99 (enters_of Tryz.func99 (by kernel_rfl) rfl) (fun x y w => set99 x y w) hR hn
set_option maxRecDepth 8000 in
theorem sortE (base b n c : Nat) (F : Nat → Ev) (w : World) (hR : EvRow w base (.slice (some ⟨b, 0, none⟩) n c) n F) (hn : n < 4611686018427387904) : Calls Tryz.prog 98 #[.slice (some ⟨b, 0, none⟩) n c, .func (.func 102) #[] #[]] w (Sorted cmpE w base b n c F) :=
  sort_row sort98 9 (fun w => by kernel_rfl) (fun w => by kernel_rfl) evs evs_len evs_one cmpE swoE 102 (enters_of Tryz.func102 (by kernel_rfl) rfl) (fun x y w => compare102 x y w) hR hn
theorem sort_none (fv : Value) (c : Nat) (p : Option Addr) (w : World) : Calls Tryz.prog 98 #[.slice p 0 c, fv] w fun e w' => e = .returned (.tuple #[]) ∧ w' = w :=
  AnyF.slices_SortFunc_none sort98 p c fv w
def Cloned (w : World) (n : Nat) (f : Nat → List Value) (e : Ending) (w' : World) : Prop := ∃ v, e = .returned v ∧ Row w' w.heap.size 81 9 v n f ∧ Below w.heap.size w w'
theorem clone41w (ao : Option Addr) (n c : Nat) (f : Nat → List Value) (w : World) (h : Sl w 9 ao n c f) (h1 : ∀ i, ∀ u ∈ f i, u.oneCell' = true) (hn : n ≤ 1000000) : Calls Tryz.prog 97 #[.slice ao n c] w (Cloned w n f) := by
  obtain ⟨i0, hi, hz0, hz1, hz2⟩ := info_parts infoEv
  cases ao with
  | none =>
    obtain ⟨rfl, rfl⟩ := h.hno rfl
    have q34 : ∀ w, (binOp .eql 25 (.slice none 0 0) (.slice none 0 0)).run Tryz.prog w = .ok (.bool true) w := fun w => Lib.run_eql_slice_nil w _ _ none 0 0 0 0 Tryz.underlying25
    clear h
    go_enter Tryz.func97, Tryz.ntmps97
    go_wp2_with fail
    go_returns
    exact ⟨_, rfl, ⟨by simp [flat], .inl ⟨rfl, rfl⟩⟩, Below.refl _ _⟩
  | some a =>
    have HS := Lib.hid h
    have q34 : ∀ w, (binOp .eql 25 (.slice (some a) n c) (.slice none 0 0)).run Tryz.prog w = .ok (.bool false) w := fun w => Lib.run_eql_slice_nil w _ _ (some a) n c 0 0 Tryz.underlying25
    have B0 : Hid (Below w.heap.size w (w.alloc (.cells #[] 81))) := Lib.hid (by (repeat' (first | (with_reducible exact Below.refl _ _) | (with_reducible assumption) | (with_reducible refine Below.drew ?_) | (with_reducible refine below_drewN ?_ _) | (with_reducible refine Below.alloc ?_ ?_ _) | (with_reducible refine Below.setCell ?_ ?_ _) | go_size)))
    clear h
    go_enter Tryz.func97, Tryz.ntmps97
    go_wp2_with (at_builtin; refine wpList_append_sl _ rfl (.tmp 5) (.tmp 6) 25 rfl w.heap.size 81 i0 _ 9 72 Tryz.underlying25 hi hz0 hz1 hz2 rfl (by decide) _ 0 f rfl (World.ownsRow_made w #[] 0 (Nat.le_refl _) (Nat.zero_le _) (by simp)) HS.out.len (some a) n c f rfl HS.out.len (fun h => by cases h) (HS.out.sl.below HS.out.len B0.out) h1 (by omega) (by unfold maxLen; omega) (by simp) ?_)
    intro v' w' hr hg hf
    have B1 : Hid (Below w.heap.size w w') := Lib.hid ((Below.refl _ w).alloc (Nat.le_refl _) _ |>.grown hg (by simp) (by intro k hk; simp [Value.ownBlock] at hk; omega))
    have HR : Hid (Row w' w.heap.size 81 9 v' n f) := Lib.hid (by
      exact Row.congr hr fun i hi => by simp [cat])
    clear hr hg hf
    go_wp2_with fail
    go_returns
    exact ⟨_, rfl, HR.out, B1.out⟩
theorem compact46_nil (fv : Value) (w : World) : Calls Tryz.prog 103 #[.slice none 0 0, fv] w fun e w' => e = .returned (.slice none 0 0) ∧ w = w' := by
  go_enter Tryz.func103, Tryz.ntmps103
  go_wp2_with fail
  go_returns
  exact ⟨rfl, rfl⟩
def SetMade (w : World) (l : List Ev) (e : Ending) (w' : World) : Prop := ∃ (v : Value) (m : Nat) (R : Nat → Ev), e = .returned v ∧ ents R m = setE l ∧ EvRow w' w.heap.size v m R ∧ Below w.heap.size w w'
theorem set70 (ao : Option Addr) (n c : Nat) (F : Nat → Ev) (w : World) (h : Sl w 9 ao n c (fun i => evs (F i))) (hn : n ≤ 1000000) : Calls Tryz.prog 70 #[.slice ao n c] w (SetMade w (ents F n)) := by
  have C1 := Lib.hid (clone41w ao n c _ w h (fun i => evs_one _) hn)
  clear h
  go_enter Tryz.func70, Tryz.ntmps70
  go_wp2_with fail
  refine C1.out.mono ?_
  rintro e w1 ⟨v, rfl, r1, b1⟩
  have B1 := Lib.hid b1
  clear b1
  rcases Row.shape r1 with ⟨rfl, rfl⟩ | ⟨b, cap, rfl, hb, hlt, hnc, hcm⟩
  · have C2 := Lib.hid (sort_none (.func (.func 99) #[] #[]) 0 none w1)
    have C3 := Lib.hid (sort_none (.func (.func 102) #[] #[]) 0 none w1)
    clear r1
    go_wp2_with fail
    refine C2.out.mono ?_
    rintro e w2 ⟨rfl, rfl⟩
    go_wp2_with fail
    refine (compact46_nil (.func (.func 104) #[] #[]) _).mono ?_
    rintro e w3 ⟨rfl, rfl⟩
    go_wp2_with fail
    refine C3.out.mono ?_
    rintro e w4 ⟨rfl, rfl⟩
    go_wp2_with fail
    go_returns
    exact ⟨_, 0, F, rfl, rfl, ⟨by simp [flat], .inl ⟨rfl, rfl⟩⟩, B1.out⟩
  · have R1 : Hid (EvRow w1 w.heap.size (.slice (some ⟨b, 0, none⟩) n cap) n F) := Lib.hid r1
    clear r1
    have C2 := Lib.hid (sortD _ b n cap F w1 R1.out (by omega))
    go_wp2_with fail
    refine C2.out.mono ?_
    rintro e w2 ⟨rfl, D, p2, s2, r2, o2⟩
    have R2 := Lib.hid r2
    have S2 := Lib.hid s2
    have P2 := Lib.hid p2
    have O2 := Lib.hid o2
    clear r2 s2 p2 o2 C2 C1
    have C3 := Lib.hid (compact103 _ b n cap D w2 R2.out)
    go_wp2_with fail
    refine C3.out.mono ?_
    rintro e w3 ⟨m, G, rfl, hm, g3, r3, o3⟩
    have R3 := Lib.hid r3
    have G3 := Lib.hid g3
    have O3 := Lib.hid o3
    clear r3 g3 o3 C3
    have C4 := Lib.hid (sortE _ b m cap G w3 R3.out (by omega))
    go_wp2_with fail
    refine C4.out.mono ?_
    rintro e w4 ⟨rfl, R, p4, s4, r4, o4⟩
    have R4 := Lib.hid r4
    have S4 := Lib.hid s4
    have P4 := Lib.hid p4
    have O4 := Lib.hid o4
    clear r4 s4 p4 o4 C4
    go_wp2_with fail
    go_returns
    refine ⟨_, m, R, rfl, set_of_sorts P2.out (fun i j h1 h2 => of_decide_eq_false (S2.out i j h1 h2)) (by rw [← G3.out]; exact P4.out) (fun i j h1 h2 => S4.out i j h1 h2), R4.out, ?_⟩
    have o := (O2.out.trans (O3.out.trans O4.out (fun _ _ h => h)) (fun _ _ h => h))
    exact B1.out.trans (o.toBelow B1.out.size (fun k hk h => by omega))
end Go.Proofs.YtlnfhlmgnppcbaaGreat
namespace Go.Proofs.YtlnfhlmgnppcbaaGreat
open Go.RowKit Go.ChangeShapes Go.WideShapes Go.Deep
set_option linter.unusedVariables false
set_option linter.unusedSimpArgs false
def Made (w : World) (l : List Ev) (e : Ending) (w' : World) : Prop := ∃ (v : Value) (m : Nat) (R : Nat → Ev), e = .returned v ∧ ents R m = l ∧ EvRow w' w.heap.size v m R ∧ Below w.heap.size w w'
def Box (w : World) (b : Nat) (v : Ev) : Prop := EvRow w 0 (.slice (some ⟨b, 0, none⟩) 1 1) 1 (fun _ => v)
theorem Box.new (w : World) (v : Ev) : Box (w.alloc (.cells (eC v) 81)) w.heap.size v :=
  ⟨rfl, .inr ⟨_, 1, eC v, rfl, Nat.zero_le _, heap_alloc_new w _, Nat.le_refl _, by decide, rfl, rfl⟩⟩
theorem Box.at {w : World} {b : Nat} {v : Ev} (h : Box w b v) : EvAt w b 0 v := by
  have := EvRow.at h (i := 0) (by decide)
  rwa [Nat.zero_mul] at this
theorem Box.put {w : World} {b : Nat} {v : Ev} (h : Box w b v) (x : Ev) : Box (putCells w b 0 (evs x)) b x := by
  have := EvRow.put h (i := 0) (by decide) x
  rw [Nat.zero_mul] at this
  exact Row.congr this fun i hi => by
    obtain rfl : i = 0 := by omega
    rw [upd_same]
theorem Box.lt {w : World} {b : Nat} {v : Ev} (h : Box w b v) : b < w.heap.size := by
  rcases Row.shape h with ⟨h, _⟩ | ⟨g, c, he, _, hl, _⟩
  · cases h
  · cases he; exact hl
theorem Box.off {X : Nat → Prop} {w w' : World} {b : Nat} {v : Ev} (h : Box w b v) (ho : Off X w w') (hX : ¬ X b) : Box w' b v := Row.off h ho (fun g hg => by cases hg; exact hX)
theorem Box.below {w w' : World} {b : Nat} {v : Ev} (h : Box w b v) (hb : Below w.heap.size w w') : Box w' b v := h.off (X := fun _ => False) (Off.of_below hb) (fun h => h)
theorem EvRow.below {w w' : World} {base : Nat} {v : Value} {n : Nat} {F : Nat → Ev} (h : EvRow w base v n F) (hb : Below w.heap.size w w') : EvRow w' base v n F := Row.off (X := fun _ => False) h (Off.of_below hb) (fun _ _ h => h)
theorem evs_at {w : World} {ao : Option Addr} {m c : Nat} {F : Nat → Ev} (h : Sl w 9 ao m c (fun i => evs (F i))) {i : Nat} (hi : i < m) : ∃ g o, ao = some ⟨g, o, none⟩ ∧ g < w.heap.size ∧ EvAt w g (o + i * 9) (F i) := by
  obtain ⟨g, o, e, hc⟩ := h.cell hi
  have hA := EvAt.of (v := F i) hc
  exact ⟨g, o, e, cell_lt hA.c0, hA⟩
theorem EvAt.below {w w' : World} {b o : Nat} {v : Ev} (h : EvAt w b o v) (hb : Below w.heap.size w w') : EvAt w' b o v := ⟨cell_kept hb h.c0, cell_kept hb h.c1, cell_kept hb h.c2, cell_kept hb h.c3, cell_kept hb h.c4, cell_kept hb h.c5, cell_kept hb h.c6, cell_kept hb h.c7, cell_kept hb h.c8⟩
theorem Box.free {w : World} {b : Nat} {v : Ev} (h : Box w b v) (j : Nat) : w.frozen? ⟨b, j, none⟩ = false := Row.free h j
theorem Box.put_off {X : Nat → Prop} {w0 w : World} {b : Nat} (x : Ev) (ho : Off X w0 w) (hX : X b) : Off X w0 (putCells w b 0 (evs x)) := off_putCells hX (evs x) 0 w ho
theorem EvRow.after {w : World} {base b n : Nat} {v : Value} {F : Nat → Ev} (h : EvRow w base v n F) (hb : b < base) (x : Ev) : EvRow (putCells w b 0 (evs x)) base v n F :=
  Row.off h (off_putCells (X := fun k => k = b) rfl (evs x) 0 w (Off.refl _ _)) (fun g hg hx => by
    rcases Row.shape h with ⟨rfl, _⟩ | ⟨g', c, rfl, h1, _⟩
    · simp [Value.ownBlock] at hg
    · simp [Value.ownBlock] at hg; omega)
theorem EvRow.apart {w : World} {base b n : Nat} {v : Value} {F : Nat → Ev} (h : EvRow w base v n F) (hb : b < base) : ¬ some b = v.ownBlock := fun hg => by
  rcases Row.shape h with ⟨rfl, _⟩ | ⟨g', c, rfl, h1, _⟩
  · simp [Value.ownBlock] at hg
  · simp [Value.ownBlock] at hg; omega
theorem Row.apart {w : World} {base e s n : Nat} {v : Value} {f : Nat → List Value} (h : Row w base e s v n f) {q : Nat} (hq : q < base) : ¬ some q = v.ownBlock := fun hg => by
  rcases Row.shape h with ⟨rfl, _⟩ | ⟨g', c, rfl, h1, _⟩
  · simp [Value.ownBlock] at hg
  · simp [Value.ownBlock] at hg; omega
theorem SlE.drop {w : World} {s g o m : Nat} {f : Nat → List Value} (h : SlE w s (some ⟨g, o, none⟩) m f) (j : Nat) : SlE w s (some ⟨g, o + j * s, none⟩) (m - j) (fun i => f (j + i)) := fun i hi => by
  obtain ⟨g', o', e, hc⟩ := h (j + i) (by omega)
  cases e
  refine ⟨g, o + j * s, rfl, fun q hq => ?_⟩
  rw [Nat.add_assoc o, ← Nat.add_mul]; exact hc q hq
end Go.Proofs.YtlnfhlmgnppcbaaGreat
namespace Go.Proofs.YtlnfhlmgnppcbaaGreat
open Go.RowKit Go.ChangeShapes Go.WideShapes Go.Deep
set_option linter.unusedVariables false
set_option linter.unusedSimpArgs false
abbrev EvSl (w : World) (ao : Option Addr) (n c : Nat) (F : Nat → Ev) : Prop := Sl w 9 ao n c (fun i => evs (F i))
theorem EvRow.toSl {w : World} {base n : Nat} {v : Value} {F : Nat → Ev} (h : EvRow w base v n F) : ∃ ao c, v = .slice ao n c ∧ EvSl w ao n c F := Row.toSl h (fun i => evs_len _)
end Go.Proofs.YtlnfhlmgnppcbaaGreat
