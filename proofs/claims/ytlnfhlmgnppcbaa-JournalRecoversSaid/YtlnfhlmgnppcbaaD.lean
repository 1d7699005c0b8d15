/- The order of events, as the program compares them. -/
import Derived.Test.YtlnfhlmgnppcbaaC
import Derived.Test.YtlnfhlmgnppcbaaBA
namespace Go.Proofs.Ytlnfhlmgnppcbaa
open Go.RowKit Go.ChangeShapes Go.WideShapes Go.Deep
set_option linter.unusedVariables false
set_option linter.unusedSimpArgs false
def cmp1 (a b : Int) : Int := if a < b then -1 else if b < a then 1 else 0
theorem nan101 (n : Int) (w : World) : Calls Try.prog 101 #[.int .i64 n] w fun e w' => e = .returned (.bool false) ∧ w = w' := by
  have t : (n != n) = false := by simp
  go_enter Try.func101, Try.ntmps101
  go_wp2_with fail
  go_returns
  exact ⟨rfl, rfl⟩
theorem cmp83 (a b : Int) (w : World) : Calls Try.prog 83 #[.int .i64 a, .int .i64 b] w fun e w' => e = .returned (.int .i64 (cmp1 a b)) ∧ w = w' := by
  have C := Lib.hid (fun n w' => nan101 n w')
  by_cases h1 : a < b
  · have HE : Hid (cmp1 a b = -1) := Lib.hid (by simp [cmp1, h1])
    go_enter Try.func83, Try.ntmps83
    go_wp2_with fail
    refine (C.out _ _).mono ?_
    rintro e w1 ⟨rfl, rfl⟩
    go_wp2_with fail
    refine (C.out _ _).mono ?_
    rintro e w1 ⟨rfl, rfl⟩
    go_wp2_with fail
    go_returns
    exact ⟨by rw [HE.out]; rfl, rfl⟩
  · by_cases h2 : b < a
    · have HE : Hid (cmp1 a b = 1) := Lib.hid (by simp [cmp1, h1, h2])
      have h1' : b ≤ a := by omega
      clear h1
      go_enter Try.func83, Try.ntmps83
      go_wp2_with fail
      refine (C.out _ _).mono ?_
      rintro e w1 ⟨rfl, rfl⟩
      go_wp2_with fail
      refine (C.out _ _).mono ?_
      rintro e w1 ⟨rfl, rfl⟩
      go_wp2_with fail
      go_returns
      exact ⟨by rw [HE.out]; rfl, rfl⟩
    · have HE : Hid (cmp1 a b = 0) := Lib.hid (by simp [cmp1, h1, h2])
      have h1' : b ≤ a := by omega
      have h2' : a ≤ b := by omega
      clear h1 h2
      go_enter Try.func83, Try.ntmps83
      go_wp2_with fail
      refine (C.out _ _).mono ?_
      rintro e w1 ⟨rfl, rfl⟩
      go_wp2_with fail
      refine (C.out _ _).mono ?_
      rintro e w1 ⟨rfl, rfl⟩
      go_wp2_with fail
      go_returns
      exact ⟨by rw [HE.out]; rfl, rfl⟩
/-- The nine keys as cells. -/
def kC (v : Ev) : Array Value := #[.int .i64 v.at', .int .i64 v.dev, .int .i64 v.seq, .int .i64 v.late, .int .i64 v.kind, .int .i64 v.bike, .int .i64 v.place, .int .i64 v.rider, .int .i64 v.ride]
theorem kC_get (v : Ev) {j : Nat} (hj : j < 9) : (kC v)[j]? = some (.int .i64 ((keyE v).getD j 0)) := by
  rcases (by omega : j = 0 ∨ j = 1 ∨ j = 2 ∨ j = 3 ∨ j = 4 ∨ j = 5 ∨ j = 6 ∨ j = 7 ∨ j = 8) with rfl | rfl | rfl | rfl | rfl | rfl | rfl | rfl | rfl <;> rfl
theorem cmpL_drop (v u : Ev) {j : Nat} (hj : j < 9) : cmpL ((keyE v).drop j) ((keyE u).drop j) = if cmp1 ((keyE v).getD j 0) ((keyE u).getD j 0) = 0 then cmpL ((keyE v).drop (j + 1)) ((keyE u).drop (j + 1)) else cmp1 ((keyE v).getD j 0) ((keyE u).getD j 0) := by
  have h : ∀ (xs ys : List Int), j < xs.length → j < ys.length → cmpL (xs.drop j) (ys.drop j) = if cmp1 (xs.getD j 0) (ys.getD j 0) = 0 then cmpL (xs.drop (j + 1)) (ys.drop (j + 1)) else cmp1 (xs.getD j 0) (ys.getD j 0) := fun xs ys h1 h2 => by
    rw [List.drop_eq_getElem_cons h1, List.drop_eq_getElem_cons h2]
    have e1 : xs.getD j 0 = xs[j] := by simp [List.getD, h1]
    have e2 : ys.getD j 0 = ys[j] := by simp [List.getD, h2]
    rw [e1, e2]
    show (if xs[j] < ys[j] then -1 else if ys[j] < xs[j] then 1 else _) = _
    unfold cmp1
    by_cases a1 : xs[j] < ys[j]
    · simp [a1]
    · by_cases a2 : ys[j] < xs[j]
      · simp [a1, a2]
      · simp [a1, a2]
  exact h _ _ hj hj
set_option maxHeartbeats 4000000 in
theorem compare84 (v u : Ev) (w : World) : Calls Try.prog 84 #[.agg (eC v), .agg (eC u)] w fun e w' => e = .returned (.int .i64 (cmpE v u)) ∧ Grew w w' := by
  have hE : cmpE v u = cmpL ((keyE v).drop 0) ((keyE u).drop 0) := rfl
  have HE := Lib.hid hE
  have KD := Lib.hid (fun (j : Nat) (hj : j < 9) => cmpL_drop v u hj)
  have KV := Lib.hid (fun (j : Nat) (hj : j < 9) => kC_get v hj)
  have KU := Lib.hid (fun (j : Nat) (hj : j < 9) => kC_get u hj)
  obtain ⟨r, hr⟩ : ∃ r, r = cmpE v u := ⟨_, rfl⟩
  rw [← hr] at HE ⊢
  obtain ⟨kv, hkv⟩ : ∃ kv : Nat → Int, kv = fun j => (keyE v).getD j 0 := ⟨_, rfl⟩
  obtain ⟨ku, hku⟩ : ∃ ku : Nat → Int, ku = fun j => (keyE u).getD j 0 := ⟨_, rfl⟩
  have HKV := Lib.hid hkv
  have HKU := Lib.hid hku
  unfold eC
  clear hE hr hkv hku
  obtain ⟨v1, v2, v3, v4, v5, v6, v7, v8, v9⟩ := v
  obtain ⟨n1, n2, n3, n4, n5, n6, n7, n8, n9⟩ := u
  dsimp only
  go_enter Try.func84, Try.ntmps84
  go_wp2_with fail
  obtain ⟨wb, hwb⟩ : ∃ wb, wb = ((w.alloc (.cells #[.int .i64 v1, .int .i64 v2, .int .i64 v3, .int .i64 v4, .int .i64 v5, .int .i64 v6, .int .i64 v7, .int .i64 v8, .int .i64 v9] 24)).alloc (.cells #[.int .i64 n1, .int .i64 n2, .int .i64 n3, .int .i64 n4, .int .i64 n5, .int .i64 n6, .int .i64 n7, .int .i64 n8, .int .i64 n9] 24)) := ⟨_, rfl⟩
  obtain ⟨wc, hwc⟩ : ∃ wc, wc = wb.alloc (.cells #[.int .i64 v3, .int .i64 v1, .int .i64 v2, .int .i64 v4, .int .i64 v5, .int .i64 v6, .int .i64 v7, .int .i64 v8, .int .i64 v9] 65) := ⟨_, rfl⟩
  obtain ⟨wd, hwd⟩ : ∃ wd, wd = wc.alloc (.cells #[.int .i64 n3, .int .i64 n1, .int .i64 n2, .int .i64 n4, .int .i64 n5, .int .i64 n6, .int .i64 n7, .int .i64 n8, .int .i64 n9] 65) := ⟨_, rfl⟩
  rw [← hwb, ← hwc, ← hwd]
  have hz2 : wb.heap.size = w.heap.size + 2 := by rw [hwb]; simp
  have hz3 : wc.heap.size = w.heap.size + 3 := by rw [hwc]; simp [hz2]
  have x1 : wc.heap[w.heap.size + 2]? = some (.cells (kC ⟨v1, v2, v3, v4, v5, v6, v7, v8, v9⟩) 65) := by rw [hwc, ← hz2]; exact heap_alloc_new wb _
  have x2 : wd.heap[w.heap.size + 3]? = some (.cells (kC ⟨n1, n2, n3, n4, n5, n6, n7, n8, n9⟩) 65) := by rw [hwd, ← hz3]; exact heap_alloc_new wc _
  have bcd : Below wc.heap.size wc wd := by rw [hwd]; exact (Below.refl _ _).alloc (Nat.le_refl _) _
  have X1 := Lib.hid ((bcd.block _ (block_lt x1)).trans x1)
  have X2 := Lib.hid x2
  have G0 : Hid (Grew w wd) := Lib.hid (by rw [hwd, hwc, hwb]; (repeat' (first | (with_reducible exact Grew.refl _) | (with_reducible assumption) | (with_reducible refine Grew.drew ?_) | (with_reducible refine Grew.drewN ?_ _) | (with_reducible refine Grew.alloc ?_ _))))
  clear hwb hwc hwd hz2 hz3 x1 x2 bcd
  go_loopw [47] (fun i wr => ∃ j : Nat, i = .int .i64 j ∧ j ≤ 9 ∧ Hid (r = cmpL ((keyE ⟨v1, v2, v3, v4, v5, v6, v7, v8, v9⟩).drop j) ((keyE ⟨n1, n2, n3, n4, n5, n6, n7, n8, n9⟩).drop j) ∧ Grew wd wr)) (fun i _ => 9 - (intOf i).toNat)
  case atStart => exact ⟨0, rfl, by omega, Lib.hid ⟨HE.out, Grew.refl _⟩⟩
  case round =>
    obtain ⟨j, rfl, hj, hrel⟩ := hrel
    have GR := Lib.hid (G0.out.trans hrel.out.2)
    by_cases hlt : j < 9
    · have tj : (j : Int) < 9 := by omega
      have y1 := (hrel.out.2.1.block _ (block_lt X1.out)).trans X1.out
      have y2 := (hrel.out.2.1.block _ (block_lt X2.out)).trans X2.out
      have ca := (cell_at y1 j).trans (KV.out j hlt)
      have cb := (cell_at y2 j).trans (KU.out j hlt)
      have kd := KD.out j hlt
      have z1 := szs (block_lt y1)
      have z2 := szs (block_lt y2)
      obtain ⟨x, hx⟩ : ∃ x, x = (keyE ⟨v1, v2, v3, v4, v5, v6, v7, v8, v9⟩).getD j 0 := ⟨_, rfl⟩
      obtain ⟨y, hy⟩ : ∃ y, y = (keyE ⟨n1, n2, n3, n4, n5, n6, n7, n8, n9⟩).getD j 0 := ⟨_, rfl⟩
      rw [← hx] at ca kd
      rw [← hy] at cb kd
      have CC := Lib.hid (fun w' => cmp83 x y w')
      obtain ⟨c, hc⟩ : ∃ c, c = cmp1 x y := ⟨_, rfl⟩
      rw [← hc] at CC kd
      have hr := hrel.out.1
      rw [kd] at hr
      have HR := Lib.hid hr
      have HG := Lib.hid hrel.out.2
      clear hrel y1 y2 kd hx hy hc hr
      obtain ⟨wo, rfl⟩ : ∃ wo : World, wo = wr := ⟨_, rfl⟩
      go_wp2_with fail
      (obtain ⟨ι, hne, Fw, fb, hF⟩ := dfamily wo); have hF : ∀ w', (dPlan wo (fun _ => .int .i64 c) [6] [] []).D () w' → ∃ i, w' = Fw i := hF
      have f0 := fun i => cell_kept (fb i) ca
      have f1 := fun i => cell_kept (fb i) cb
      clear ca cb
      (refine region_chain (dPlan wo (fun _ => .int .i64 c) [6] [] []) () [] [0, 1, 2, 3, 4, 5, 6, 7] [] mixed (by kernel_rfl) (by kernel_rfl) (dPlan_ok (by simp) (by simp)) (dPlan_start _ _ _ _ _) ?_; refine wpPure_nil ?_; simp only [List.map_cons, List.map_nil, Array.getD_eq_getD_getElem?, List.getElem?_toArray, List.getElem?_cons_zero, List.getElem?_cons_succ, Option.getD_some])
      (repeat (first | (refine wpChain_skip rfl ?_; simp only [Act.put, List.setIfInBounds_toArray, List.set_cons_succ, List.set_cons_zero]) | (refine wpChain_quiet hF rfl rfl rfl ?_; intro K hK; go_big_quiet_op; go_big_quiet_on) | (refine wpChain_pure _ rfl rfl (fun w' _ => by go_simp; try rfl) ?_; simp only [Act.put, List.setIfInBounds_toArray, List.set_cons_succ, List.set_cons_zero])))
      refine wpChain_dcall 83 #[.int .i64 x, .int .i64 y] rfl rfl (fun w' => by go_simp) (fun w' hb => (CC.out w').mono fun _ _ ⟨he, hw⟩ => ⟨he, hw ▸ Grew.refl _⟩) ?_
      simp only [Act.put, List.setIfInBounds_toArray, List.set_cons_succ, List.set_cons_zero]
      (repeat (first | (refine wpChain_skip rfl ?_; simp only [Act.put, List.setIfInBounds_toArray, List.set_cons_succ, List.set_cons_zero]) | (refine wpChain_quiet hF rfl rfl rfl ?_; intro K hK; go_big_quiet_op; go_big_quiet_on) | (refine wpChain_pure _ rfl rfl (fun w' _ => by go_simp; try rfl) ?_; simp only [Act.put, List.setIfInBounds_toArray, List.set_cons_succ, List.set_cons_zero])))
      refine wpChain_nil (fun w4 hb4 hl4 => ?_)
      have B4 : Hid (Grew wo w4) := hb4
      clear hb4 hl4 hF fb f0 f1 hne
      refine onlyN_intro ?_
      by_cases hc : c = 0
      · have t : (c != 0) = false := by simp [hc]
        have hh := HR.out
        rw [if_pos hc] at hh
        have HR2 := Lib.hid hh
        clear hc HR hh
        go_wp2_with fail
        go_roundw
        case rel => exact ⟨j + 1, by go_num, by omega, Lib.hid ⟨HR2.out, HG.out.trans B4.out⟩⟩
        case measure => simp [intOf]; omega
      · have t : (c != 0) = true := by simp [hc]
        have HR2 := Lib.hid (show r = c from by have := HR.out; rw [if_neg hc] at this; exact this)
        clear hc HR
        go_wp2_with fail
        go_returns
        exact ⟨by rw [HR2.out]; rfl, GR.out.trans B4.out⟩
    · obtain rfl : j = 9 := by omega
      have HR2 := Lib.hid (show r = 0 from hrel.out.1)
      clear hrel
      go_wp2_with fail
      go_returns
      exact ⟨by rw [HR2.out]; rfl, GR.out⟩
end Go.Proofs.Ytlnfhlmgnppcbaa
