/- The law EventOrder. -/
import Derived.Test.YtmhnkfcbbjbpfaaL7
namespace Go.Proofs.Ytmhnkfcbbjbpfaa
open Go.RowKit Go.ChangeShapes Go.WideShapes Go.Deep
set_option linter.unusedVariables false
set_option linter.unusedSimpArgs false
/-- Three events boxed. -/
structure Box3 (w wb : World) (v u t : Ev) : Prop where
  one : wb.heap[w.heap.size]? = some (.cells (eC v) 26 (0, 0))
  two : wb.heap[w.heap.size + 1]? = some (.cells (eC u) 26 (0, 0))
  three : wb.heap[w.heap.size + 1 + 1]? = some (.cells (eC t) 26 (0, 0))
  bel : Below w.heap.size w wb
theorem Box3.start (w : World) (v u t : Ev) : Box3 w (((w.alloc (.cells (eC v) 26)).alloc (.cells (eC u) 26)).alloc (.cells (eC t) 26)) v u t := by
  obtain ⟨h1, h2, h3⟩ := Box2.start w v u
  have hb : Below ((w.alloc (.cells (eC v) 26)).alloc (.cells (eC u) 26)).heap.size ((w.alloc (.cells (eC v) 26)).alloc (.cells (eC u) 26)) (((w.alloc (.cells (eC v) 26)).alloc (.cells (eC u) 26)).alloc (.cells (eC t) 26)) := (Below.refl _ _).alloc (Nat.le_refl _) _
  refine ⟨(hb.block _ (block_lt h1)).trans h1, (hb.block _ (block_lt h2)).trans h2, ?_, h3.trans (hb.mono h3.size)⟩
  have h := heap_alloc_new ((w.alloc (.cells (eC v) 26)).alloc (.cells (eC u) 26)) (.cells (eC t) 26)
  rwa [show ((w.alloc (.cells (eC v) 26)).alloc (.cells (eC u) 26)).heap.size = w.heap.size + 1 + 1 by simp] at h
theorem Box3.below {w wb w' : World} {v u t : Ev} (h : Box3 w wb v u t) (hb : Below wb.heap.size wb w') : Box3 w w' v u t :=
  ⟨(hb.block _ (block_lt h.one)).trans h.one, (hb.block _ (block_lt h.two)).trans h.two, (hb.block _ (block_lt h.three)).trans h.three, h.bel.trans (hb.mono h.bel.size)⟩
theorem evs_upd (R : Nat → Ev) (k : Nat) (x : Ev) : upd (fun i => evs (R i)) k (evs x) = fun i => evs (upd R k x i) := by
  funext i
  by_cases h : i = k
  · subst h; simp [upd_same]
  · rw [upd_ne h, upd_ne h]
/-- The turned list has each element. -/
theorem turned {n r j : Nat} (hj : j < n) : ∃ i, i < n ∧ (i + r % n) % n = j := by
  refine ⟨(j + n - r % n) % n, Nat.mod_lt _ (by omega), ?_⟩
  have hr := Nat.mod_lt r (show 0 < n by omega)
  rw [Nat.mod_add_mod, show j + n - r % n + r % n = j + n by omega, Nat.add_mod_right, Nat.mod_eq_of_lt hj]
set_option maxRecDepth 4000 in
set_option maxHeartbeats 4000000 in
theorem run_eventOrder {H : Type} {enc : TypeId × Value → H} (W : World) (base : Nat) (v0 : Value) (d0 : DataW H) (p0 : List MemPlace) (hv0 : Value.okWide Try.prog W .any base 34 v0) (h0 : DataW.Trod enc Try.prog W 0 (fun _ => true) true 34 v0 d0 p0)
    (v1 : Value) (d1 : DataW H) (p1 : List MemPlace) (hv1 : Value.okWide Try.prog W .any base 3 v1) (h1 : DataW.Trod enc Try.prog W 0 (fun _ => true) true 3 v1 d1 p1)
    (v2 : Value) (d2 : DataW H) (p2 : List MemPlace) (hv2 : Value.okWide Try.prog W .any base 26 v2) (h2 : DataW.Trod enc Try.prog W 0 (fun _ => true) true 26 v2 d2 p2)
    (v3 : Value) (d3 : DataW H) (p3 : List MemPlace) (hv3 : Value.okWide Try.prog W .any base 26 v3) (h3 : DataW.Trod enc Try.prog W 0 (fun _ => true) true 26 v3 d3 p3)
    (v4 : Value) (d4 : DataW H) (p4 : List MemPlace) (hv4 : Value.okWide Try.prog W .any base 26 v4) (h4 : DataW.Trod enc Try.prog W 0 (fun _ => true) true 26 v4 d4 p4) :
    Calls Try.prog 6 #[v0, v1, v2, v3, v4] W fun e w' => e = .returned (.bool true) ∧ Below W.heap.size W w' := by
  obtain ⟨ao, n, c, F, rfl, hs, _⟩ := open_events hv0 h0
  obtain ⟨turn, rfl, rfl, rfl, hti⟩ := open_int Try.underlying3 hv1 h1
  obtain ⟨v, rfl, _⟩ := open_event hv2 h2
  obtain ⟨u, rfl, _⟩ := open_event hv3 h3
  obtain ⟨t, rfl, _⟩ := open_event hv4 h4
  clear hv0 h0 hv1 h1 hv2 h2 hv3 h3 hv4 h4
  obtain ⟨i0, hi0, hz0, hz1, hz2⟩ := info_parts infoEv
  obtain ⟨ti1, ti2⟩ := bounds_i64 hti
  have AW := Lib.hid (fun w' => awake14 w')
  have T1 := Lib.hid (fun w' => total24 v u w')
  have T2 := Lib.hid (fun w' => total24 u t w')
  have T3 := Lib.hid (fun w' => total24 v t w')
  have L1 := Lib.hid (fun w' => less19 v u w')
  have L2 := Lib.hid (fun w' => less19 u t w')
  have L3 := Lib.hid (fun w' => less19 v t w')
  have HTR : Hid (ltE v u = true → ltE u t = true → ltE v t = true) := Lib.hid ltE_trans
  generalize ltE v u = b1 at *
  generalize ltE u t = b2 at *
  generalize ltE v t = b3 at *
  have q1 := hs.hm
  have q2 := hs.hc
  have HS := Lib.hid hs
  have B0 := Lib.hid (Box3.start W v u t)
  clear hs hti
  unfold eC at *
  obtain ⟨v1, v2, v3, v4, v5, v6, v7, v8, v9⟩ := v
  obtain ⟨n1, n2, n3, n4, n5, n6, n7, n8, n9⟩ := u
  obtain ⟨t1, t2, t3, t4, t5, t6, t7, t8, t9⟩ := t
  dsimp only at T1 T2 T3 L1 L2 L3 B0 ⊢
  obtain ⟨wb, hwb⟩ : ∃ wb, wb = (((W.alloc (.cells #[.int .i64 v1, .int .i64 v2, .int .i64 v3, .int .i64 v4, .int .i64 v5, .int .i64 v6, .int .i64 v7, .int .i64 v8, .int .i64 v9] 26)).alloc (.cells #[.int .i64 n1, .int .i64 n2, .int .i64 n3, .int .i64 n4, .int .i64 n5, .int .i64 n6, .int .i64 n7, .int .i64 n8, .int .i64 n9] 26)).alloc (.cells #[.int .i64 t1, .int .i64 t2, .int .i64 t3, .int .i64 t4, .int .i64 t5, .int .i64 t6, .int .i64 t7, .int .i64 t8, .int .i64 t9] 26)) := ⟨_, rfl⟩
  rw [← hwb] at B0
  have HW := Lib.hid hwb
  clear hwb
  by_cases hn : 60 < n
  · have tn : (60 : Int) < (n : Int) := by omega
    go_enter Try.func6, Try.ntmps6
    go_wp2_with fail
    rw [← HW.out]
    refine (AW.out _).mono ?_
    rintro e w1 ⟨rfl, b1⟩
    have B1 := Lib.hid (B0.out.below b1)
    clear b1
    go_wp2_with fail
    go_returns
    exact ⟨rfl, B1.out.bel⟩
  by_cases ht : turn < 0
  · have tn : (n : Int) ≤ 60 := by omega
    go_enter Try.func6, Try.ntmps6
    go_wp2_with fail
    rw [← HW.out]
    refine (AW.out _).mono ?_
    rintro e w1 ⟨rfl, b1⟩
    have B1 := Lib.hid (B0.out.below b1)
    clear b1
    go_wp2_with fail
    go_returns
    exact ⟨rfl, B1.out.bel⟩
  have tn : (n : Int) ≤ 60 := by omega
  obtain ⟨tr, rfl⟩ := Int.eq_ofNat_of_zero_le (show 0 ≤ turn by omega)
  clear ht hn
  go_enter Try.func6, Try.ntmps6
  go_wp2_with fail
  rw [← HW.out]
  clear HW
  go_loopw [11, 12] (fun s11 s12 wr => ∃ (i : Int) (k : Nat) (R : Nat → Ev), s12 = .int .i64 i ∧ -1 ≤ i ∧ i < n ∧ k ≤ 60 ∧ (k : Int) = n - 1 - i ∧ Hid ((∀ x ∈ ents R k, x ∈ ents F n) ∧ (∀ j, j < n → i < (j : Int) → F ((j + tr % n) % n) ∈ ents R k) ∧ EvRow wr wb.heap.size s11 k R ∧ Below wb.heap.size wb wr)) (fun _ s12 _ => (intOf s12 + 1).toNat)
  case atStart => exact ⟨(n : Int) - 1, 0, F, rfl, by omega, by omega, by omega, by omega, Lib.hid ⟨fun x hx => (by simp [ents] at hx), fun j hj h => by omega, ⟨rfl, .inl ⟨rfl, rfl⟩⟩, Below.refl _ _⟩⟩
  case round =>
    obtain ⟨i, k, R, rfl, hi1, hi2, hk, hki, hrel⟩ := hrel
    have HREL := hrel
    clear hrel
    by_cases hlt : 0 ≤ i
    · obtain ⟨j, rfl⟩ := Int.eq_ofNat_of_zero_le hlt
      have hq : (j + tr % n) % n < n := Nat.mod_lt _ (by omega)
      obtain ⟨q, hqq⟩ : ∃ q, q = (j + tr % n) % n := ⟨_, rfl⟩
      have hqi : ((j : Int) + (tr : Int) % (n : Int)) % (n : Int) = (q : Int) := by rw [hqq]; simp
      rw [← hqq] at hq
      have htm : 0 ≤ (tr : Int) % (n : Int) ∧ (tr : Int) % (n : Int) < n := ⟨Int.emod_nonneg _ (by omega), Int.emod_lt_of_pos _ (by omega)⟩
      obtain ⟨g, o, rfl, hg, A0⟩ := evs_at (HS.out.below (B0.out.bel.trans (HREL.out.2.2.2.mono B0.out.bel.size))) hq
      have zg := szs hg
      have tq : (q : Int) < (n : Int) := by omega
      have HQ : Hid (F q = F ((j + tr % n) % n)) := Lib.hid (by rw [hqq])
      obtain ⟨x, hx⟩ : ∃ x, x = F q := ⟨_, rfl⟩
      rw [← hx] at A0 HQ
      have HXM : Hid (x ∈ ents F n) := Lib.hid (by rw [hx]; exact mem_ents.2 ⟨q, hq, rfl⟩)
      clear hx hqq
      obtain ⟨x1, x2, x3, x4, x5, x6, x7, x8, x9⟩ := x
      (have a0 := (A0).c0; have a1 := (A0).c1; have a2 := (A0).c2; have a3 := (A0).c3; have a4 := (A0).c4; have a5 := (A0).c5; have a6 := (A0).c6; have a7 := (A0).c7; have a8 := (A0).c8); (try dsimp only at a0 a1 a2 a3 a4 a5 a6 a7 a8)
      have BA : Hid (Below wr.heap.size wr (wr.alloc (.cells #[.int .i64 x1, .int .i64 x2, .int .i64 x3, .int .i64 x4, .int .i64 x5, .int .i64 x6, .int .i64 x7, .int .i64 x8, .int .i64 x9] 26))) := Lib.hid (by (repeat' (first | (with_reducible exact Below.refl _ _) | (with_reducible assumption) | (with_reducible refine Below.drew ?_) | (with_reducible refine below_drewN ?_ _) | (with_reducible refine Below.alloc ?_ ?_ _) | (with_reducible refine Below.setCell ?_ ?_ _) | go_size)))
      have hsz := HREL.out.2.2.2.size
      clear A0
      go_wp2_with (at_builtin; go_loud (refine wpList_append_row _ rfl _ _ 34 rfl wb.heap.size 26 i0 _ 9 72 Try.underlying34 hi0 hz0 hz1 hz2 rfl (by decide) _ k (fun i => evs (R i)) rfl (Row.off (X := fun _ => False) HREL.out.2.2.1 (Off.of_below BA.out) (fun _ _ h => h)) (fun i => evs_len _) wr.heap.size 1 (evs ⟨x1, x2, x3, x4, x5, x6, x7, x8, x9⟩) rfl rfl 26 (0, 0) (heap_alloc_new wr _) (evs_one _) (by omega) (by unfold maxLen; omega) (by have := BA.out.size; omega) ?_))
      intro g2 cap2 w2 h1 h2 h3 h4 _ hrow hbel
      rw [evs_upd] at hrow
      have R2 := Lib.hid hrow
      have B2 := Lib.hid (HREL.out.2.2.2.trans ((BA.out.mono hsz).trans ((Off.of_grown hbel).toBelow (by have := BA.out.size; omega) (fun q hq hx => Row.apart HREL.out.2.2.1 hq hx))))
      clear hrow hbel a0 a1 a2 a3 a4 a5 a6 a7 a8
      go_wp2_with fail
      go_roundw
      case rel =>
        refine ⟨(j : Int) - 1, k + 1, upd R k ⟨x1, x2, x3, x4, x5, x6, x7, x8, x9⟩, by go_num, by omega, by omega, by omega, by omega, Lib.hid ⟨fun y hy => ?_, fun j' hj' hlt' => ?_, R2.out, B2.out⟩⟩
        · rw [ents_push] at hy
          rcases List.mem_append.1 hy with h | h
          · exact HREL.out.1 y h
          · rw [List.mem_singleton.1 h]; exact HXM.out
        · rw [ents_push]
          by_cases e : j' = j
          · subst e; rw [← HQ.out]; simp
          · exact List.mem_append.2 (.inl (HREL.out.2.1 j' hj' (by omega)))
      case measure => show ((j : Int) - 1 + 1).toNat < ((j : Int) + 1).toNat; omega
    · obtain rfl : i = -1 := by omega
      obtain rfl : k = n := by omega
      have HALL : Hid (∀ x ∈ ents F k, x ∈ ents R k) := Lib.hid (fun x hx => by
        obtain ⟨j, hj, rfl⟩ := mem_ents.1 hx
        obtain ⟨i, hi, he⟩ := turned (r := tr) hj
        rw [← he]
        exact HREL.out.2.1 i hi (by omega))
      clear hki hi1 hi2 hlt hk
      go_wp2_with fail
      go_loopw [11, 13] (fun s11 s13 wr => ∃ (i k2 : Nat) (R : Nat → Ev), s13 = .int .i64 i ∧ i ≤ k + 1 ∧ k2 ≤ k + i ∧ Hid ((∀ x ∈ ents R k2, x ∈ ents F k) ∧ (∀ x ∈ ents F k, x ∈ ents R k2) ∧ EvRow wr wb.heap.size s11 k2 R ∧ Below wb.heap.size wb wr)) (fun _ s13 _ => k + 2 - (intOf s13).toNat)
      case atStart => exact ⟨0, k, R, rfl, by omega, by omega, Lib.hid ⟨HREL.out.1, HALL.out, HREL.out.2.2.1, HREL.out.2.2.2⟩⟩
      case round =>
        clear HREL HALL
        obtain ⟨i, k2, R, rfl, hi, hk2, hrel⟩ := hrel
        have HREL := hrel
        clear hrel
        by_cases hlt : i < k
        · have tl : (i : Int) < (k : Int) := by omega
          obtain ⟨g, o, rfl, hg, A0⟩ := evs_at (HS.out.below (B0.out.bel.trans (HREL.out.2.2.2.mono B0.out.bel.size))) hlt
          have zg := szs hg
          obtain ⟨x, hx⟩ : ∃ x, x = F i := ⟨_, rfl⟩
          rw [← hx] at A0
          have HXM : Hid (x ∈ ents F k) := Lib.hid (by rw [hx]; exact mem_ents.2 ⟨i, hlt, rfl⟩)
          clear hx
          obtain ⟨x1, x2, x3, x4, x5, x6, x7, x8, x9⟩ := x
          (have a0 := (A0).c0; have a1 := (A0).c1; have a2 := (A0).c2; have a3 := (A0).c3; have a4 := (A0).c4; have a5 := (A0).c5; have a6 := (A0).c6; have a7 := (A0).c7; have a8 := (A0).c8); (try dsimp only at a0 a1 a2 a3 a4 a5 a6 a7 a8)
          have BA : Hid (Below wr.heap.size wr (wr.alloc (.cells #[.int .i64 x1, .int .i64 x2, .int .i64 x3, .int .i64 x4, .int .i64 x5, .int .i64 x6, .int .i64 x7, .int .i64 x8, .int .i64 x9] 26))) := Lib.hid (by (repeat' (first | (with_reducible exact Below.refl _ _) | (with_reducible assumption) | (with_reducible refine Below.drew ?_) | (with_reducible refine below_drewN ?_ _) | (with_reducible refine Below.alloc ?_ ?_ _) | (with_reducible refine Below.setCell ?_ ?_ _) | go_size)))
          have hsz := HREL.out.2.2.2.size
          clear A0
          go_wp2_with (at_builtin; go_loud (refine wpList_append_row _ rfl _ _ 34 rfl wb.heap.size 26 i0 _ 9 72 Try.underlying34 hi0 hz0 hz1 hz2 rfl (by decide) _ k2 (fun i => evs (R i)) rfl (Row.off (X := fun _ => False) HREL.out.2.2.1 (Off.of_below BA.out) (fun _ _ h => h)) (fun i => evs_len _) wr.heap.size 1 (evs ⟨x1, x2, x3, x4, x5, x6, x7, x8, x9⟩) rfl rfl 26 (0, 0) (heap_alloc_new wr _) (evs_one _) (by omega) (by unfold maxLen; omega) (by have := BA.out.size; omega) ?_))
          intro g2 cap2 w2 h1 h2 h3 h4 _ hrow hbel
          rw [evs_upd] at hrow
          have R2 := Lib.hid hrow
          have B2 := Lib.hid (HREL.out.2.2.2.trans ((BA.out.mono hsz).trans ((Off.of_grown hbel).toBelow (by have := BA.out.size; omega) (fun q hq hx => Row.apart HREL.out.2.2.1 hq hx))))
          clear hrow hbel a0 a1 a2 a3 a4 a5 a6 a7 a8
          go_wp2_with fail
          go_roundw
          case rel =>
            refine ⟨i + 2, k2 + 1, upd R k2 ⟨x1, x2, x3, x4, x5, x6, x7, x8, x9⟩, by go_num, by omega, by omega, Lib.hid ⟨fun y hy => ?_, fun y hy => ?_, R2.out, B2.out⟩⟩
            · rw [ents_push] at hy
              rcases List.mem_append.1 hy with h | h
              · exact HREL.out.1 y h
              · rw [List.mem_singleton.1 h]; exact HXM.out
            · rw [ents_push]
              exact List.mem_append.2 (.inl (HREL.out.2.1 y hy))
          case measure => simp [intOf]; omega
        · have tl : (k : Int) ≤ (i : Int) := by omega
          have M1 := Lib.hid (B0.out.below HREL.out.2.2.2)
          obtain ⟨bo, bc, rfl, SR⟩ := EvRow.toSl HREL.out.2.2.1
          have HSE : Hid (setE (ents F k) = setE (ents R k2)) := Lib.hid (setE_congr fun x => ⟨HREL.out.2.1 x, HREL.out.1 x⟩)
          have C1 := Lib.hid (set22 ao k c F wr (HS.out.below M1.out.bel) (by omega))
          have SR1 := Lib.hid SR
          clear HREL SR
          go_wp2_with fail
          refine C1.out.mono ?_
          rintro e w2 ⟨v, m2, X, rfl, hX, hrow, hb⟩
          obtain ⟨xo, xc, rfl, SX⟩ := EvRow.toSl hrow
          have M2 := Lib.hid (M1.out.below hb)
          have HX := Lib.hid hX
          have SX2 := Lib.hid SX
          have C2 := Lib.hid (set22 bo k2 bc R w2 (SR1.out.below hb) (by omega))
          clear C1 hX hrow hb SX SR1 M1
          go_wp2_with fail
          refine C2.out.mono ?_
          rintro e w3 ⟨v, m3, Y, rfl, hY, hrow, hb⟩
          obtain ⟨yo, yc, rfl, SY⟩ := EvRow.toSl hrow
          have M3 := Lib.hid (M2.out.below hb)
          have C3 := same21 xo m2 xc X yo m3 yc Y w3 (SX2.out.below hb) SY
          rw [decide_eq_true (HX.out.trans (HSE.out.trans hY.symm))] at C3
          replace C3 := Lib.hid C3
          clear C2 hY hrow hb SY SX2 M2 HX HSE
          go_wp2_with fail
          refine C3.out.mono ?_
          rintro e w4 ⟨rfl, hb⟩
          have M4 := Lib.hid (M3.out.below hb)
          clear C3 hb M3
          have y0 := M4.out.one
          have y1 := M4.out.two
          have y2 := M4.out.three
          unfold eC at y0 y1 y2
          dsimp only at y0 y1 y2
          have zx := szs (block_lt y0)
          have zy := szs (block_lt y1)
          have zz := szs (block_lt y2)
          have a0 := cell_at y0 0
          have a1 := cell_at y0 1
          have a2 := cell_at y0 2
          have a3 := cell_at y0 3
          have a4 := cell_at y0 4
          have a5 := cell_at y0 5
          have a6 := cell_at y0 6
          have a7 := cell_at y0 7
          have a8 := cell_at y0 8
          have d0 := cell_at y1 0
          have d1 := cell_at y1 1
          have d2 := cell_at y1 2
          have d3 := cell_at y1 3
          have d4 := cell_at y1 4
          have d5 := cell_at y1 5
          have d6 := cell_at y1 6
          have d7 := cell_at y1 7
          have d8 := cell_at y1 8
          have k0 := cell_at y2 0
          have k1 := cell_at y2 1
          have k2 := cell_at y2 2
          have k3 := cell_at y2 3
          have k4 := cell_at y2 4
          have k5 := cell_at y2 5
          have k6 := cell_at y2 6
          have k7 := cell_at y2 7
          have k8 := cell_at y2 8
          clear y0 y1 y2
          go_wp2_with fail
          refine (T1.out _).mono ?_
          rintro e w5 ⟨rfl, hb⟩
          have M5 := Lib.hid (M4.out.below hb)
          clear a0 a1 a2 a3 a4 a5 a6 a7 a8 d0 d1 d2 d3 d4 d5 d6 d7 d8 k0 k1 k2 k3 k4 k5 k6 k7 k8 zx zy zz
          clear hb M4
          have y0 := M5.out.one
          have y1 := M5.out.two
          have y2 := M5.out.three
          unfold eC at y0 y1 y2
          dsimp only at y0 y1 y2
          have zx := szs (block_lt y0)
          have zy := szs (block_lt y1)
          have zz := szs (block_lt y2)
          have a0 := cell_at y0 0
          have a1 := cell_at y0 1
          have a2 := cell_at y0 2
          have a3 := cell_at y0 3
          have a4 := cell_at y0 4
          have a5 := cell_at y0 5
          have a6 := cell_at y0 6
          have a7 := cell_at y0 7
          have a8 := cell_at y0 8
          have d0 := cell_at y1 0
          have d1 := cell_at y1 1
          have d2 := cell_at y1 2
          have d3 := cell_at y1 3
          have d4 := cell_at y1 4
          have d5 := cell_at y1 5
          have d6 := cell_at y1 6
          have d7 := cell_at y1 7
          have d8 := cell_at y1 8
          have k0 := cell_at y2 0
          have k1 := cell_at y2 1
          have k2 := cell_at y2 2
          have k3 := cell_at y2 3
          have k4 := cell_at y2 4
          have k5 := cell_at y2 5
          have k6 := cell_at y2 6
          have k7 := cell_at y2 7
          have k8 := cell_at y2 8
          clear y0 y1 y2
          go_wp2_with fail
          refine (T2.out _).mono ?_
          rintro e w6 ⟨rfl, hb⟩
          have M6 := Lib.hid (M5.out.below hb)
          clear a0 a1 a2 a3 a4 a5 a6 a7 a8 d0 d1 d2 d3 d4 d5 d6 d7 d8 k0 k1 k2 k3 k4 k5 k6 k7 k8 zx zy zz
          clear hb M5
          have y0 := M6.out.one
          have y1 := M6.out.two
          have y2 := M6.out.three
          unfold eC at y0 y1 y2
          dsimp only at y0 y1 y2
          have zx := szs (block_lt y0)
          have zy := szs (block_lt y1)
          have zz := szs (block_lt y2)
          have a0 := cell_at y0 0
          have a1 := cell_at y0 1
          have a2 := cell_at y0 2
          have a3 := cell_at y0 3
          have a4 := cell_at y0 4
          have a5 := cell_at y0 5
          have a6 := cell_at y0 6
          have a7 := cell_at y0 7
          have a8 := cell_at y0 8
          have d0 := cell_at y1 0
          have d1 := cell_at y1 1
          have d2 := cell_at y1 2
          have d3 := cell_at y1 3
          have d4 := cell_at y1 4
          have d5 := cell_at y1 5
          have d6 := cell_at y1 6
          have d7 := cell_at y1 7
          have d8 := cell_at y1 8
          have k0 := cell_at y2 0
          have k1 := cell_at y2 1
          have k2 := cell_at y2 2
          have k3 := cell_at y2 3
          have k4 := cell_at y2 4
          have k5 := cell_at y2 5
          have k6 := cell_at y2 6
          have k7 := cell_at y2 7
          have k8 := cell_at y2 8
          clear y0 y1 y2
          go_wp2_with fail
          refine (T3.out _).mono ?_
          rintro e w7 ⟨rfl, hb⟩
          have M7 := Lib.hid (M6.out.below hb)
          clear a0 a1 a2 a3 a4 a5 a6 a7 a8 d0 d1 d2 d3 d4 d5 d6 d7 d8 k0 k1 k2 k3 k4 k5 k6 k7 k8 zx zy zz
          clear hb M6
          have y0 := M7.out.one
          have y1 := M7.out.two
          have y2 := M7.out.three
          unfold eC at y0 y1 y2
          dsimp only at y0 y1 y2
          have zx := szs (block_lt y0)
          have zy := szs (block_lt y1)
          have zz := szs (block_lt y2)
          have a0 := cell_at y0 0
          have a1 := cell_at y0 1
          have a2 := cell_at y0 2
          have a3 := cell_at y0 3
          have a4 := cell_at y0 4
          have a5 := cell_at y0 5
          have a6 := cell_at y0 6
          have a7 := cell_at y0 7
          have a8 := cell_at y0 8
          have d0 := cell_at y1 0
          have d1 := cell_at y1 1
          have d2 := cell_at y1 2
          have d3 := cell_at y1 3
          have d4 := cell_at y1 4
          have d5 := cell_at y1 5
          have d6 := cell_at y1 6
          have d7 := cell_at y1 7
          have d8 := cell_at y1 8
          have k0 := cell_at y2 0
          have k1 := cell_at y2 1
          have k2 := cell_at y2 2
          have k3 := cell_at y2 3
          have k4 := cell_at y2 4
          have k5 := cell_at y2 5
          have k6 := cell_at y2 6
          have k7 := cell_at y2 7
          have k8 := cell_at y2 8
          clear y0 y1 y2
          go_wp2_with fail
          refine (L1.out _).mono ?_
          rintro e w8 ⟨rfl, hb⟩
          have M8 := Lib.hid (M7.out.below hb.1)
          clear a0 a1 a2 a3 a4 a5 a6 a7 a8 d0 d1 d2 d3 d4 d5 d6 d7 d8 k0 k1 k2 k3 k4 k5 k6 k7 k8 zx zy zz
          clear hb M7
          have y0 := M8.out.one
          have y1 := M8.out.two
          have y2 := M8.out.three
          unfold eC at y0 y1 y2
          dsimp only at y0 y1 y2
          have zx := szs (block_lt y0)
          have zy := szs (block_lt y1)
          have zz := szs (block_lt y2)
          have a0 := cell_at y0 0
          have a1 := cell_at y0 1
          have a2 := cell_at y0 2
          have a3 := cell_at y0 3
          have a4 := cell_at y0 4
          have a5 := cell_at y0 5
          have a6 := cell_at y0 6
          have a7 := cell_at y0 7
          have a8 := cell_at y0 8
          have d0 := cell_at y1 0
          have d1 := cell_at y1 1
          have d2 := cell_at y1 2
          have d3 := cell_at y1 3
          have d4 := cell_at y1 4
          have d5 := cell_at y1 5
          have d6 := cell_at y1 6
          have d7 := cell_at y1 7
          have d8 := cell_at y1 8
          have k0 := cell_at y2 0
          have k1 := cell_at y2 1
          have k2 := cell_at y2 2
          have k3 := cell_at y2 3
          have k4 := cell_at y2 4
          have k5 := cell_at y2 5
          have k6 := cell_at y2 6
          have k7 := cell_at y2 7
          have k8 := cell_at y2 8
          clear y0 y1 y2
          cases b1
          · go_wp2_with fail
            refine (AW.out _).mono ?_
            rintro e w9 ⟨rfl, hb⟩
            have M9 := Lib.hid (M8.out.below hb)
            clear hb
            go_wp2_with fail
            go_returns
            exact ⟨rfl, M9.out.bel⟩
          · go_wp2_with fail
            refine (L2.out _).mono ?_
            rintro e w9 ⟨rfl, hb⟩
            have M9 := Lib.hid (M8.out.below hb.1)
            clear a0 a1 a2 a3 a4 a5 a6 a7 a8 d0 d1 d2 d3 d4 d5 d6 d7 d8 k0 k1 k2 k3 k4 k5 k6 k7 k8 zx zy zz
            clear hb M8
            have y0 := M9.out.one
            have y1 := M9.out.two
            have y2 := M9.out.three
            unfold eC at y0 y1 y2
            dsimp only at y0 y1 y2
            have zx := szs (block_lt y0)
            have zy := szs (block_lt y1)
            have zz := szs (block_lt y2)
            have a0 := cell_at y0 0
            have a1 := cell_at y0 1
            have a2 := cell_at y0 2
            have a3 := cell_at y0 3
            have a4 := cell_at y0 4
            have a5 := cell_at y0 5
            have a6 := cell_at y0 6
            have a7 := cell_at y0 7
            have a8 := cell_at y0 8
            have d0 := cell_at y1 0
            have d1 := cell_at y1 1
            have d2 := cell_at y1 2
            have d3 := cell_at y1 3
            have d4 := cell_at y1 4
            have d5 := cell_at y1 5
            have d6 := cell_at y1 6
            have d7 := cell_at y1 7
            have d8 := cell_at y1 8
            have k0 := cell_at y2 0
            have k1 := cell_at y2 1
            have k2 := cell_at y2 2
            have k3 := cell_at y2 3
            have k4 := cell_at y2 4
            have k5 := cell_at y2 5
            have k6 := cell_at y2 6
            have k7 := cell_at y2 7
            have k8 := cell_at y2 8
            clear y0 y1 y2
            cases b2
            · go_wp2_with fail
              refine (AW.out _).mono ?_
              rintro e w10 ⟨rfl, hb⟩
              have M10 := Lib.hid (M9.out.below hb)
              clear hb
              go_wp2_with fail
              go_returns
              exact ⟨rfl, M10.out.bel⟩
            · obtain rfl : b3 = true := by have := HTR.out; simpa using this
              clear HTR
              go_wp2_with fail
              refine (L3.out _).mono ?_
              rintro e w10 ⟨rfl, hb⟩
              have M10 := Lib.hid (M9.out.below hb.1)
              clear a0 a1 a2 a3 a4 a5 a6 a7 a8 d0 d1 d2 d3 d4 d5 d6 d7 d8 k0 k1 k2 k3 k4 k5 k6 k7 k8 zx zy zz
              clear hb M9
              go_wp2_with fail
              refine (AW.out _).mono ?_
              rintro e w11 ⟨rfl, hb⟩
              have M11 := Lib.hid (M10.out.below hb)
              clear hb
              go_wp2_with fail
              go_returns
              exact ⟨rfl, M11.out.bel⟩
end Go.Proofs.Ytmhnkfcbbjbpfaa
