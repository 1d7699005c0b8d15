/- The law EventLeast. -/
import Derived.Test.YtmhnkfcbbjbpfaaAW2
import Derived.Test.YtmhnkfcbbjbpfaaBC
namespace Go.Proofs.Ytmhnkfcbbjbpfaa
open Go.RowKit Go.ChangeShapes Go.WideShapes Go.Deep
set_option linter.unusedVariables false
set_option linter.unusedSimpArgs false
/-- Whether the event is among the first. -/
def fndB (F : Nat → Ev) (x : Ev) : Nat → Bool
  | 0 => false
  | i + 1 => fndB F x i || decide (F i = x)
theorem fndB_of {F : Nat → Ev} {x : Ev} : ∀ {n : Nat}, x ∈ ents F n → fndB F x n = true
  | 0, h => by simp [ents] at h
  | n + 1, h => by
    rw [ents_succ] at h
    unfold fndB
    rcases List.mem_append.1 h with h | h
    · rw [fndB_of h]; rfl
    · rw [List.mem_singleton.1 h]; simp
set_option maxRecDepth 4000 in
set_option maxHeartbeats 8000000 in
theorem run_eventLeast {H : Type} {enc : TypeId × Value → H} (W : World) (base : Nat) (v0 : Value) (d0 : DataW H) (p0 : List MemPlace) (hv0 : Value.okWide Try.prog W .any base 34 v0) (h0 : DataW.Trod enc Try.prog W 0 (fun _ => true) true 34 v0 d0 p0) :
    Calls Try.prog 7 #[v0] W fun e w' => e = .returned (.bool true) ∧ Below W.heap.size W w' := by
  obtain ⟨ao, n, c, F, rfl, hs, _⟩ := open_events hv0 h0
  clear hv0 h0
  have AW := Lib.hid (fun w' => awake14 w')
  have q1 := hs.hm
  have q2 := hs.hc
  have HS := Lib.hid hs
  clear hs
  by_cases hn : 60 < n
  · have tn : (60 : Int) < (n : Int) := by omega
    go_enter Try.func7, Try.ntmps7
    go_wp2_with fail
    refine (AW.out _).mono ?_
    rintro e w1 ⟨rfl, b1⟩
    have B1 := Lib.hid b1
    clear b1
    go_wp2_with fail
    go_returns
    exact ⟨rfl, B1.out⟩
  have tn : (n : Int) ≤ 60 := by omega
  have C1 := Lib.hid (set22 ao n c F W HS.out (by omega))
  go_enter Try.func7, Try.ntmps7
  go_wp2_with fail
  refine C1.out.mono ?_
  rintro e w1 ⟨v, m, R, rfl, hR, hrow, hb⟩
  obtain ⟨so, sc, rfl, SR⟩ := EvRow.toSl hrow
  have B1 := Lib.hid hb
  have HR := Lib.hid hR
  have S1 := Lib.hid SR
  have H1 := Lib.hid (HS.out.below hb)
  have z1 := SR.hm
  have z2 := SR.hc
  have hmn : m ≤ n := by
    have h1 := setE_len (ents F n)
    rw [← hR, ents_len, ents_len] at h1
    exact h1
  have ASC : Hid (∀ j, j + 1 < m → ltE (R j) (R (j + 1)) = true) := Lib.hid (fun j hj => by
    refine setE_asc (l := ents F n) (i := j) ?_ ?_
    · rw [← hR]; exact ents_get (by omega)
    · rw [← hR]; exact ents_get hj)
  have ONE : Hid (∀ i, i < n → ∃ k0, k0 < m ∧ sameN (R k0) (F i) = true ∧ ltE (F i) (R k0) = false ∧ ∀ j, j < m → sameN (R j) (F i) = true → j = k0) := Lib.hid (fun i hi => by
    obtain ⟨k0, y, h1, h2, h3, h4⟩ := setE_one (l := ents F n) (x := F i) (mem_ents.2 ⟨i, hi, rfl⟩)
    rw [← hR] at h1
    have hk : k0 < m := by
      rcases Nat.lt_or_ge k0 m with h | h
      · exact h
      · rw [List.getElem?_eq_none (by rw [ents_len]; exact h)] at h1; cases h1
    rw [ents_get hk] at h1
    cases h1
    exact ⟨k0, hk, h2, h3, fun j hj h => h4 j (R j) (by rw [← hR]; exact ents_get hj) h⟩)
  have ALL : Hid (∀ k, k < m → R k ∈ ents F n) := Lib.hid (fun k hk => by
    have : R k ∈ setE (ents F n) := by rw [← hR]; exact mem_ents.2 ⟨k, hk, rfl⟩
    exact (mem_setE.1 this).1)
  clear hR hrow hb SR C1 HR
  go_wp2_with fail
  go_loopw [4] (fun s4 wr => ∃ j : Nat, s4 = .int .i64 ((j : Int) + 1) ∧ j ≤ m ∧ Hid (Below w1.heap.size w1 wr)) (fun s4 _ => m + 2 - (intOf s4).toNat)
  case atStart => exact ⟨0, rfl, by omega, Lib.hid (Below.refl _ _)⟩
  case round =>
    obtain ⟨j, rfl, hj, hrel⟩ := hrel
    have HB := hrel
    clear hrel
    by_cases hlt : j + 1 < m
    · have tj : (j : Int) + 1 < (m : Int) := by omega
      have tj2 : (j : Int) < (m : Int) := by omega
      obtain ⟨g, o, rfl, hg, A0⟩ := evs_at (S1.out.below HB.out) (show j < m by omega)
      obtain ⟨g', o', e', _, A1⟩ := evs_at (S1.out.below HB.out) hlt
      cases e'
      have zg := szs hg
      have LL := fun w' => less19 (R j) (R (j + 1)) w'
      rw [ASC.out j hlt] at LL
      generalize R j = x at *
      generalize R (j + 1) = y at *
      obtain ⟨x1, x2, x3, x4, x5, x6, x7, x8, x9⟩ := x
      obtain ⟨y1, y2, y3, y4, y5, y6, y7, y8, y9⟩ := y
      unfold eC at LL
      dsimp only at LL
      replace LL := Lib.hid LL
      (have a0 := (A0).c0; have a1 := (A0).c1; have a2 := (A0).c2; have a3 := (A0).c3; have a4 := (A0).c4; have a5 := (A0).c5; have a6 := (A0).c6; have a7 := (A0).c7; have a8 := (A0).c8); (try dsimp only at a0 a1 a2 a3 a4 a5 a6 a7 a8)
      (have d0 := (A1).c0; have d1 := (A1).c1; have d2 := (A1).c2; have d3 := (A1).c3; have d4 := (A1).c4; have d5 := (A1).c5; have d6 := (A1).c6; have d7 := (A1).c7; have d8 := (A1).c8); (try dsimp only at d0 d1 d2 d3 d4 d5 d6 d7 d8)
      clear A0 A1
      go_wp2_with fail
      (refine region_order (fun i : Nat => World.drewN _ i) [] [0, 1, 2, 3, 4, 5, 6, 7, 8] 9 [10] mixed (by kernel_rfl) ⟨1, rfl⟩ ?_; simp only [List.map_cons, List.map_nil, Array.getD_eq_getD_getElem?, List.getElem?_toArray, List.getElem?_cons_zero, List.getElem?_cons_succ, Option.getD_some]; (repeat (refine wpPure_cons _ rfl (fun w' => by go_simp; try rfl) ?_; dsimp only [Act.put])); refine wpPure_nil ?_; (repeat (any_goals (first | go_big_quiet_step (fail) | quiet_step (fail) | (refine wpQuiet_step (fun K hK => ?_); go_simp; split <;> (refine hK _ ?_; clear hK K))))); (all_goals (refine wpQuiet_nil (fun nq => ?_))))
      obtain ⟨w2, hw2⟩ : ∃ w2, w2 = wr.drewN nq := ⟨_, rfl⟩
      rw [← hw2]
      have B2 : Hid (Below w1.heap.size w1 w2) := Lib.hid (by have := HB.out; rw [hw2]; (have hszz := (this).size; (repeat' (first | (with_reducible exact Below.refl _ _) | (with_reducible assumption) | (with_reducible refine Below.drew ?_) | (with_reducible refine below_drewN ?_ _) | (with_reducible refine Below.alloc ?_ ?_ _) | (with_reducible refine Below.setCell ?_ ?_ _) | go_size))))
      clear hw2 a0 a1 a2 a3 a4 a5 a6 a7 a8 d0 d1 d2 d3 d4 d5 d6 d7 d8
      go_wp2_with fail
      refine (LL.out _).mono ?_
      rintro e w3 ⟨rfl, hb⟩
      have B3 := Lib.hid (B2.out.trans (hb.1.mono B2.out.size))
      clear hb LL
      go_wp2_with fail
      refine onlyN_intro ?_
      go_wp2_with fail
      go_roundw
      case rel => exact ⟨j + 1, by go_num, by omega, B3⟩
      case measure => simp [intOf]; omega
    · have tj : (m : Int) ≤ (j : Int) + 1 := by omega
      clear ASC hlt
      go_wp2_with fail
      go_loopw [5] (fun s5 wr => ∃ i : Nat, s5 = .int .i64 i ∧ i ≤ n ∧ Hid (Below w1.heap.size w1 wr)) (fun s5 _ => n - (intOf s5).toNat)
      case atStart => exact ⟨0, rfl, by omega, HB⟩
      case round =>
        clear HB tj hj
        obtain ⟨i, rfl, hi, hrel⟩ := hrel
        have HB := hrel
        clear hrel
        by_cases hlt : i < n
        · have ti : (i : Int) < (n : Int) := by omega
          obtain ⟨k0, k1, k2, k3, k4⟩ := ONE.out i hlt
          have KS := Lib.hid k2
          have KL := Lib.hid k3
          have KU := Lib.hid k4
          clear k2 k3 k4
          go_wp2_with fail
          go_loopw [6, 7] (fun s6 s7 wi => ∃ k : Nat, s7 = .int .i64 k ∧ k ≤ m ∧ s6 = .int .i64 (if k0 < k then 1 else 0) ∧ Hid (Below w1.heap.size w1 wi)) (fun _ s7 _ => m - (intOf s7).toNat)
          case atStart => exact ⟨0, rfl, by omega, by simp, HB⟩
          case round =>
            clear HB
            obtain ⟨k, rfl, hk, rfl, hrel⟩ := hrel
            have HC := hrel
            clear hrel
            by_cases hlk : k < m
            · have tk : (k : Int) < (m : Int) := by omega
              obtain ⟨g, o, rfl, hg, A0⟩ := evs_at (S1.out.below HC.out) hlk
              obtain ⟨g', o', rfl, hg', A1⟩ := evs_at (H1.out.below HC.out) hlt
              have zg := szs hg
              have zg' := szs hg'
              by_cases hkk : k = k0
              · subst hkk
                have e1 : (if k < k then (1 : Int) else 0) = 0 := by simp
                have e2 : (if k < k + 1 then (1 : Int) else 0) = 1 := by simp
                rw [e1]
                have E2 := Lib.hid e2
                have LL := fun w' => less19 (F i) (R k) w'
                rw [KL.out] at LL
                obtain ⟨m1, m2⟩ := sameN_iff.1 KS.out
                have t1 : ((R k).dev == (F i).dev) = true := by simp [m1]
                have t2 : ((R k).seq == (F i).seq) = true := by simp [m2]
                clear m1 m2 KS KL KU e1 e2
                generalize R k = x at *
                generalize F i = y at *
                obtain ⟨x1, x2, x3, x4, x5, x6, x7, x8, x9⟩ := x
                obtain ⟨y1, y2, y3, y4, y5, y6, y7, y8, y9⟩ := y
                unfold eC at LL
                dsimp only at LL t1 t2
                replace LL := Lib.hid LL
                (have a0 := (A0).c0; have a1 := (A0).c1; have a2 := (A0).c2; have a3 := (A0).c3; have a4 := (A0).c4; have a5 := (A0).c5; have a6 := (A0).c6; have a7 := (A0).c7; have a8 := (A0).c8); (try dsimp only at a0 a1 a2 a3 a4 a5 a6 a7 a8)
                (have d0 := (A1).c0; have d1 := (A1).c1; have d2 := (A1).c2; have d3 := (A1).c3; have d4 := (A1).c4; have d5 := (A1).c5; have d6 := (A1).c6; have d7 := (A1).c7; have d8 := (A1).c8); (try dsimp only at d0 d1 d2 d3 d4 d5 d6 d7 d8)
                clear A0 A1
                go_wp2_with fail
                (focus (refine region_all (fun i : Nat => World.drewN _ i) mixed (by kernel_rfl) ⟨1, rfl⟩ ?_; (repeat (any_goals (first | go_big_quiet_step (fail) | quiet_step (fail) | (refine wpQuiet_step (fun K hK => ?_); go_simp; split <;> (refine hK _ ?_; clear hK K))))); (all_goals (refine wpQuiet_nil (fun nq => ?_)))))
                obtain ⟨w5, hw5⟩ : ∃ w5, w5 = wr.drewN nq := ⟨_, rfl⟩
                rw [← hw5]
                have D5 : Below wr.heap.size wr w5 := by rw [hw5]; (repeat' (first | (with_reducible exact Below.refl _ _) | (with_reducible assumption) | (with_reducible refine Below.drew ?_) | (with_reducible refine below_drewN ?_ _) | (with_reducible refine Below.alloc ?_ ?_ _) | (with_reducible refine Below.setCell ?_ ?_ _) | go_size))
                have B5 := Lib.hid (HC.out.trans (D5.mono HC.out.size))
                have f0 := cell_kept D5 a0
                have f1 := cell_kept D5 a1
                have f2 := cell_kept D5 a2
                have f3 := cell_kept D5 a3
                have f4 := cell_kept D5 a4
                have f5 := cell_kept D5 a5
                have f6 := cell_kept D5 a6
                have f7 := cell_kept D5 a7
                have f8 := cell_kept D5 a8
                have h0 := cell_kept D5 d0
                have h1 := cell_kept D5 d1
                have h2 := cell_kept D5 d2
                have h3 := cell_kept D5 d3
                have h4 := cell_kept D5 d4
                have h5 := cell_kept D5 d5
                have h6 := cell_kept D5 d6
                have h7 := cell_kept D5 d7
                have h8 := cell_kept D5 d8
                have zh := szs (cell_lt f0)
                have zh' := szs (cell_lt h0)
                dsimp only at zh zh'
                clear hw5 D5 a0 a1 a2 a3 a4 a5 a6 a7 a8 d0 d1 d2 d3 d4 d5 d6 d7 d8 zg zg'
                go_wp2_with fail
                (refine region_order (fun i : Nat => World.drewN _ i) [] [0, 1, 2, 3, 4, 5, 6, 7] 8 [] mixed (by kernel_rfl) ⟨1, rfl⟩ ?_; simp only [List.map_cons, List.map_nil, Array.getD_eq_getD_getElem?, List.getElem?_toArray, List.getElem?_cons_zero, List.getElem?_cons_succ, Option.getD_some]; (repeat (refine wpPure_cons _ rfl (fun w' => by go_simp; try rfl) ?_; dsimp only [Act.put])); refine wpPure_nil ?_; (repeat (any_goals (first | go_big_quiet_step (fail) | quiet_step (fail) | (refine wpQuiet_step (fun K hK => ?_); go_simp; split <;> (refine hK _ ?_; clear hK K))))); (all_goals (refine wpQuiet_nil (fun nq => ?_))))
                obtain ⟨w6, hw6⟩ : ∃ w6, w6 = w5.drewN nq := ⟨_, rfl⟩
                rw [← hw6]
                have B6 : Hid (Below w1.heap.size w1 w6) := Lib.hid (by have := B5.out; rw [hw6]; (have hszz := (this).size; (repeat' (first | (with_reducible exact Below.refl _ _) | (with_reducible assumption) | (with_reducible refine Below.drew ?_) | (with_reducible refine below_drewN ?_ _) | (with_reducible refine Below.alloc ?_ ?_ _) | (with_reducible refine Below.setCell ?_ ?_ _) | go_size))))
                clear hw6 f0 f1 f2 f3 f4 f5 f6 f7 f8 h0 h1 h2 h3 h4 h5 h6 h7 h8 zh zh'
                go_wp2_with fail
                refine (LL.out _).mono ?_
                rintro e w7 ⟨rfl, hb⟩
                have B7 := Lib.hid (B6.out.trans (hb.1.mono B6.out.size))
                clear hb LL
                go_wp2_with fail
                refine onlyN_intro ?_
                go_wp2_with fail
                go_roundw
                case rel => exact ⟨k + 1, by go_num, by omega, by rw [E2.out]; try rfl, B7⟩
                case measure => simp [intOf]; omega
              · have hne : sameN (R k) (F i) = false := by
                  cases h : sameN (R k) (F i)
                  · rfl
                  · exact absurd (KU.out k hlk h) hkk
                have e2 : (if k0 < k + 1 then (1 : Int) else 0) = (if k0 < k then 1 else 0) := by
                  by_cases h : k0 < k
                  · rw [if_pos (by omega), if_pos h]
                  · rw [if_neg (by omega), if_neg h]
                have E2 := Lib.hid e2
                obtain ⟨cn, hcn⟩ : ∃ cn, cn = (if k0 < k then (1 : Int) else 0) := ⟨_, rfl⟩
                rw [← hcn] at E2 ⊢
                have hw : ((R k).dev == (F i).dev) = false ∨ (((R k).dev == (F i).dev) = true ∧ ((R k).seq == (F i).seq) = false) := by
                  simp only [sameN, Bool.and_eq_false_iff, decide_eq_false_iff_not] at hne
                  by_cases h : (R k).dev = (F i).dev
                  · right
                    refine ⟨by simp [h], ?_⟩
                    rcases hne with h2 | h2
                    · exact absurd h h2
                    · simp [h2]
                  · left; simp [h]
                clear hne KS KL KU e2 hcn hkk
                generalize R k = x at *
                generalize F i = y at *
                obtain ⟨x1, x2, x3, x4, x5, x6, x7, x8, x9⟩ := x
                obtain ⟨y1, y2, y3, y4, y5, y6, y7, y8, y9⟩ := y
                dsimp only at hw
                (have a0 := (A0).c0; have a1 := (A0).c1; have a2 := (A0).c2; have a3 := (A0).c3; have a4 := (A0).c4; have a5 := (A0).c5; have a6 := (A0).c6; have a7 := (A0).c7; have a8 := (A0).c8); (try dsimp only at a0 a1 a2 a3 a4 a5 a6 a7 a8)
                (have d0 := (A1).c0; have d1 := (A1).c1; have d2 := (A1).c2; have d3 := (A1).c3; have d4 := (A1).c4; have d5 := (A1).c5; have d6 := (A1).c6; have d7 := (A1).c7; have d8 := (A1).c8); (try dsimp only at d0 d1 d2 d3 d4 d5 d6 d7 d8)
                clear A0 A1
                rcases hw with t1 | ⟨t1, t2⟩
                all_goals
                  go_wp2_with fail
                  (focus (refine region_all (fun i : Nat => World.drewN _ i) mixed (by kernel_rfl) ⟨1, rfl⟩ ?_; (repeat (any_goals (first | go_big_quiet_step (fail) | quiet_step (fail) | (refine wpQuiet_step (fun K hK => ?_); go_simp; split <;> (refine hK _ ?_; clear hK K))))); (all_goals (refine wpQuiet_nil (fun nq => ?_)))))
                  obtain ⟨w5, hw5⟩ : ∃ w5, w5 = wr.drewN nq := ⟨_, rfl⟩
                  rw [← hw5]
                  have B5 : Hid (Below w1.heap.size w1 w5) := Lib.hid (by have := HC.out; rw [hw5]; (have hszz := (this).size; (repeat' (first | (with_reducible exact Below.refl _ _) | (with_reducible assumption) | (with_reducible refine Below.drew ?_) | (with_reducible refine below_drewN ?_ _) | (with_reducible refine Below.alloc ?_ ?_ _) | (with_reducible refine Below.setCell ?_ ?_ _) | go_size))))
                  clear hw5 a0 a1 a2 a3 a4 a5 a6 a7 a8 d0 d1 d2 d3 d4 d5 d6 d7 d8 zg zg'
                  go_wp2_with fail
                  go_roundw
                  case rel => exact ⟨k + 1, by go_num, by omega, by rw [E2.out], B5⟩
                  case measure => simp [intOf]; omega
            · have tk : (m : Int) ≤ (k : Int) := by omega
              have e1 : (if k0 < k then (1 : Int) else 0) = 1 := if_pos (by omega)
              rw [e1]
              clear e1 KS KL KU
              go_wp2_with fail
              go_roundw
              case rel => exact ⟨i + 1, by go_num, by omega, HC⟩
              case measure => simp [intOf]; omega
        · have ti : (n : Int) ≤ (i : Int) := by omega
          clear ONE hlt
          go_wp2_with fail
          go_loopw [8] (fun s8 wr => ∃ k : Nat, s8 = .int .i64 k ∧ k ≤ m ∧ Hid (Below w1.heap.size w1 wr)) (fun s8 _ => m - (intOf s8).toNat)
          case atStart => exact ⟨0, rfl, by omega, HB⟩
          case round =>
            clear HB ti hi
            obtain ⟨k, rfl, hk, hrel⟩ := hrel
            have HB := hrel
            clear hrel
            by_cases hlk : k < m
            · have tk : (k : Int) < (m : Int) := by omega
              have FN := Lib.hid (fndB_of (ALL.out k hlk))
              have EQ := Lib.hid (fun (i : Nat) w' => (eqEv (F i) (R k) w').1)
              obtain ⟨x, hx⟩ : ∃ x, x = R k := ⟨_, rfl⟩
              rw [← hx] at FN EQ
              have HX := Lib.hid hx
              clear hx
              go_wp2_with fail
              go_loopw [9, 10] (fun s9 s10 wi => ∃ i : Nat, s10 = .int .i64 i ∧ i ≤ n ∧ s9 = .bool (fndB F x i) ∧ Hid (Below w1.heap.size w1 wi)) (fun _ s10 _ => n - (intOf s10).toNat)
              case atStart => exact ⟨0, rfl, by omega, rfl, HB⟩
              case round =>
                clear HB
                obtain ⟨i, rfl, hi, rfl, hrel⟩ := hrel
                have HC := hrel
                clear hrel
                by_cases hlt : i < n
                · have ti : (i : Int) < (n : Int) := by omega
                  have hst : fndB F x (i + 1) = (fndB F x i || decide (F i = x)) := rfl
                  have HST := Lib.hid hst
                  obtain ⟨b, hb⟩ : ∃ b, b = fndB F x i := ⟨_, rfl⟩
                  rw [← hb] at HST ⊢
                  clear hst hb
                  obtain ⟨g, o, rfl, hg, A0⟩ := evs_at (S1.out.below HC.out) hlk
                  obtain ⟨g', o', rfl, hg', A1⟩ := evs_at (H1.out.below HC.out) hlt
                  have zg := szs hg
                  have zg' := szs hg'
                  rw [← HX.out] at A0
                  have EQ' := EQ.out i
                  obtain ⟨r, hr⟩ : ∃ r, r = decide (F i = x) := ⟨_, rfl⟩
                  rw [← hr] at HST EQ'
                  clear hr
                  obtain ⟨y, hy⟩ : ∃ y, y = F i := ⟨_, rfl⟩
                  rw [← hy] at A1 EQ'
                  clear hy EQ FN HX
                  unfold eC at EQ'
                  obtain ⟨x1, x2, x3, x4, x5, x6, x7, x8, x9⟩ := x
                  obtain ⟨y1, y2, y3, y4, y5, y6, y7, y8, y9⟩ := y
                  dsimp only at EQ'
                  (have a0 := (A0).c0; have a1 := (A0).c1; have a2 := (A0).c2; have a3 := (A0).c3; have a4 := (A0).c4; have a5 := (A0).c5; have a6 := (A0).c6; have a7 := (A0).c7; have a8 := (A0).c8); (try dsimp only at a0 a1 a2 a3 a4 a5 a6 a7 a8)
                  (have d0 := (A1).c0; have d1 := (A1).c1; have d2 := (A1).c2; have d3 := (A1).c3; have d4 := (A1).c4; have d5 := (A1).c5; have d6 := (A1).c6; have d7 := (A1).c7; have d8 := (A1).c8); (try dsimp only at d0 d1 d2 d3 d4 d5 d6 d7 d8)
                  clear A0 A1
                  cases b
                  all_goals
                    go_wp2_with fail
                    (focus (refine region_all (fun i : Nat => World.drewN _ i) mixed (by kernel_rfl) ⟨1, rfl⟩ ?_; (repeat (any_goals (first | go_big_quiet_step (fail) | quiet_step (fail) | (refine wpQuiet_step (fun K hK => ?_); go_simp; split <;> (refine hK _ ?_; clear hK K))))); (all_goals (refine wpQuiet_nil (fun nq => ?_)))))
                    obtain ⟨w5, hw5⟩ : ∃ w5, w5 = wr.drewN nq := ⟨_, rfl⟩
                    rw [← hw5]
                    have B5 : Hid (Below w1.heap.size w1 w5) := Lib.hid (by have := HC.out; rw [hw5]; (have hszz := (this).size; (repeat' (first | (with_reducible exact Below.refl _ _) | (with_reducible assumption) | (with_reducible refine Below.drew ?_) | (with_reducible refine below_drewN ?_ _) | (with_reducible refine Below.alloc ?_ ?_ _) | (with_reducible refine Below.setCell ?_ ?_ _) | go_size))))
                    clear hw5 a0 a1 a2 a3 a4 a5 a6 a7 a8 d0 d1 d2 d3 d4 d5 d6 d7 d8 zg zg' EQ'
                    go_wp2_with fail
                    go_roundw
                    case rel => exact ⟨i + 1, by go_num, by omega, by rw [HST.out]; try rfl, B5⟩
                    case measure => simp [intOf]; omega
                · obtain rfl : i = n := by omega
                  rw [FN.out]
                  clear EQ
                  go_wp2_with fail
                  go_roundw
                  case rel => exact ⟨k + 1, by go_num, by omega, HC⟩
                  case measure => simp [intOf]; omega
            · have tk : (m : Int) ≤ (k : Int) := by omega
              clear ALL hlk
              go_wp2_with fail
              refine (AW.out _).mono ?_
              rintro e w9 ⟨rfl, hb⟩
              have B9 := Lib.hid (HB.out.trans (hb.mono HB.out.size))
              clear hb
              go_wp2_with fail
              go_returns
              exact ⟨rfl, B1.out.trans (B9.out.mono B1.out.size)⟩
end Go.Proofs.Ytmhnkfcbbjbpfaa
