/- The law DriftEnds walked. -/
import Derived.Test.YtbgnmhphbjkfcaaM
import Derived.Test.YtbgnmhphbjkfcaaK4
import Derived.BigRegion
import Derived.Deep.RegionWith
import Derived.WalkSpells
namespace Go.Proofs.Ytbgnmhphbjkfcaa
open Go.RowKit Go.ChangeShapes Go.WideShapes Go.Deep
set_option linter.unusedVariables false
set_option linter.unusedSimpArgs false

/-- Whether the lower (the upper) end is 0 (MaxTime) or an end of one of the first k synchronizations. -/
def lowB (L : Nat → Sy) (p t lo : Int) : Nat → Bool
  | 0 => lo == 0
  | k + 1 => lowB L p t lo k || lo == alLo (L k) p t
def highB (L : Nat → Sy) (p t hi : Int) : Nat → Bool
  | 0 => hi == 4294943999
  | k + 1 => highB L p t hi k || hi == alHi (L k) p t
theorem bLo_ge (L : Nat → Sy) (p t : Int) : ∀ n i, i < n → alLo (L i) p t ≤ bLo L p t n
  | 0, i, hi => absurd hi (by omega)
  | n + 1, i, hi => by
    rw [bLo_succ]
    rcases Nat.lt_succ_iff_lt_or_eq.1 hi with h | h
    · have := bLo_ge L p t n i h; omega
    · subst h; omega
theorem bHi_le (L : Nat → Sy) (p t : Int) : ∀ n i, i < n → bHi L p t n ≤ alHi (L i) p t
  | 0, i, hi => absurd hi (by omega)
  | n + 1, i, hi => by
    rw [bHi_succ]
    rcases Nat.lt_succ_iff_lt_or_eq.1 hi with h | h
    · have := bHi_le L p t n i h; omega
    · subst h; omega
theorem bLo_zero (L : Nat → Sy) (p t : Int) : ∀ n, 0 ≤ bLo L p t n
  | 0 => by simp [bLo]
  | n + 1 => by rw [bLo_succ]; have := bLo_zero L p t n; omega
theorem bHi_max (L : Nat → Sy) (p t : Int) : ∀ n, bHi L p t n ≤ 4294943999
  | 0 => by simp [bHi]
  | n + 1 => by rw [bHi_succ]; have := bHi_max L p t n; omega
theorem lowB_mono {L : Nat → Sy} {p t lo : Int} {k : Nat} (h : lowB L p t lo k = true) : ∀ n, k ≤ n → lowB L p t lo n = true
  | 0, hn => by obtain rfl : k = 0 := by omega
                exact h
  | n + 1, hn => by
    rcases Nat.lt_or_ge k (n + 1) with h' | h'
    · simp only [lowB, lowB_mono h n (by omega), Bool.true_or]
    · obtain rfl : k = n + 1 := by omega
      exact h
theorem lowB_all (L : Nat → Sy) (p t : Int) : ∀ n, lowB L p t (bLo L p t n) n = true
  | 0 => by simp [lowB, bLo]
  | n + 1 => by
    rw [bLo_succ]
    by_cases h : alLo (L n) p t ≤ bLo L p t n
    · rw [show max (bLo L p t n) (alLo (L n) p t) = bLo L p t n by omega]
      simp only [lowB, lowB_all L p t n, Bool.true_or]
    · rw [show max (bLo L p t n) (alLo (L n) p t) = alLo (L n) p t by omega]
      simp [lowB]
theorem highB_all (L : Nat → Sy) (p t : Int) : ∀ n, highB L p t (bHi L p t n) n = true
  | 0 => by simp [highB, bHi]
  | n + 1 => by
    rw [bHi_succ]
    by_cases h : bHi L p t n ≤ alHi (L n) p t
    · rw [show min (bHi L p t n) (alHi (L n) p t) = bHi L p t n by omega]
      simp only [highB, highB_all L p t n, Bool.true_or]
    · rw [show min (bHi L p t n) (alHi (L n) p t) = alHi (L n) p t by omega]
      simp [highB]

/-- The cell is kept, with a block laid ahead of the call or without. -/
theorem kept_in {w W w1 : World} (hb : Below W.heap.size W w1) {a : Addr} {v : Value} (h : w.cell? a = some v) (hW : Below w.heap.size w W := by first | exact (Below.refl _ _).drew | exact (Below.refl _ _).drew.alloc (Nat.le_refl _) _ | exact ((Below.refl _ _).alloc (Nat.le_refl _) _).drew) : w1.cell? a = some v := cell_kept hb (cell_kept hW h)

set_option maxRecDepth 100000 in
set_option maxHeartbeats 1000000 in
theorem run_driftEnds {H : Type} {enc : TypeId × Value → H} (W : World) (base : Nat) (v0 : Value) (d0 : DataW H) (p0 : List MemPlace) (hv0 : Value.okWide Try.prog W .any base 29 v0) (h0 : DataW.Trod enc Try.prog W 0 (fun _ => true) true 29 v0 d0 p0)
    (v1 : Value) (d1 : DataW H) (p1 : List MemPlace) (hv1 : Value.okWide Try.prog W .any base 3 v1) (h1 : DataW.Trod enc Try.prog W 0 (fun _ => true) true 3 v1 d1 p1)
    (v2 : Value) (d2 : DataW H) (p2 : List MemPlace) (hv2 : Value.okWide Try.prog W .any base 3 v2) (h2 : DataW.Trod enc Try.prog W 0 (fun _ => true) true 3 v2 d2 p2) :
    Calls Try.prog 9 #[v0, v1, v2] W fun e w' => e = .returned (.bool true) ∧ Below W.heap.size W w' := by
  obtain ⟨a, len, cap, L, rfl, hl, hm, hS, _⟩ := open_sync hv0 h0
  obtain ⟨p, rfl, rfl, rfl, _⟩ := open_int Try.underlying3 hv1 h1
  obtain ⟨t, rfl, rfl, rfl, _⟩ := open_int Try.underlying3 hv2 h2
  clear hv0 hv1 h0 h1 hv2 h2
  have C16 := Lib.hid (check16 a len cap L W hl hm hS)
  by_cases hc : checkE len L = 0
  rotate_left
  · generalize checkE len L = q at *
    have hq : (q == 0) = false := by simpa using hc
    have hq2 : (q != 0) = true := by simpa using hc
    clear hc hS
    go_enter Try.func9, Try.ntmps9
    go_wp2_with (first | (go_at_call 16; refine C16.out.mono ?_; rintro e w2 ⟨rfl, hb2⟩) | (go_at_call 12; refine (awake12 _).mono ?_; rintro e w5 ⟨rfl, hb5⟩))
    go_returns
    exact ⟨rfl, hb2.trans (hb5.mono hb2.size)⟩
  have CC := C16.out
  rw [hc] at CC
  have C0 := Lib.hid CC
  clear C16 CC
  by_cases hin : 0 ≤ p ∧ p ≤ 100000 ∧ isMom t = true
  rotate_left
  · have g : p < 0 ∨ (¬ p < 0 ∧ 100000 < p) ∨ (¬ p < 0 ∧ ¬ 100000 < p ∧ isMom t = false) := by
      cases h1 : isMom t <;> simp [h1] at hin ⊢ <;> omega
    clear hin hS hc
    rcases g with g1 | ⟨g1, g2⟩ | ⟨g1, g2, g3⟩
    all_goals
      go_enter Try.func9, Try.ntmps9
      go_wp2_with (first | (go_at_call 16; refine C0.out.mono ?_; rintro e w2 ⟨rfl, hb2⟩) | (go_at_call 17; refine (moment17 _ _).mono ?_; rintro e w' ⟨rfl, rfl⟩) | (go_at_call 12; refine (awake12 _).mono ?_; rintro e w5 ⟨rfl, hb5⟩))
      go_returns
      exact ⟨rfl, hb2.trans (hb5.mono hb2.size)⟩
  obtain ⟨q0, q1, g1⟩ := hin
  obtain ⟨t0, t1⟩ := isMom_iff.1 g1
  obtain ⟨n0, n1, hok, hord⟩ := check_okS hc
  have k2 : decide (p < 0) = false := by simp; omega
  have k3 : decide (100000 < p) = false := by simp; omega
  have B1 := fun w h => bounds13 a len cap L p t w hl hm h
  by_cases hx : bHi L p t len < bLo L p t len
  · rw [boundsV_none hc (isRate_iff.2 ⟨q0, q1⟩) g1 rfl rfl hx] at B1
    have HB := Lib.hid B1
    have HS := Lib.hid hS
    clear hS hc hok hord hx B1
    go_enter Try.func9, Try.ntmps9
    go_wp2_with (first | (go_at_call 16; refine C0.out.mono ?_; rintro e w2 ⟨rfl, hb2⟩) | (go_at_call 17; refine (moment17 _ _).mono ?_; rintro e w' ⟨rfl, rfl⟩) | (go_at_call 13; refine (HB.out _ (HS.out.kept hb2)).mono ?_; rintro e w3 ⟨rfl, hb3⟩) | (go_at_call 12; refine (awake12 _).mono ?_; rintro e w5 ⟨rfl, hb5⟩))
    go_returns
    have hb4 := hb2.trans (hb3.mono hb2.size)
    exact ⟨rfl, (hb4.alloc hb4.size _).trans (hb5.mono (by have := hb4.size; go_size))⟩
  rw [boundsV_ok hc (isRate_iff.2 ⟨q0, q1⟩) g1 rfl rfl hx] at B1
  have hlo := bLo_ge L p t len
  have hhi := bHi_le L p t len
  have l0 := bLo_zero L p t len
  have l1 := bHi_max L p t len
  have hLA := lowB_all L p t len
  have hHA := highB_all L p t len
  generalize bLo L p t len = lo at *
  generalize bHi L p t len = hi at *
  have HB := Lib.hid B1
  obtain ⟨b, off, rfl, hcc⟩ := hS.all (by omega)
  have HS := Lib.hid hcc
  have HS0 := Lib.hid hS
  have HO := Lib.hid hok
  have HLO := Lib.hid hlo
  have HHI := Lib.hid hhi
  have HLA := Lib.hid hLA
  have HHA := Lib.hid hHA
  clear hS hc hok hord B1 hcc hlo hhi hLA hHA
  go_enter Try.func9, Try.ntmps9
  go_wp2_with (first | (go_at_call 16; refine C0.out.mono ?_; rintro e w2 ⟨rfl, hb2⟩) | (go_at_call 17; refine (moment17 _ _).mono ?_; rintro e w' ⟨rfl, rfl⟩) | (go_at_call 13; refine (HB.out _ (HS0.out.kept hb2)).mono ?_; rintro e w3 ⟨rfl, hb3⟩))
  have hb4 := hb2.trans (hb3.mono hb2.size)
  go_region
  go_wp2_with fail
  go_loopw [9, 10, 11] (fun s9 s10 c wr => ∃ k : Nat, k ≤ len ∧ c = .int .i64 k ∧ s9 = .bool (lowB L p t lo k) ∧ s10 = .bool (highB L p t hi k) ∧ Below W.heap.size W wr ∧ (wr.cell? ⟨w3.heap.size, 0, none⟩ = some (.int .i64 lo) ∧ wr.cell? ⟨w3.heap.size, 1, none⟩ = some (.int .i64 hi))) (fun _ _ c _ => len - (intOf c).toNat)
  case atStart =>
    exact ⟨0, Nat.zero_le _, rfl, rfl, rfl, Below.drew (hb4.alloc hb4.size _), by simp [go_sem], by simp [go_sem]⟩
  case round =>
    obtain ⟨k, hk, rfl, rfl, rfl, hbel, x0, x1⟩ := hrel
    clear hb2 hb3 hb4
    by_cases hlt : k < len
    · obtain ⟨d0, d1, d2⟩ := HS.out k hlt
      have e0 := cell_kept hbel d0
      have e1 := cell_kept hbel d1
      have e2 := cell_kept hbel d2
      have zx := szs (cell_lt x0)
      have zb := szs (cell_lt e0)
      dsimp only at zx zb
      have j0 : (k : Int) < (len : Int) := by omega
      obtain ⟨⟨o1, o2⟩, o3, o4, o5⟩ := HO.out k hlt
      have m0 := HLO.out k hlt
      have m1 := HHI.out k hlt
      have eL : Hid (lowB L p t lo (k + 1) = (lowB L p t lo k || lo == alLo (L k) p t)) := rfl
      have eH : Hid (highB L p t hi (k + 1) = (highB L p t hi k || hi == alHi (L k) p t)) := rfl
      clear d0 d1 d2
      by_cases hx : (L k).loc ≤ t
      ·
        have bd := el_bd (t - (L k).loc) p (by omega) (by omega) q0 q1
        have C := fun w => elapsed10 (t - (L k).loc) p w
        rw [elapsedV, if_pos ⟨isMom_iff.2 ⟨by omega, by omega⟩, isRate_iff.2 ⟨q0, q1⟩⟩] at C
        rw [alLo, if_pos hx] at m0 eL
        rw [alHi, if_pos hx] at m1 eH
        have hmx2 : (if t - (L k).loc < (L k).loc - t then (L k).loc - t else t - (L k).loc) = t - (L k).loc := by omega
        generalize elLo (t - (L k).loc) p = el at *
        generalize elHi (t - (L k).loc) p = eh at *
        generalize lowB L p t lo k = bl at *
        generalize highB L p t hi k = bh at *
        have HC := Lib.hid C
        have HM := Lib.hid hmx2
        clear C hmx2
        cases bl <;> cases bh
        all_goals
          go_wp2_with fail
          obtain ⟨ι, hne, F, fb, hF⟩ := grow_family wr
          have f0 := fun i => cell_kept (fb i) e0
          refine region_chain (gPlan wr (fun _ => .tuple #[.agg #[.int .i64 el, .int .i64 eh], .int .i64 0]) [16] [(20, fun b => .pointer (some ⟨b, 0, none⟩), .cells #[.int .i64 0, .int .i64 0] 23)] [(21, 20)]) () [] [0, 1, 2, 3, 4, 5, 6, 7, 8, 9, 10, 11, 12, 13, 14, 15, 20, 16, 17, 18, 19, 21, 22] [] mixed (by kernel_rfl) (by kernel_rfl) (gPlan_ok (by simp) (by simp)) (gPlan_start _ _ _ _ _) ?_
          refine wpPure_nil ?_
          simp only [List.map_cons, List.map_nil, Array.getD_eq_getD_getElem?, List.getElem?_toArray, List.getElem?_cons_zero, List.getElem?_cons_succ, Option.getD_some]
          repeat (refine wpChain_quiet hF rfl rfl rfl ?_; intro K hK; go_big_quiet_op; go_big_quiet_on)
          refine wpChain_pure _ rfl rfl (fun w' _ => by go_simp; rfl) ?_
          simp only [Act.put, List.setIfInBounds_toArray, List.set_cons_succ, List.set_cons_zero, HM.out]
          repeat (refine wpChain_quiet hF rfl rfl rfl ?_; intro K hK; go_big_quiet_op; go_big_quiet_on)
          refine wpChain_alloc _ _ rfl (List.mem_singleton.2 rfl) rfl (fun w' => by go_simp) (fun bx hbx => ?_)
          simp only [Act.put, List.setIfInBounds_toArray, List.set_cons_succ, List.set_cons_zero]
          refine wpChain_gcall 10 #[.int .i64 (t - (L k).loc), .int .i64 p] rfl rfl (fun w' => by go_simp) (fun w' _ => HC.out w') ?_
          simp only [Act.put, List.setIfInBounds_toArray, List.set_cons_succ, List.set_cons_zero]
          repeat (refine wpChain_quiet hF rfl rfl rfl ?_; intro K hK; go_big_quiet_op; go_big_quiet_on)
          refine wpChain_store 20 bx _ (.cells #[.int .i64 el, .int .i64 eh] 23) rfl (List.mem_singleton.2 rfl) (List.mem_singleton.2 rfl) (fun x hx _ => List.mem_singleton.1 hx) rfl (fun w' hw' => by have c0 := cell_at hw' 0; have c1 := cell_at hw' 1; have g0 := free_at hw'; have hlt := block_lt hw'; go_simp; rw [setCell_at hw', setAt_setCell hlt]; rfl) ?_
          simp only [Act.put, List.setIfInBounds_toArray, List.set_cons_succ, List.set_cons_zero]
          repeat (refine wpChain_quiet hF rfl rfl rfl ?_; intro K hK; go_big_quiet_op; go_big_quiet_on)
          refine wpChain_nil (fun w4 hb4 hl4 => ?_)
          have hx4 : w4.heap[bx]? = some (.cells #[.int .i64 el, .int .i64 eh] 23) := (hl4.2 (20, bx, .cells #[.int .i64 el, .int .i64 eh] 23) (by simp [setB])).2
          have y0 : w4.cell? ⟨bx, 0, none⟩ = some (.int .i64 el) := cell_at hx4 0
          have y1 : w4.cell? ⟨bx, 1, none⟩ = some (.int .i64 eh) := cell_at hx4 1
          have e0' := cell_kept hb4 e0
          have e1' := cell_kept hb4 e1
          have e2' := cell_kept hb4 e2
          have x0' := cell_kept hb4 x0
          have x1' := cell_kept hb4 x1
          have hB4 : Hid (Below W.heap.size W w4) := hbel.trans (Below.mono hb4 hbel.size)
          clear hx4 hl4 hb4 hbel hF fb f0 e0 e1 e2 x0 x1
          refine onlyN_intro ?_
          go_wp2_with fail
          (refine region_all (fun i : Nat => World.drewN _ i) mixed (by kernel_rfl) ⟨1, rfl⟩ ?_; (repeat (any_goals (first | go_big_quiet_step (fail) | quiet_step (fail) | (refine wpQuiet_step (fun K hK => ?_); go_simp; split <;> (refine hK _ ?_; clear hK K))))); (all_goals (refine wpQuiet_nil (fun nq => ?_))))
          go_wp2_with fail
          (refine region_all (fun i : Nat => World.drewN _ i) mixed (by kernel_rfl) ⟨1, rfl⟩ ?_; (repeat (any_goals (first | go_big_quiet_step (fail) | quiet_step (fail) | (refine wpQuiet_step (fun K hK => ?_); go_simp; split <;> (refine hK _ ?_; clear hK K))))); (all_goals (refine wpQuiet_nil (fun nq => ?_))))
          go_wp2_with fail
          go_roundw
          case rel =>
            refine ⟨k + 1, by omega, by go_num, ?_, ?_, ?_, ?_, ?_⟩
            · rw [eL.out]; simp
            · rw [eH.out]; simp
            · have hB5 := hB4.out
              (have hszz := (hB5).size; (repeat' (first | (with_reducible exact Below.refl _ _) | (with_reducible assumption) | (with_reducible refine Below.drew ?_) | (with_reducible refine below_drewN ?_ _) | (with_reducible refine Below.alloc ?_ ?_ _) | (with_reducible refine Below.setCell ?_ ?_ _) | go_size)))
            · simp [go_sem, x0']
            · simp [go_sem, x1']
          case measure => simp [intOf]; omega
      ·
        have bd := el_bd ((L k).loc - t) p (by omega) (by omega) q0 q1
        have C := fun w => elapsed10 ((L k).loc - t) p w
        rw [elapsedV, if_pos ⟨isMom_iff.2 ⟨by omega, by omega⟩, isRate_iff.2 ⟨q0, q1⟩⟩] at C
        rw [alLo, if_neg hx] at m0 eL
        rw [alHi, if_neg hx] at m1 eH
        have hmx2 : (if t - (L k).loc < (L k).loc - t then (L k).loc - t else t - (L k).loc) = (L k).loc - t := by omega
        generalize elLo ((L k).loc - t) p = el at *
        generalize elHi ((L k).loc - t) p = eh at *
        generalize lowB L p t lo k = bl at *
        generalize highB L p t hi k = bh at *
        have HC := Lib.hid C
        have HM := Lib.hid hmx2
        clear C hmx2
        cases bl <;> cases bh
        all_goals
          go_wp2_with fail
          obtain ⟨ι, hne, F, fb, hF⟩ := grow_family wr
          have f0 := fun i => cell_kept (fb i) e0
          refine region_chain (gPlan wr (fun _ => .tuple #[.agg #[.int .i64 el, .int .i64 eh], .int .i64 0]) [16] [(20, fun b => .pointer (some ⟨b, 0, none⟩), .cells #[.int .i64 0, .int .i64 0] 23)] [(21, 20)]) () [] [0, 1, 2, 3, 4, 5, 6, 7, 8, 9, 10, 11, 12, 13, 14, 15, 20, 16, 17, 18, 19, 21, 22] [] mixed (by kernel_rfl) (by kernel_rfl) (gPlan_ok (by simp) (by simp)) (gPlan_start _ _ _ _ _) ?_
          refine wpPure_nil ?_
          simp only [List.map_cons, List.map_nil, Array.getD_eq_getD_getElem?, List.getElem?_toArray, List.getElem?_cons_zero, List.getElem?_cons_succ, Option.getD_some]
          repeat (refine wpChain_quiet hF rfl rfl rfl ?_; intro K hK; go_big_quiet_op; go_big_quiet_on)
          refine wpChain_pure _ rfl rfl (fun w' _ => by go_simp; rfl) ?_
          simp only [Act.put, List.setIfInBounds_toArray, List.set_cons_succ, List.set_cons_zero, HM.out]
          repeat (refine wpChain_quiet hF rfl rfl rfl ?_; intro K hK; go_big_quiet_op; go_big_quiet_on)
          refine wpChain_alloc _ _ rfl (List.mem_singleton.2 rfl) rfl (fun w' => by go_simp) (fun bx hbx => ?_)
          simp only [Act.put, List.setIfInBounds_toArray, List.set_cons_succ, List.set_cons_zero]
          refine wpChain_gcall 10 #[.int .i64 ((L k).loc - t), .int .i64 p] rfl rfl (fun w' => by go_simp) (fun w' _ => HC.out w') ?_
          simp only [Act.put, List.setIfInBounds_toArray, List.set_cons_succ, List.set_cons_zero]
          repeat (refine wpChain_quiet hF rfl rfl rfl ?_; intro K hK; go_big_quiet_op; go_big_quiet_on)
          refine wpChain_store 20 bx _ (.cells #[.int .i64 el, .int .i64 eh] 23) rfl (List.mem_singleton.2 rfl) (List.mem_singleton.2 rfl) (fun x hx _ => List.mem_singleton.1 hx) rfl (fun w' hw' => by have c0 := cell_at hw' 0; have c1 := cell_at hw' 1; have g0 := free_at hw'; have hlt := block_lt hw'; go_simp; rw [setCell_at hw', setAt_setCell hlt]; rfl) ?_
          simp only [Act.put, List.setIfInBounds_toArray, List.set_cons_succ, List.set_cons_zero]
          repeat (refine wpChain_quiet hF rfl rfl rfl ?_; intro K hK; go_big_quiet_op; go_big_quiet_on)
          refine wpChain_nil (fun w4 hb4 hl4 => ?_)
          have hx4 : w4.heap[bx]? = some (.cells #[.int .i64 el, .int .i64 eh] 23) := (hl4.2 (20, bx, .cells #[.int .i64 el, .int .i64 eh] 23) (by simp [setB])).2
          have y0 : w4.cell? ⟨bx, 0, none⟩ = some (.int .i64 el) := cell_at hx4 0
          have y1 : w4.cell? ⟨bx, 1, none⟩ = some (.int .i64 eh) := cell_at hx4 1
          have e0' := cell_kept hb4 e0
          have e1' := cell_kept hb4 e1
          have e2' := cell_kept hb4 e2
          have x0' := cell_kept hb4 x0
          have x1' := cell_kept hb4 x1
          have hB4 : Hid (Below W.heap.size W w4) := hbel.trans (Below.mono hb4 hbel.size)
          clear hx4 hl4 hb4 hbel hF fb f0 e0 e1 e2 x0 x1
          refine onlyN_intro ?_
          go_wp2_with fail
          (refine region_all (fun i : Nat => World.drewN _ i) mixed (by kernel_rfl) ⟨1, rfl⟩ ?_; (repeat (any_goals (first | go_big_quiet_step (fail) | quiet_step (fail) | (refine wpQuiet_step (fun K hK => ?_); go_simp; split <;> (refine hK _ ?_; clear hK K))))); (all_goals (refine wpQuiet_nil (fun nq => ?_))))
          go_wp2_with fail
          (refine region_all (fun i : Nat => World.drewN _ i) mixed (by kernel_rfl) ⟨1, rfl⟩ ?_; (repeat (any_goals (first | go_big_quiet_step (fail) | quiet_step (fail) | (refine wpQuiet_step (fun K hK => ?_); go_simp; split <;> (refine hK _ ?_; clear hK K))))); (all_goals (refine wpQuiet_nil (fun nq => ?_))))
          go_wp2_with fail
          (refine region_all (fun i : Nat => World.drewN _ i) mixed (by kernel_rfl) ⟨1, rfl⟩ ?_; (repeat (any_goals (first | go_big_quiet_step (fail) | quiet_step (fail) | (refine wpQuiet_step (fun K hK => ?_); go_simp; split <;> (refine hK _ ?_; clear hK K))))); (all_goals (refine wpQuiet_nil (fun nq => ?_))))
          go_wp2_with fail
          go_roundw
          case rel =>
            refine ⟨k + 1, by omega, by go_num, ?_, ?_, ?_, ?_, ?_⟩
            · rw [eL.out]; simp
            · rw [eH.out]; simp
            · have hB5 := hB4.out
              (have hszz := (hB5).size; (repeat' (first | (with_reducible exact Below.refl _ _) | (with_reducible assumption) | (with_reducible refine Below.drew ?_) | (with_reducible refine below_drewN ?_ _) | (with_reducible refine Below.alloc ?_ ?_ _) | (with_reducible refine Below.setCell ?_ ?_ _) | go_size)))
            · simp [go_sem, x0']
            · simp [go_sem, x1']
          case measure => simp [intOf]; omega
    · obtain rfl : k = len := by omega
      have eLA := HLA.out
      have eHA := HHA.out
      rw [eLA, eHA]
      go_wp2_with (go_at_call 12; refine (awake12 _).mono ?_; rintro e w5 ⟨rfl, hb5⟩)
      go_returns
      exact ⟨by simp [l0, l1], hbel.trans (hb5.mono hbel.size)⟩
end Go.Proofs.Ytbgnmhphbjkfcaa
