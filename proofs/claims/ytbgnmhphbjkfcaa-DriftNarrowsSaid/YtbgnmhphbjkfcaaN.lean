/- The law DriftShifts walked. -/
import Derived.Test.YtbgnmhphbjkfcaaM
import Derived.Test.YtbgnmhphbjkfcaaK2
namespace Go.Proofs.Ytbgnmhphbjkfcaa
open Go.RowKit Go.ChangeShapes Go.WideShapes Go.Deep
set_option linter.unusedVariables false
set_option linter.unusedSimpArgs false

theorem grown_drewN (w : World) (n : Nat) (row : Option Nat) : w.grownBy (w.drewN n) row := ⟨rfl, rfl, rfl, Nat.le_refl _, fun _ _ _ => rfl⟩
theorem own_free (v : Value) : v.ownBlock = none ∨ v.ownBlock ≠ none := by cases v.ownBlock <;> simp
/-- The synchronization, its true moments later by some seconds. -/
def later (L : Nat → Sy) (by_ : Int) (i : Nat) : Sy := ⟨(L i).loc, (L i).frm + by_, (L i).til + by_⟩
def fits (L : Nat → Sy) (p t by_ : Int) (i : Nat) : Prop := 0 ≤ alLo (L i) p t ∧ alHi (L i) p t + by_ ≤ 4294943999 ∧ (L i).til + by_ ≤ 4294943999
theorem later_check {len : Nat} {L : Nat → Sy} {by_ : Int} (hb : 0 ≤ by_) (h : checkE len L = 0) (hf : ∀ i, i < len → (L i).til + by_ ≤ 4294943999) : checkE len (later L by_) = 0 := by
  obtain ⟨h0, h1, h2, h3⟩ := check_okS h
  refine checkE_ok (by omega) (by omega) (fun i hi => ?_) (fun i hi => h3 i hi)
  rw [badS_no]
  obtain ⟨⟨a, b⟩, c, d, e⟩ := h2 i hi
  have := hf i hi
  exact ⟨⟨a, b⟩, by dsimp only [later]; omega, by dsimp only [later]; omega, by dsimp only [later]; omega⟩
theorem later_lo (L : Nat → Sy) (p t by_ : Int) (i : Nat) : alLo (later L by_ i) p t = alLo (L i) p t + by_ := by
  unfold alLo later; dsimp only; split <;> omega
theorem later_hi (L : Nat → Sy) (p t by_ : Int) (i : Nat) : alHi (later L by_ i) p t = alHi (L i) p t + by_ := by
  unfold alHi later; dsimp only; split <;> omega
theorem later_bd {L : Nat → Sy} {p t by_ : Int} (hb : 0 ≤ by_) : ∀ n, (∀ i, i < n + 1 → fits L p t by_ i) → bLo (later L by_) p t (n + 1) = bLo L p t (n + 1) + by_ ∧ bHi (later L by_) p t (n + 1) = bHi L p t (n + 1) + by_ ∧ 0 ≤ bLo L p t (n + 1) ∧ bHi L p t (n + 1) + by_ ≤ 4294943999
  | 0, h => by
    obtain ⟨h1, h2, h3⟩ := h 0 (by omega)
    rw [bLo_succ, bHi_succ, bLo_succ, bHi_succ, later_lo, later_hi]
    simp only [bLo, bHi]
    omega
  | n + 1, h => by
    obtain ⟨h1, h2, h3⟩ := h (n + 1) (by omega)
    obtain ⟨k1, k2, k3, k4⟩ := later_bd hb n (fun i hi => h i (by omega))
    rw [bLo_succ (later L by_), bHi_succ (later L by_), bLo_succ L _ _ (n + 1), bHi_succ L _ _ (n + 1), later_lo, later_hi, k1, k2]
    omega

set_option maxRecDepth 100000 in
set_option maxHeartbeats 4000000 in
theorem run_driftShifts {H : Type} {enc : TypeId × Value → H} (W : World) (base : Nat) (v0 : Value) (d0 : DataW H) (p0 : List MemPlace) (hv0 : Value.okWide Try.prog W .any base 29 v0) (h0 : DataW.Trod enc Try.prog W 0 (fun _ => true) true 29 v0 d0 p0)
    (v1 : Value) (d1 : DataW H) (p1 : List MemPlace) (hv1 : Value.okWide Try.prog W .any base 3 v1) (h1 : DataW.Trod enc Try.prog W 0 (fun _ => true) true 3 v1 d1 p1)
    (v2 : Value) (d2 : DataW H) (p2 : List MemPlace) (hv2 : Value.okWide Try.prog W .any base 3 v2) (h2 : DataW.Trod enc Try.prog W 0 (fun _ => true) true 3 v2 d2 p2)
    (v3 : Value) (d3 : DataW H) (p3 : List MemPlace) (hv3 : Value.okWide Try.prog W .any base 3 v3) (h3 : DataW.Trod enc Try.prog W 0 (fun _ => true) true 3 v3 d3 p3) :
    Calls Try.prog 8 #[v0, v1, v2, v3] W fun e w' => e = .returned (.bool true) ∧ Below W.heap.size W w' := by
  obtain ⟨a, len, cap, L, rfl, hl, hm, hS, _⟩ := open_sync hv0 h0
  obtain ⟨p, rfl, rfl, rfl, _⟩ := open_int Try.underlying3 hv1 h1
  obtain ⟨t, rfl, rfl, rfl, _⟩ := open_int Try.underlying3 hv2 h2
  obtain ⟨by_, rfl, rfl, rfl, _⟩ := open_int Try.underlying3 hv3 h3
  clear hv0 hv1 h0 h1 hv2 h2 hv3 h3
  have C16 := Lib.hid (check16 a len cap L W hl hm hS)
  by_cases hc : checkE len L = 0
  rotate_left
  · generalize checkE len L = q at *
    have hq : (q == 0) = false := by simpa using hc
    have hq2 : (q != 0) = true := by simpa using hc
    clear hc hS
    go_enter Try.func8, Try.ntmps8
    go_wp2_with (first | (go_at_call 16; refine C16.out.mono ?_; rintro e w2 ⟨rfl, hb2⟩) | (go_at_call 12; refine (awake12 _).mono ?_; rintro e w5 ⟨rfl, hb5⟩))
    go_returns
    exact ⟨rfl, hb2.trans (hb5.mono hb2.size)⟩
  have CC := C16.out
  rw [hc] at CC
  have C0 := Lib.hid CC
  clear C16 CC
  by_cases hin : 0 ≤ p ∧ p ≤ 100000 ∧ isMom t = true ∧ isMom by_ = true
  rotate_left
  · have g : p < 0 ∨ (¬ p < 0 ∧ 100000 < p) ∨ (¬ p < 0 ∧ ¬ 100000 < p ∧ isMom t = false) ∨ (¬ p < 0 ∧ ¬ 100000 < p ∧ isMom t = true ∧ isMom by_ = false) := by
      cases h1 : isMom t <;> cases h2 : isMom by_ <;> simp [h1, h2] at hin ⊢ <;> omega
    clear hin hS hc
    rcases g with g1 | ⟨g1, g2⟩ | ⟨g1, g2, g3⟩ | ⟨g1, g2, g3, g4⟩
    all_goals
      go_enter Try.func8, Try.ntmps8
      go_wp2_with (first | (go_at_call 16; refine C0.out.mono ?_; rintro e w2 ⟨rfl, hb2⟩) | (go_at_call 17; refine (moment17 _ _).mono ?_; rintro e w' ⟨rfl, rfl⟩) | (go_at_call 12; refine (awake12 _).mono ?_; rintro e w5 ⟨rfl, hb5⟩))
      go_returns
      exact ⟨rfl, hb2.trans (hb5.mono hb2.size)⟩
  obtain ⟨q0, q1, g1, g2⟩ := hin
  obtain ⟨t0, t1⟩ := isMom_iff.1 g1
  obtain ⟨y0, y1⟩ := isMom_iff.1 g2
  obtain ⟨n0, n1, hok, hord⟩ := check_okS hc
  have k2 : decide (p < 0) = false := by simp; omega
  have k3 : decide (100000 < p) = false := by simp; omega
  obtain ⟨b, off, rfl, hcc⟩ := hS.all (by omega)
  have HS := Lib.hid hcc
  have HS0 := Lib.hid hS
  have HO := Lib.hid hok
  have HC := Lib.hid hc
  obtain ⟨i0, hi, hz0, hz1, hz2⟩ := info_parts Try.info43
  clear hS hcc hok hord hc
  go_enter Try.func8, Try.ntmps8
  go_wp2_with (first | (go_at_call 16; refine C0.out.mono ?_; rintro e w2 ⟨rfl, hb2⟩) | (go_at_call 17; refine (moment17 _ _).mono ?_; rintro e w' ⟨rfl, rfl⟩))
  go_loopw [9, 10] (fun v c wr => ∃ k : Nat, k ≤ len ∧ c = .int .i64 k ∧ (∀ i, i < k → fits L p t by_ i) ∧ wr.ownsRow W.heap.size 43 3 v k (flat (syCells (later L by_)) k) ∧ Below W.heap.size W wr) (fun _ c _ => len - (intOf c).toNat)
  case atStart => exact ⟨0, Nat.zero_le _, rfl, fun i hi => absurd hi (by omega), World.ownsRow_nil _ _ _ _, hb2⟩
  case round =>
    obtain ⟨k, hk, rfl, hgood, hown, hbel⟩ := hrel
    have HG := Lib.hid hgood
    clear hgood hb2
    by_cases hlt : k < len
    · obtain ⟨d0, d1, d2⟩ := HS.out k hlt
      have e0 := cell_kept hbel d0
      have e1 := cell_kept hbel d1
      have e2 := cell_kept hbel d2
      have j0 : (k : Int) < (len : Int) := by omega
      obtain ⟨⟨o1, o2⟩, o3, o4, o5⟩ := HO.out k hlt
      have bd : -9000000000 ≤ alLo (L k) p t ∧ alLo (L k) p t ≤ 90000000000 ∧ -9000000000 ≤ alHi (L k) p t ∧ alHi (L k) p t ≤ 90000000000 := by
        unfold alLo alHi
        by_cases hx : (L k).loc ≤ t
        · have := el_bd (t - (L k).loc) p (by omega) (by omega) q0 q1
          rw [if_pos hx, if_pos hx]; omega
        · have := el_bd ((L k).loc - t) p (by omega) (by omega) q0 q1
          rw [if_neg hx, if_neg hx]; omega
      have CA := fun w => allowed20 (L k) p t w (HO.out k hlt) q0 q1 t0 t1
      have eF : Hid (fits L p t by_ k ↔ 0 ≤ alLo (L k) p t ∧ alHi (L k) p t + by_ ≤ 4294943999 ∧ (L k).til + by_ ≤ 4294943999) := Iff.rfl
      obtain ⟨b1, b2, b3, b4⟩ := bd
      generalize alLo (L k) p t = lo at *
      generalize alHi (L k) p t = hi' at *
      clear d0 d1 d2
      by_cases hf : 0 ≤ lo ∧ hi' + by_ ≤ 4294943999 ∧ (L k).til + by_ ≤ 4294943999
      · have HF := Lib.hid (eF.out.2 hf)
        obtain ⟨f0, f1, f2⟩ := hf
        clear eF
        go_wp2_with fail
        refine (CA _).mono ?_
        rintro e w1 ⟨rfl, hb1⟩
        have u0 := cell_kept hb1 e0
        have u1 := cell_kept hb1 e1
        have u2 := cell_kept hb1 e2
        have zb := szs (cell_lt u0)
        dsimp only at zb
        have hown1 := Lib.hid (hown.kept (w' := w1) (row := none) ⟨hb1.os, hb1.tape, hb1.output, hb1.size, fun k hk _ => hb1.block k hk⟩ (own_free _))
        have hbel1 : Below W.heap.size W w1 := hbel.trans (hb1.mono hbel.size)
        clear hb1 e0 e1 e2 hown CA hbel
        go_wp2
        (refine region_order (fun i : Nat => World.drewN _ i) [0] [1, 2, 3, 4, 5, 6, 7, 8, 9, 10, 11, 12, 13, 14, 15, 16, 17, 18, 19, 20] 21 [22, 23] mixed (by kernel_rfl) ⟨1, rfl⟩ ?_; simp only [List.map_cons, List.map_nil, Array.getD_eq_getD_getElem?, List.getElem?_toArray, List.getElem?_cons_zero, List.getElem?_cons_succ, Option.getD_some]; (repeat (refine wpPure_cons _ rfl (fun w' => by go_simp; try rfl) ?_; dsimp only [Act.put])); refine wpPure_nil ?_; (repeat (any_goals (first | go_big_quiet_step (fail) | quiet_step (fail) | (refine wpQuiet_step (fun K hK => ?_); go_simp; split <;> (refine hK _ ?_; clear hK K))))); (all_goals (refine wpQuiet_nil (fun nq => ?_))))
        go_wp2_with (at_builtin; refine wpList_append_own _ rfl _ _ 29 rfl W.heap.size 43 i0 (.agg #[.int .i64 0, .int .i64 0, .int .i64 0]) 3 24 Try.underlying29 hi hz0 hz1 hz2 rfl (by decide) _ _ _ rfl (((hown1.out.alloc _).kept (grown_drewN _ _ none) (own_free _)).alloc _) ⟨w1.heap.size + 1, 0, none⟩ 1 1 [.int .i64 (L k).loc, .int .i64 ((L k).frm + by_), .int .i64 ((L k).til + by_)] rfl rfl ?c1 ?c2 ?c3 ?c4 ?c5 ?_)
        case c1 =>
          intro j u hj
          match j, hj with
          | 0, hj => simp at hj; subst hj; simp [Addr.add, go_sem]
          | 1, hj => simp at hj; subst hj; simp [Addr.add, go_sem]
          | 2, hj => simp at hj; subst hj; simp [Addr.add, go_sem]
          | j + 3, hj => simp at hj
        case c2 => intro u hu; simp at hu; rcases hu with rfl | rfl | rfl <;> rfl
        case c3 => unfold maxLen; omega
        case c4 => omega
        case c5 => have := hbel1.size; simp; omega
        intro v' w2 hown' hgrow _
        have eY : Hid (flat (syCells (later L by_)) (k + 1) = flat (syCells (later L by_)) k ++ [.int .i64 (L k).loc, .int .i64 ((L k).frm + by_), .int .i64 ((L k).til + by_)]) := rfl
        have hb3 : Below W.heap.size W w2 := ((below_drewN (hbel1.alloc hbel1.size _) nq).alloc (by have := hbel1.size; simp; omega) _).grown hgrow (by have := hbel1.size; simp; omega) (fun j hj => (hown1.out.lt j hj).1)
        clear hgrow hown1
        go_wp2
        refine onlyN_intro ?_
        go_wp2
        go_roundw
        case rel => exact ⟨k + 1, by omega, by go_num, fun i hi => (Nat.lt_succ_iff_lt_or_eq.1 hi).elim (fun h => HG.out i h) (fun h => h ▸ HF.out), by rw [eY.out]; exact hown', hb3⟩
        case measure => simp [intOf]; omega
      · have hf' : lo < 0 ∨ (¬ lo < 0 ∧ 4294943999 < hi' + by_) ∨ (¬ lo < 0 ∧ ¬ 4294943999 < hi' + by_ ∧ 4294943999 < (L k).til + by_) := by omega
        clear hf eF
        rcases hf' with f0 | ⟨f0, f1⟩ | ⟨f0, f1, f2⟩
        all_goals
          go_wp2_with fail
          refine (CA _).mono ?_
          rintro e w1 ⟨rfl, hb1⟩
          have u0 := cell_kept hb1 e0
          have u1 := cell_kept hb1 e1
          have u2 := cell_kept hb1 e2
          have zb := szs (cell_lt u0)
          dsimp only at zb
          have hown1 := Lib.hid (hown.kept (w' := w1) (row := none) ⟨hb1.os, hb1.tape, hb1.output, hb1.size, fun k hk _ => hb1.block k hk⟩ (own_free _))
          have hbel1 : Below W.heap.size W w1 := hbel.trans (hb1.mono hbel.size)
          clear hb1 e0 e1 e2 hown CA hbel
          go_wp2_with (go_at_call 12; refine (awake12 _).mono ?_; rintro e w5 ⟨rfl, hb5⟩)
          go_returns
          exact ⟨rfl, (hbel1.alloc hbel1.size _).trans (hb5.mono (by have := hbel1.size; go_size))⟩
    · obtain rfl : k = len := by omega
      obtain ⟨a', cap', rfl, hn, hm', hsl⟩ := sl_of_owns hown
      unfold maxLen at hm'
      have HL := Lib.hid hsl
      have HS1 := Lib.hid (HS0.out.kept hbel)
      have hk1 : k = (k - 1) + 1 := by omega
      have bd := later_bd (L := L) (p := p) (t := t) y0 (k - 1) (fun i hi => HG.out i (by omega))
      rw [← hk1] at bd
      have hc2 := later_check y0 HC.out (fun i hi => (HG.out i hi).2.2)
      have B1 := fun w h => bounds13 (some ⟨b, off, none⟩) k cap L p t w hl hm h
      have B2 := fun w h => bounds13 a' k cap' (later L by_) p t w hn (by omega) h
      obtain ⟨d1, d2, d3, d4⟩ := bd
      by_cases hx : bHi L p t k < bLo L p t k
      · rw [boundsV_none HC.out (isRate_iff.2 ⟨q0, q1⟩) g1 rfl rfl hx] at B1
        rw [boundsV_none hc2 (isRate_iff.2 ⟨q0, q1⟩) g1 rfl rfl (by omega)] at B2
        clear hown hsl d1 d2 d3 d4 hk1 hc2 hx
        go_wp2_with fail
        refine (B1 _ HS1.out).mono ?_
        rintro e w1 ⟨rfl, hb1⟩
        have HL1 := Lib.hid ((HL.out.kept hb1).kept ((Below.refl _ _).alloc (Nat.le_refl _) (.cells #[.int .i64 0, .int .i64 0] 23)))
        have hbel1 := hbel.trans (hb1.mono hbel.size)
        clear hb1 HS1 HL B1
        go_wp2_with fail
        refine (B2 _ HL1.out).mono ?_
        rintro e w2 ⟨rfl, hb2⟩
        have x0 : w2.cell? ⟨w1.heap.size, 0, none⟩ = some (.int .i64 0) := cell_kept hb2 (by simp [go_sem])
        have x1 : w2.cell? ⟨w1.heap.size, 1, none⟩ = some (.int .i64 0) := cell_kept hb2 (by simp [go_sem])
        have zx := szs (cell_lt x0)
        dsimp only at zx
        have hbel2 := (hbel1.alloc hbel1.size _).trans (hb2.mono (by have := hbel1.size; go_size))
        clear hb2 HL1 B2 hbel1 hbel
        go_wp2_with (go_at_call 12; refine (awake12 _).mono ?_; rintro e w5 ⟨rfl, hb5⟩)
        go_returns
        exact ⟨rfl, (hbel2.alloc hbel2.size _).trans (hb5.mono (by have := hbel2.size; go_size))⟩
      · rw [boundsV_ok HC.out (isRate_iff.2 ⟨q0, q1⟩) g1 rfl rfl hx] at B1
        rw [boundsV_ok hc2 (isRate_iff.2 ⟨q0, q1⟩) g1 rfl rfl (by omega), d1, d2] at B2
        generalize bLo L p t k = lo at *
        generalize bHi L p t k = hi' at *
        clear hown hsl d1 d2 hk1 hc2
        have r0 : lo ≤ 4294943999 := by omega
        have r1 : 0 ≤ hi' := by omega
        go_wp2_with fail
        refine (B1 _ HS1.out).mono ?_
        rintro e w1 ⟨rfl, hb1⟩
        have HL1 := Lib.hid ((HL.out.kept hb1).kept ((Below.refl _ _).alloc (Nat.le_refl _) (.cells #[.int .i64 lo, .int .i64 hi'] 23)))
        have hbel1 := hbel.trans (hb1.mono hbel.size)
        clear hb1 HS1 HL B1
        go_wp2_with fail
        refine (B2 _ HL1.out).mono ?_
        rintro e w2 ⟨rfl, hb2⟩
        have x0 : w2.cell? ⟨w1.heap.size, 0, none⟩ = some (.int .i64 lo) := cell_kept hb2 (by simp [go_sem])
        have x1 : w2.cell? ⟨w1.heap.size, 1, none⟩ = some (.int .i64 hi') := cell_kept hb2 (by simp [go_sem])
        have zx := szs (cell_lt x0)
        dsimp only at zx
        have hbel2 := (hbel1.alloc hbel1.size _).trans (hb2.mono (by have := hbel1.size; go_size))
        clear hb2 HL1 B2 hbel1 hbel
        go_wp2_with (go_at_call 12; refine (awake12 _).mono ?_; rintro e w5 ⟨rfl, hb5⟩)
        go_returns
        exact ⟨rfl, (hbel2.alloc hbel2.size _).trans (hb5.mono (by have := hbel2.size; go_size))⟩
end Go.Proofs.Ytbgnmhphbjkfcaa
