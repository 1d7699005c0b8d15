/- The program's Bound. -/
import Derived.Test.YtanpefjbmpohdaaBD30
namespace Go.Proofs.Ytanpefjbmpohdaa
open Go.RowKit Go.ChangeShapes Go.WideShapes Go.Deep
set_option linter.unusedVariables false
set_option linter.unusedSimpArgs false
/-- Eight ints. -/
def arr (A : Int → Int) : Array Value := #[.int .i64 (A 0), .int .i64 (A 1), .int .i64 (A 2), .int .i64 (A 3), .int .i64 (A 4), .int .i64 (A 5), .int .i64 (A 6), .int .i64 (A 7)]
theorem arr_set (A : Int → Int) {s : Nat} (hs : s < 8) (x : Int) : (arr A).setIfInBounds s (.int .i64 x) = arr (upz A s x) := by
  rcases (by omega : s = 0 ∨ s = 1 ∨ s = 2 ∨ s = 3 ∨ s = 4 ∨ s = 5 ∨ s = 6 ∨ s = 7) with rfl | rfl | rfl | rfl | rfl | rfl | rfl | rfl <;> simp [arr, upz]
theorem arr_get (A : Int → Int) {s : Nat} (hs : s < 8) : (arr A)[s]? = some (.int .i64 (A s)) := by
  rcases (by omega : s = 0 ∨ s = 1 ∨ s = 2 ∨ s = 3 ∨ s = 4 ∨ s = 5 ∨ s = 6 ∨ s = 7) with rfl | rfl | rfl | rfl | rfl | rfl | rfl | rfl <;> simp [arr]
theorem index_arr (A : Int → Int) {s : Nat} (hs : s < 8) (w : World) : (Instr.index 56 (.agg (arr A)) (.int .i64 s)).run Try.prog w = .ok (.int .i64 (A s)) w := by
  rcases (by omega : s = 0 ∨ s = 1 ∨ s = 2 ∨ s = 3 ∨ s = 4 ∨ s = 5 ∨ s = 6 ∨ s = 7) with rfl | rfl | rfl | rfl | rfl | rfl | rfl | rfl <;> kernel_rfl
/-- Both blocks: the greatest so far, the skills' seconds. -/
def Two (W0 wr : World) (bm ba : Nat) (most : Int) (A : Int → Int) : Prop :=
  wr.heap[bm]? = some (.cells #[.int .i64 most] 3 (0, 0)) ∧ wr.heap[ba]? = some (.cells (arr A) 56 (0, 0)) ∧ Below W0.heap.size W0 wr ∧ W0.heap.size ≤ bm ∧ W0.heap.size ≤ ba
theorem Two.below {W0 wr w' : World} {bm ba : Nat} {most : Int} {A : Int → Int} (h : Two W0 wr bm ba most A) (hb : Below wr.heap.size wr w') : Two W0 w' bm ba most A :=
  ⟨(hb.block _ (block_lt h.1)).trans h.1, (hb.block _ (block_lt h.2.1)).trans h.2.1, h.2.2.1.trans (hb.mono h.2.2.1.size), h.2.2.2⟩
theorem Two.set1 {W0 wr : World} {bm ba : Nat} {most : Int} {A : Int → Int} (h : Two W0 wr bm ba most A) (hne : bm ≠ ba) (x : Int) : Two W0 (wr.setCell ⟨bm, 0, none⟩ (.int .i64 x)) bm ba x A := by
  refine ⟨?_, ?_, h.2.2.1.setCell h.2.2.2.1 _, h.2.2.2⟩
  · rw [setCell_at h.1, setAt_same (block_lt h.1)]; rfl
  · rw [setCell_at h.1, setAt_ne hne]; exact h.2.1
theorem Two.set2 {W0 wr : World} {bm ba : Nat} {most : Int} {A : Int → Int} (h : Two W0 wr bm ba most A) (hne : bm ≠ ba) {s : Nat} (hs : s < 8) (x : Int) : Two W0 (wr.setCell ⟨ba, s, none⟩ (.int .i64 x)) bm ba most (upz A s x) := by
  refine ⟨?_, ?_, h.2.2.1.setCell h.2.2.2.2 _, h.2.2.2⟩
  · rw [setCell_at h.2.1, setAt_ne (Ne.symm hne)]; exact h.1
  · rw [setCell_at h.2.1, setAt_same (block_lt h.2.1), arr_set A hs]
theorem Two.turn {W0 wr w' : World} {bm ba : Nat} {most x : Int} {A : Int → Int} (h : Two W0 wr bm ba most A) (hne : bm ≠ ba) (hx : w'.heap[bm]? = some (.cells #[.int .i64 x] 3 (0, 0))) (ho : Off (fun i => i = bm) wr w') : Two W0 w' bm ba x A :=
  ⟨hx, (ho.block _ (block_lt h.2.1) (Ne.symm hne)).trans h.2.1, h.2.2.1.trans (ho.toBelow h.2.2.1.size (fun k hk e => by have := h.2.2.2.1; omega)), h.2.2.2⟩
theorem skL_step (J : Nat → Jb) (n : Nat) {s : Int} (hs : (J n).skill = s) : skL J (n + 1) = upz (skL J n) s (skL J n s + (J n).secs) := by
  funext x
  by_cases e : x = s
  · subst e; rw [upz_same]; simp [skL, hs]
  · rw [upz_ne e]; simp only [skL]; rw [if_neg (by rw [hs]; exact fun h => e h.symm)]; omega
/-- What Bound answers. -/
def Bnd (w : World) (m : Nat) (J : Nat → Jb) (k : Nat) (M : Nat → Int) (e : Ending) (w' : World) : Prop :=
  e = .returned (.tuple #[.int .i64 (if chkE m J k M = 0 then bndV m J k M else 0), .int .i64 (chkE m J k M)]) ∧ Below w.heap.size w w'
theorem Bnd.fail {w w' : World} {m : Nat} {J : Nat → Jb} {k : Nat} {M : Nat → Int} (h : chkE m J k M ≠ 0) (hb : Below w.heap.size w w') : Bnd w m J k M (.returned (.tuple #[.int .i64 0, .int .i64 (chkE m J k M)])) w' := ⟨by simp [h], hb⟩
theorem Bnd.done {w w' : World} {m : Nat} {J : Nat → Jb} {k : Nat} {M : Nat → Int} (h : chkE m J k M = 0) (hb : Below w.heap.size w w') : Bnd w m J k M (.returned (.tuple #[.int .i64 (bndV m J k M), .int .i64 0])) w' := ⟨by simp [h], hb⟩
set_option maxHeartbeats 8000000 in
set_option maxRecDepth 100000 in
theorem bound20 (ao am : Option Addr) (m c k c2 : Nat) (J : Nat → Jb) (M : Nat → Int) (w : World) (h : Sl w 3 ao m c (jf J)) (h2 : Sl w 1 am k c2 (mf M)) :
    Calls Try.prog 20 #[.slice ao m c, .slice am k c2] w fun e w' => Bnd w m J k M e w' := by
  have hmc := h.hm
  have hcc := h.hc
  have hkc := h2.hm
  have hcc2 := h2.hc
  have HS := Lib.hid h
  have HM := Lib.hid h2
  have HC := Lib.hid (check13 ao am m c k c2 J M w h h2)
  clear h h2
  by_cases hc : chkE m J k M = 0
  · rw [hc] at HC
    have CZ := chk_zero hc
    have hm32 := CZ.1
    have hk8 := CZ.2.1
    have HCZ := Lib.hid CZ.2.2
    have H0 := Lib.hid hc
    clear CZ hc
    go_enter Try.func20, Try.ntmps20
    go_wp2_with fail
    refine HC.out.mono ?_
    rintro e w1 ⟨rfl, b1⟩
    have B1 := Lib.hid b1
    clear b1 HC
    go_wp2_with fail
    obtain ⟨bm, hbm⟩ : ∃ bm, bm = w1.heap.size := ⟨_, rfl⟩
    obtain ⟨ba, hba⟩ : ∃ ba, ba = w1.heap.size + 1 := ⟨_, rfl⟩
    have S0 : Hid (Two w ((w1.alloc (.cells #[.int .i64 0] 3)).alloc (.cells (arr (fun _ => 0)) 56)) bm ba (mostL J 0) (skL J 0)) := Lib.hid (by
      refine ⟨?_, ?_, (B1.out.alloc B1.out.size _).alloc (by have := B1.out.size; simp; omega) _, by rw [hbm]; exact B1.out.size, by rw [hba]; have := B1.out.size; omega⟩
      · have h1 := heap_alloc_new w1 (.cells #[.int .i64 0] 3)
        rw [hbm]
        exact (((Below.refl (w1.alloc (.cells #[.int .i64 0] 3)).heap.size _).alloc (Nat.le_refl _) (.cells (arr (fun _ => 0)) 56)).block _ (block_lt h1)).trans h1
      · have h1 := heap_alloc_new (w1.alloc (.cells #[.int .i64 0] 3)) (.cells (arr (fun _ => 0)) 56)
        rw [show (w1.alloc (.cells #[.int .i64 0] 3)).heap.size = w1.heap.size + 1 by simp] at h1
        rw [hba]; exact h1)
    have hne : bm ≠ ba := by omega
    have HNE := Lib.hid hne
    rw [← hba, ← hbm]
    clear hne hba hbm
    unfold arr at S0
    generalize (w1.alloc (.cells #[.int .i64 0] 3)).alloc (.cells #[.int .i64 0, .int .i64 0, .int .i64 0, .int .i64 0, .int .i64 0, .int .i64 0, .int .i64 0, .int .i64 0] 56) = ws at *
    go_loopw [26, 8] (fun i a wr => ∃ j : Nat, i = .int .i64 j ∧ j ≤ m ∧ a = .int .i64 (sumL J j) ∧ Hid (Two w wr bm ba (mostL J j) (skL J j))) (fun i _ _ => m - (intOf i).toNat)
    case atStart => exact ⟨0, rfl, by omega, rfl, S0⟩
    case round =>
      clear S0 B1
      obtain ⟨j, rfl, hj, rfl, hrel⟩ := hrel
      by_cases hlt : j < m
      · have tj : (j : Int) < (m : Int) := by omega
        obtain ⟨wo, rfl⟩ : ∃ wo : World, wo = wr := ⟨_, rfl⟩
        obtain ⟨gj, oj, rfl, hgj, j0, j1, j2⟩ := (HS.out.below hrel.out.2.2.1).job hlt
        have zj := szs hgj
        obtain ⟨_, _, hs1, hs2, hk0, hk1, _⟩ := HCZ.out j hlt
        have sr := sumL_range (fine_secs H0.out) hj
        obtain ⟨s, hs⟩ : ∃ s : Nat, (J j).skill = (s : Int) := ⟨(J j).skill.toNat, by omega⟩
        have kr := skL_range (fine_secs H0.out) (s : Int) hj
        have KS := skL_step J j hs
        have hs8 : s < 8 := by omega
        have ts : (s : Int) < 8 := by omega
        have c0 : wo.cell? ⟨bm, 0, none⟩ = some (.int .i64 (mostL J j)) := cell_at hrel.out.1 0
        have cf := free_at hrel.out.1 0
        have zb := szs (block_lt hrel.out.1)
        have za := szs (block_lt hrel.out.2.1)
        rw [hs] at j2
        have HMS : Hid (mostL J (j + 1) = mx (mostL J j) (J j).secs) := Lib.hid rfl
        have HSS : Hid (sumL J (j + 1) = sumL J j + (J j).secs) := Lib.hid rfl
        obtain ⟨x, hx⟩ : ∃ x, x = (J j).secs := ⟨_, rfl⟩
        rw [← hx] at j1 hs1 hs2 KS HMS HSS
        obtain ⟨id, hid⟩ : ∃ id, id = (J j).id := ⟨_, rfl⟩
        rw [← hid] at j0
        have HKS := Lib.hid KS
        have w1 : IntKind.i64.wrap (sumL J j + x) = sumL J j + x := IntWalk.i64_in _ (by omega)
        have w2 : IntKind.i64.wrap (skL J j s + x) = skL J j s + x := IntWalk.i64_in _ (by omega)
        have HR := hrel
        have HSI := Lib.hid hs
        clear hrel hx hid KS hs hk0 hk1 sr kr
        obtain ⟨y, hy⟩ : ∃ y, y = skL J j s := ⟨_, rfl⟩
        rw [← hy] at w2
        have HY := Lib.hid hy
        clear hy
        by_cases hmx : mostL J j < x
        all_goals
          have hmv : mostL J (j + 1) = (if mostL J j < x then x else mostL J j) := HMS.out
          simp only [hmx, if_true, if_false] at hmv
          have HMV := Lib.hid hmv
          first | (have hge : x ≤ mostL J j := by omega) | skip
          clear hmv HMS
          generalize mostL J j = mo at *
          generalize sumL J j = su at *
          go_wp2_with fail
        · obtain ⟨w3, hw3⟩ : ∃ w3, w3 = (wo.setCell ⟨bm, 0, none⟩ (.int .i64 x)).alloc (.cells #[.int .i64 id, .int .i64 x, .int .i64 s] 40) := ⟨_, rfl⟩
          rw [← hw3]
          have hz : (wo.setCell ⟨bm, 0, none⟩ (.int .i64 x)).heap.size = wo.heap.size := by simp
          have x3 : w3.heap[wo.heap.size]? = some (.cells #[.int .i64 id, .int .i64 x, .int .i64 s] 40) := by rw [hw3, ← hz]; exact heap_alloc_new _ _
          have T3 : Hid (Two w w3 bm ba (mostL J (j + 1)) (skL J j)) := Lib.hid (by rw [hw3, HMV.out]; exact (HR.out.set1 HNE.out x).below ((Below.refl _ _).alloc (Nat.le_refl _) _))
          have e0 : w3.cell? ⟨wo.heap.size, 0, none⟩ = some (.int .i64 id) := cell_at x3 0
          have e1 : w3.cell? ⟨wo.heap.size, 1, none⟩ = some (.int .i64 x) := cell_at x3 1
          have e2 : w3.cell? ⟨wo.heap.size, 2, none⟩ = some (.int .i64 s) := cell_at x3 2
          have ca : w3.cell? ⟨ba, s, none⟩ = some (.int .i64 y) := by rw [cell_at T3.out.2.1, arr_get _ hs8, HY.out]
          have fa := free_at T3.out.2.1 s
          have z3 := szs (block_lt x3)
          have z4 := szs (block_lt T3.out.2.1)
          clear hw3 hz x3 c0 cf zb za j0 j1 j2 zj hgj
          (refine region_order (fun i : Nat => World.drewN _ i) [] [0, 1, 2, 3, 4, 5, 6, 7] 8 [] mixed (by kernel_rfl) ⟨1, rfl⟩ ?_; simp only [List.map_cons, List.map_nil, Array.getD_eq_getD_getElem?, List.getElem?_toArray, List.getElem?_cons_zero, List.getElem?_cons_succ, Option.getD_some]; (repeat (refine wpPure_cons _ rfl (fun w' => by go_simp; try rfl) ?_; dsimp only [Act.put])); refine wpPure_nil ?_; (repeat (any_goals (first | go_big_quiet_step (fail) | quiet_step (fail) | (refine wpQuiet_step (fun K hK => ?_); go_simp; split <;> (refine hK _ ?_; clear hK K))))); (all_goals (refine wpQuiet_nil (fun nq => ?_))))
          go_wp2_with fail
          refine onlyN_intro ?_
          go_wp2_with fail
          go_roundw
          case rel => exact ⟨j + 1, by go_num, by omega, by rw [HSS.out], Lib.hid (by rw [HKS.out, ← HY.out]; exact (T3.out.below (below_drewN (Below.refl _ _) nq)).set2 HNE.out hs8 (y + x))⟩
          case measure => simp [intOf]; omega
        · clear hmx
          obtain ⟨w3, hw3⟩ : ∃ w3, w3 = (wo.setCell ⟨bm, 0, none⟩ (.int .i64 mo)).alloc (.cells #[.int .i64 id, .int .i64 x, .int .i64 s] 40) := ⟨_, rfl⟩
          rw [← hw3]
          have hz : (wo.setCell ⟨bm, 0, none⟩ (.int .i64 mo)).heap.size = wo.heap.size := by simp
          have x3 : w3.heap[wo.heap.size]? = some (.cells #[.int .i64 id, .int .i64 x, .int .i64 s] 40) := by rw [hw3, ← hz]; exact heap_alloc_new _ _
          have T3 : Hid (Two w w3 bm ba (mostL J (j + 1)) (skL J j)) := Lib.hid (by rw [hw3, HMV.out]; exact (HR.out.set1 HNE.out mo).below ((Below.refl _ _).alloc (Nat.le_refl _) _))
          have e0 : w3.cell? ⟨wo.heap.size, 0, none⟩ = some (.int .i64 id) := cell_at x3 0
          have e1 : w3.cell? ⟨wo.heap.size, 1, none⟩ = some (.int .i64 x) := cell_at x3 1
          have e2 : w3.cell? ⟨wo.heap.size, 2, none⟩ = some (.int .i64 s) := cell_at x3 2
          have ca : w3.cell? ⟨ba, s, none⟩ = some (.int .i64 y) := by rw [cell_at T3.out.2.1, arr_get _ hs8, HY.out]
          have fa := free_at T3.out.2.1 s
          have z3 := szs (block_lt x3)
          have z4 := szs (block_lt T3.out.2.1)
          clear hw3 hz x3 c0 cf zb za j0 j1 j2 zj hgj
          (refine region_order (fun i : Nat => World.drewN _ i) [] [0, 1, 2, 3, 4, 5, 6, 7] 8 [] mixed (by kernel_rfl) ⟨1, rfl⟩ ?_; simp only [List.map_cons, List.map_nil, Array.getD_eq_getD_getElem?, List.getElem?_toArray, List.getElem?_cons_zero, List.getElem?_cons_succ, Option.getD_some]; (repeat (refine wpPure_cons _ rfl (fun w' => by go_simp; try rfl) ?_; dsimp only [Act.put])); refine wpPure_nil ?_; (repeat (any_goals (first | go_big_quiet_step (fail) | quiet_step (fail) | (refine wpQuiet_step (fun K hK => ?_); go_simp; split <;> (refine hK _ ?_; clear hK K))))); (all_goals (refine wpQuiet_nil (fun nq => ?_))))
          go_wp2_with fail
          refine onlyN_intro ?_
          go_wp2_with fail
          go_roundw
          case rel => exact ⟨j + 1, by go_num, by omega, by rw [HSS.out], Lib.hid (by rw [HKS.out, ← HY.out]; exact (T3.out.below (below_drewN (Below.refl _ _) nq)).set2 HNE.out hs8 (y + x))⟩
          case measure => simp [intOf]; omega
      · obtain rfl : j = m := by omega
        have HR := hrel
        have sr := sumL_range (fine_secs H0.out) (Nat.le_refl j)
        have SH := Lib.hid (share30 bm (mostL J j) (sumL J j) k wr hrel.out.1 sr.1 (by omega) (by omega))
        clear hrel sr
        go_wp2_with fail
        refine SH.out.mono ?_
        rintro e w2 ⟨rfl, x2, o2⟩
        have T2 : Hid (Two w w2 bm ba (bdK j J k M 0) (skL J j)) := Lib.hid (HR.out.turn HNE.out x2 o2)
        clear x2 o2 SH HR
        obtain ⟨A, hA⟩ : ∃ A, A = skL J j := ⟨_, rfl⟩
        rw [← hA] at T2
        have HA := Lib.hid hA
        clear hA
        have c0 : w2.cell? ⟨ba, 0, none⟩ = some (.int .i64 (A 0)) := cell_at T2.out.2.1 0
        have c1 : w2.cell? ⟨ba, 1, none⟩ = some (.int .i64 (A 1)) := cell_at T2.out.2.1 1
        have c3 : w2.cell? ⟨ba, 2, none⟩ = some (.int .i64 (A 2)) := cell_at T2.out.2.1 2
        have c4 : w2.cell? ⟨ba, 3, none⟩ = some (.int .i64 (A 3)) := cell_at T2.out.2.1 3
        have c5 : w2.cell? ⟨ba, 4, none⟩ = some (.int .i64 (A 4)) := cell_at T2.out.2.1 4
        have c6 : w2.cell? ⟨ba, 5, none⟩ = some (.int .i64 (A 5)) := cell_at T2.out.2.1 5
        have c7 : w2.cell? ⟨ba, 6, none⟩ = some (.int .i64 (A 6)) := cell_at T2.out.2.1 6
        have c8 : w2.cell? ⟨ba, 7, none⟩ = some (.int .i64 (A 7)) := cell_at T2.out.2.1 7
        have za := szs (block_lt T2.out.2.1)
        go_wp2_with fail
        clear c0 c1 c3 c4 c5 c6 c7 c8 za
        go_loopw [54] (fun i wr => ∃ s : Nat, i = .int .i64 s ∧ s ≤ 8 ∧ Hid (Two w wr bm ba (bdK j J k M s) A)) (fun i _ => 8 - (intOf i).toNat)
        case atStart => exact ⟨0, rfl, by omega, T2⟩
        case round =>
          clear T2
          obtain ⟨s, rfl, hs, hrel⟩ := hrel
          by_cases hlt2 : s < 8
          · have ts : (s : Int) < 8 := by omega
            obtain ⟨wo, rfl⟩ : ∃ wo : World, wo = wr := ⟨_, rfl⟩
            have HR := hrel
            have kr := skL_range (fine_secs H0.out) (s : Int) (Nat.le_refl j)
            rw [← HA.out] at kr
            clear hrel
            have hix := index_arr A hlt2 wo
            unfold arr at hix
            go_wp2_with fail
            clear hix
            obtain ⟨a, ha⟩ : ∃ a, a = A s := ⟨_, rfl⟩
            rw [← ha] at kr ⊢
            have HAS := Lib.hid ha
            clear ha
            go_loopw [60, 15] (fun i n wi => ∃ t : Nat, i = .int .i64 t ∧ t ≤ k ∧ n = .int .i64 (cnt M s t) ∧ Hid (Below wo.heap.size wo wi)) (fun i _ _ => k - (intOf i).toNat)
            case atStart => exact ⟨0, rfl, by omega, rfl, Lib.hid (Below.refl _ _)⟩
            case round =>
              obtain ⟨t, rfl, ht, rfl, hrel⟩ := hrel
              have BI := Lib.hid hrel.out
              have PT := Lib.hid (HR.out.below hrel.out)
              clear hrel
              have hl := cnt_le M s t
              have hn : cnt M s (t + 1) = cnt M s t + if hasB (M t) s then 1 else 0 := rfl
              have HN := Lib.hid hn
              clear hn
              by_cases hlt3 : t < k
              · have tt : (t : Int) < (k : Int) := by omega
                obtain ⟨gm, om, rfl, hgm, m0⟩ := (HM.out.below PT.out.2.2.1).mech hlt3
                have zm := szs hgm
                have HH := Lib.hid (fun w' => able28 (M t) s w' (Int.natCast_nonneg _) ts)
                obtain ⟨km, hkm⟩ : ∃ km, km = M t := ⟨_, rfl⟩
                rw [← hkm] at m0 HH HN
                obtain ⟨b, hb⟩ : ∃ b, b = hasB km s := ⟨_, rfl⟩
                rw [← hb] at HH HN
                clear hkm hb hgm
                obtain ⟨wo3, rfl⟩ : ∃ wo3 : World, wo3 = wr := ⟨_, rfl⟩
                have BX : Hid (Below wo3.heap.size wo3 (wo3.alloc (.cells #[.int .i64 km] 38))) := Lib.hid ((Below.refl _ _).alloc (Nat.le_refl _) _)
                cases b
                all_goals
                  go_wp2_with fail
                  refine (HH.out _).mono ?_
                  rintro e w4 ⟨rfl, b4⟩
                  have B4 := Lib.hid (BI.out.trans ((BX.out.trans (b4.mono BX.out.size)).mono BI.out.size))
                  clear b4
                  go_wp2_with fail
                  go_roundw
                  case rel => exact ⟨t + 1, by go_num, by omega, by rw [HN.out]; go_num, B4⟩
                  case measure => simp [intOf]; omega
              · obtain rfl : t = k := by omega
                have SH := Lib.hid (share30 bm (bdK j J t M s) a (cnt M s t) wr PT.out.1 kr.1 (by omega) (by omega))
                clear HN
                go_wp2_with fail
                refine SH.out.mono ?_
                rintro e w5 ⟨rfl, x5, o5⟩
                have T5 : Hid (Two w w5 bm ba (bdK j J t M (s + 1)) A) := Lib.hid (PT.out.turn HNE.out (by rw [show bdK j J t M (s + 1) = shr (bdK j J t M s) (skL J j s) (cnt M s t) from rfl, ← HA.out, ← HAS.out]; exact x5) o5)
                clear x5 o5 SH PT HR BI
                go_wp2_with fail
                go_roundw
                case rel => exact ⟨s + 1, by go_num, by omega, T5⟩
                case measure => simp [intOf]; omega
          · obtain rfl : s = 8 := by omega
            have c0 : wr.cell? ⟨bm, 0, none⟩ = some (.int .i64 (bdK j J k M 8)) := cell_at hrel.out.1 0
            have hp := Lib.hid (Bnd.done H0.out hrel.out.2.2.1)
            have zb := szs (block_lt hrel.out.1)
            clear hrel
            unfold bndV at hp
            go_wp2_with fail
            go_returns
            exact hp.out
  · have HP := Lib.hid (fun w' (hb : Below w.heap.size w w') => Bnd.fail hc hb)
    generalize chkE m J k M = ce at *
    have tb : (ce != 0) = true := by simp; exact hc
    clear hc
    go_enter Try.func20, Try.ntmps20
    go_wp2_with fail
    refine HC.out.mono ?_
    rintro e w1 ⟨rfl, b1⟩
    have B1 := Lib.hid b1
    clear b1 HC
    go_wp2_with fail
    go_returns
    exact HP.out _ B1.out
end Go.Proofs.Ytanpefjbmpohdaa
