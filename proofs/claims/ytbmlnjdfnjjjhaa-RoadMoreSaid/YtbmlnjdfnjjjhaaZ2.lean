/- The reference's Table walked. -/
import Derived.Test.YtbmlnjdfnjjjhaaZ1
import Derived.Test.YtbmlnjdfnjjjhaaT4
namespace Go.Proofs.Ytbmlnjdfnjjjhaa
open Go.RowKit
set_option linter.unusedVariables false
set_option linter.unusedSimpArgs false
open Rd
def rowL (K : Nat → Int) (f : Int → Int) (k : Nat) : List Int := (List.range k).map fun i => f (K i)
theorem rowL_len (K : Nat → Int) (f : Int → Int) (k : Nat) : (rowL K f k).length = k := by simp [rowL]
theorem rowL_succ (K : Nat → Int) (f : Int → Int) (k : Nat) : rowL K f (k + 1) = rowL K f k ++ [f (K k)] := by simp [rowL, List.range_succ]
theorem rowL_at (K : Nat → Int) (f : Int → Int) {k i : Nat} (h : i < k) : (rowL K f k).getD i 0 = f (K i) := by simp [rowL, List.getD, h]
set_option maxHeartbeats 4000000 in
set_option maxRecDepth 100000 in
theorem table17 (N : Int) (ao : Option Addr) (m c : Nat) (E : Nat → Ed) (an : Option Addr) (q cn : Nat) (K : Nat → Int) (w : World) (hw : Net w ao m c E) (hK : Ints w an q K) (hqc : q ≤ cn) (hcn : cn ≤ 9223372036854775807) :
    Calls Try.prog 17 #[.agg #[.int .i64 N, .slice ao m c], .slice an q cn] w fun e w' => Tb N m E q K w e w' := by
  obtain ⟨w0, hw0⟩ : ∃ w0, w0 = w.alloc (.cells #[.int .i64 N, .slice ao m c] 24) := ⟨_, rfl⟩
  have b0 : Below w.heap.size w w0 := by rw [hw0]; exact (Below.refl _ _).alloc (Nat.le_refl _) _
  have x0 : w0.heap[w.heap.size]? = some (.cells #[.int .i64 N, .slice ao m c] 24) := by rw [hw0]; exact heap_alloc_new w _
  have r0 : w0.cell? ⟨w.heap.size, 0, none⟩ = some (.int .i64 N) := cell_at x0 0
  have r1 : w0.cell? ⟨w.heap.size, 1, none⟩ = some (.slice ao m c) := cell_at x0 1
  have B0 := Lib.hid b0
  have HW := Lib.hid hw0
  have zb : w.heap.size < w0.heap.size := block_lt x0
  have n0 := Lib.hid (hw.below b0)
  have k0 := Lib.hid (hK.below b0)
  have CK := check14 N ao m c E w0 n0.out
  obtain ⟨x, hx⟩ : ∃ x, x = roadE N m E := ⟨_, rfl⟩
  rw [← hx] at CK
  have HCK := Lib.hid CK
  have HX := Lib.hid hx
  clear hw b0 x0 hw0 CK hx hK
  by_cases h0 : x = 0
  · subst h0
    go_enter Try.func17, Try.ntmps17
    go_wp2_with fail
    rw [← HW.out]
    clear HW
    refine HCK.out.mono ?_
    rintro e w1 ⟨rfl, b1⟩
    have d0 := cell_kept b1 r0
    have d1 := cell_kept b1 r1
    have zd := szs (cell_lt d0)
    dsimp only at zd
    have B1 := Lib.hid (B0.out.trans (b1.mono B0.out.size))
    have n1 := Lib.hid (n0.out.below b1)
    have k1 := Lib.hid (k0.out.below b1)
    clear b1 r0 r1 zb
    by_cases hq64 : 64 < q
    · have tq : (64 : Int) < (q : Int) := by omega
      have HT : Hid (tabE N m E q K = 8) := Lib.hid (by unfold tabE; rw [if_neg (by rw [← HX.out]; simp), if_pos hq64])
      clear hq64
      go_wp2_with fail
      go_returns
      exact ⟨B1.out, .inl ⟨by rw [HT.out]; decide, by rw [HT.out]; rfl⟩⟩
    have tq : (q : Int) ≤ 64 := by omega
    have hq64' : q ≤ 64 := by omega
    have HT : Hid (tabE N m E q K = scan (badN N K) q) := Lib.hid (by unfold tabE; rw [if_neg (by rw [← HX.out]; simp), if_neg hq64])
    clear hq64
    go_wp2_with fail
    go_loopw [7] (fun i wr => ∃ k : Nat, i = .int .i64 k ∧ k ≤ q ∧ Hid (scan (badN N K) k = 0 ∧ Below w1.heap.size w1 wr)) (fun i _ => q - (intOf i).toNat)
    case atStart => exact ⟨0, rfl, by omega, rfl, Below.refl _ _⟩
    case round =>
      obtain ⟨k, rfl, hk, hrel⟩ := hrel
      have g0 := cell_kept hrel.out.2 d0
      have g1 := cell_kept hrel.out.2 d1
      have zg := szs (cell_lt g0)
      dsimp only at zg
      by_cases hlt : k < q
      · obtain ⟨g, o, hao, hg, e0⟩ := (k1.out.below hrel.out.2).cell hlt
        subst hao
        have zz := szs hg
        have tk : (k : Int) < (q : Int) := by omega
        obtain ⟨y, hy⟩ : ∃ y, y = K k := ⟨_, rfl⟩
        rw [← hy] at e0
        have ND := fun nq => node21 N y (.slice ao m c) (wr.drewN nq) rfl
        obtain ⟨p, hp⟩ : ∃ p, p = nodeB N y := ⟨_, rfl⟩
        rw [← hp] at ND
        have HND := Lib.hid ND
        have HB : Hid (badN N K k = if p = true then 0 else 7) := Lib.hid (by unfold badN; rw [hp, hy])
        clear ND hp hy
        go_wp2_with fail
        (refine region_drawn 5 mixed (by kernel_rfl) ?_; simp only [List.take_succ_cons, List.take_zero, List.drop_succ_cons, List.drop_zero]; (repeat (any_goals (first | go_big_quiet_step (fail) | quiet_step (fail) | (refine wpQuiet_step (fun K hK => ?_); go_simp; split <;> (refine hK _ ?_; clear hK K))))); (all_goals (refine wpQuiet_nil (fun nq => ?_))))
        go_wp2_with fail
        refine (HND.out nq).mono ?_
        rintro e w2 ⟨rfl, b2⟩
        have B2 := Lib.hid (hrel.out.2.trans (((below_drewN (Below.refl _ _) nq).trans b2).mono hrel.out.2.size))
        clear b2
        cases p
        · go_wp2_with fail
          go_returns
          have hit := scan_hit hrel.out.1 (by rw [HB.out]; decide) hlt
          exact ⟨B1.out.trans (B2.out.mono B1.out.size), .inl ⟨by rw [HT.out, hit, HB.out]; decide, by rw [HT.out, hit, HB.out]; rfl⟩⟩
        · go_wp2_with fail
          go_roundw
          case rel => exact ⟨k + 1, by go_num, by omega, scan_next hrel.out.1 (by rw [HB.out]; rfl), B2.out⟩
          case measure => simp [intOf]; omega
      · obtain rfl : k = q := by omega
        obtain ⟨n, hn, hr⟩ := right_of HX.out.symm
        subst hn
        have HZ := Lib.hid (scan_zero hrel.out.1)
        have HR := Lib.hid hr
        have hn64 := hr.n2
        have HT0 : Hid (tabE n m E k K = 0) := Lib.hid (by rw [HT.out]; exact hrel.out.1)
        have HKN : Hid (∀ i, i < k → ∃ s : Nat, K i = s ∧ s < n) := Lib.hid (fun i hi => by
          have h1 := HZ.out i hi
          unfold badN at h1
          have h2 : nodeB n (K i) = true := by
            cases h : nodeB n (K i)
            · rw [h] at h1; simp at h1
            · rfl
          simp [nodeB] at h2
          exact ⟨(K i).toNat, by omega, by omega⟩)
        have BW := Lib.hid (B1.out.trans (hrel.out.2.mono B1.out.size))
        have n2 := Lib.hid (n1.out.below hrel.out.2)
        have k2 := Lib.hid (k1.out.below hrel.out.2)
        obtain ⟨i0, hi, hz0, hz1, hz2⟩ := info_parts info27
        obtain ⟨i1, hi', hz0', hz1', hz2'⟩ := info_parts info3
        obtain ⟨wo, rfl⟩ : ∃ wo : World, wo = wr := ⟨_, rfl⟩
        clear hr hrel d0 d1 zd HZ
        go_wp2_with fail
        go_loopw [8, 9] (fun tv iv wr => ∃ i : Nat, iv = .int .i64 i ∧ i ≤ k ∧ Hid (Tab wr wo.heap.size tv i k (fun i j => sec (gr Ed.frm Ed.til n m E) (K i) (K j)) ∧ Below wo.heap.size wo wr)) (fun _ iv _ => k - (intOf iv).toNat)
        case atStart => exact ⟨0, rfl, by omega, Tab.nil _ _ _ _, Below.refl _ _⟩
        case round =>
          obtain ⟨i, rfl, hik, hrel⟩ := hrel
          by_cases hlt2 : i < k
          · obtain ⟨g, o, hao, hg, e0⟩ := (k2.out.below hrel.out.2).cell hlt2
            subst hao
            obtain ⟨s, hs, hsn⟩ := HKN.out i hlt2
            rw [hs] at e0
            have zz := szs hg
            have ti : (i : Int) < (k : Int) := by omega
            have y0 := cell_kept hrel.out.2 g0
            have y1 := cell_kept hrel.out.2 g1
            have zy := szs (cell_lt y0)
            dsimp only at zy
            have TM := Lib.hid (fun nq => times12 n ao m c E s (wr.drewN nq) (n2.out.below (hrel.out.2.trans ((below_drewN (Below.refl _ _) nq).mono hrel.out.2.size))))
            have HS := Lib.hid hs
            have HO := hrel
            clear hs hrel
            obtain ⟨w5, rfl⟩ : ∃ w5 : World, w5 = wr := ⟨_, rfl⟩
            obtain ⟨tv, htv⟩ : ∃ tv, tv = u8 := ⟨_, rfl⟩
            rw [← htv] at HO ⊢
            clear htv
            go_wp2_with fail
            (refine region_order (fun i : Nat => World.drewN _ i) [] [0, 1, 2, 3, 4] 5 [6, 7, 8, 9, 10] mixed (by kernel_rfl) ⟨1, rfl⟩ ?_; simp only [List.map_cons, List.map_nil, Array.getD_eq_getD_getElem?, List.getElem?_toArray, List.getElem?_cons_zero, List.getElem?_cons_succ, Option.getD_some]; (repeat (refine wpPure_cons _ rfl (fun w' => by go_simp; try rfl) ?_; dsimp only [Act.put])); refine wpPure_nil ?_; (repeat (any_goals (first | go_big_quiet_step (fail) | quiet_step (fail) | (refine wpQuiet_step (fun K hK => ?_); go_simp; split <;> (refine hK _ ?_; clear hK K))))); (all_goals (refine wpQuiet_nil (fun nq => ?_))))
            go_wp2_with fail
            refine (TM.out nq).mono ?_
            rintro e w3 ⟨b3', htm⟩
            obtain ⟨b, rfl, hN⟩ : ∃ b : Nat, e = .returned (.tuple #[.slice (some ⟨b, 0, none⟩) n n, .int .i64 0]) ∧ Nums w3 w5.heap.size b n (sec (gr Ed.frm Ed.til n m E) s) := by
              rcases htm with ⟨h, _⟩ | ⟨_, h, _⟩ | ⟨n', s', b, _, hn', hs', _, _, he, hN⟩
              · exact absurd HX.out.symm h
              · simp [nodeB] at h; omega
              · obtain rfl : n = n' := by omega
                obtain rfl : s = s' := by omega
                exact ⟨b, he, by simpa using hN⟩
            have b3 : Below w5.heap.size w5 w3 := (below_drewN (Below.refl _ _) nq).trans (by simpa using b3')
            have B3 := Lib.hid b3
            have N3 := Lib.hid hN
            have zb3 := hN.lt.2
            clear hN b3 b3' htm y0 y1 zy e0 zz
            go_wp2_with fail
            refine onlyN_intro ?_
            go_wp2_with fail
            go_loopw [12, 13] (fun rv jv wr => ∃ j : Nat, jv = .int .i64 j ∧ j ≤ k ∧ Hid (IsL wr w3.heap.size rv (rowL K (sec (gr Ed.frm Ed.til n m E) s) j) ∧ Below w3.heap.size w3 wr)) (fun _ jv _ => k - (intOf jv).toNat)
            case atStart => exact ⟨0, rfl, by omega, IsL.nil _ _, Below.refl _ _⟩
            case round =>
              obtain ⟨j, rfl, hj, hrel⟩ := hrel
              have zs0 := HO.out.2.size
              have zs1 := B3.out.size
              have zs2 := hrel.out.2.size
              have BI := Lib.hid ((HO.out.2.trans (B3.out.mono zs0)).trans (hrel.out.2.mono (by omega)))
              by_cases hlt3 : j < k
              · obtain ⟨g', o', hao, hg', e1⟩ := (k2.out.below BI.out).cell hlt3
                cases hao
                obtain ⟨s', hs', hsn'⟩ := HKN.out j hlt3
                rw [hs'] at e1
                have zz := szs hg'
                have tj : (j : Int) < (k : Int) := by omega
                have ts' : (s' : Int) < (n : Int) := by omega
                have NB := N3.out.below hrel.out.2
                have p1 := NB.cell hsn'
                have z1 := szs NB.lt.2
                obtain ⟨ss, hss⟩ : ∃ ss, ss = sec (gr Ed.frm Ed.til n m E) s s' := ⟨_, rfl⟩
                rw [← hss] at p1
                have HRL : Hid (rowL K (sec (gr Ed.frm Ed.til n m E) s) (j + 1) = rowL K (sec (gr Ed.frm Ed.til n m E) s) j ++ [ss]) := Lib.hid (by rw [rowL_succ, hs', hss])
                have b6 : Below wr.heap.size wr (wr.alloc (.cells #[.int .i64 ss] 3)) := (Below.refl _ _).alloc (Nat.le_refl _) _
                have L6 := Lib.hid (hrel.out.1.below b6)
                have B6 := Lib.hid (hrel.out.2.trans (b6.mono zs2))
                have LL := Lib.hid (rowL_len K (sec (gr Ed.frm Ed.til n m E) s) j)
                clear NB hs' hss b6
                go_wp2_with (at_builtin; refine wpList_append_row _ rfl _ _ 27 rfl w3.heap.size 3 i1 _ 1 8 Try.underlying27 hi' hz0' hz1' hz2' rfl (by decide) _ _ (fun i => [.int .i64 ((rowL K (sec (gr Ed.frm Ed.til n m E) s) j).getD i 0)]) rfl L6.out (fun _ => rfl) wr.heap.size 1 [.int .i64 ss] rfl rfl 3 (0, 0) (heap_alloc_new wr _) (int_one _) (by rw [LL.out]; omega) (by rw [LL.out]; unfold maxLen; omega) B6.out.size ?_)
                intro g'' cap' w7 hc1' hc2' hbg' hgl' hown hr7 hg7
                have o7 := Off.of_grown hg7
                have l7 := IsL.of_push hr7
                rw [← HRL.out] at l7
                have L7 := Lib.hid l7
                have B7 := Lib.hid (B6.out.trans (o7.toBelow B6.out.size (fun b hb e => by have := (L6.out.own b e.symm).1; omega)))
                clear o7 hr7 hg7 hown l7
                go_wp2_with fail
                go_roundw
                case rel => exact ⟨j + 1, by go_num, by omega, L7.out, B7.out⟩
                case measure => simp [intOf]; omega
              · obtain rfl : j = k := by omega
                have hlen := rowL_len K (sec (gr Ed.frm Ed.til n m E) s) j
                obtain ⟨rb, rc, hrv, hrb, hrl, hrc, hrm⟩ : ∃ rb rc, u12 = .slice (some ⟨rb, 0, none⟩) j rc ∧ w3.heap.size ≤ rb ∧ rb < wr.heap.size ∧ j ≤ rc ∧ rc ≤ maxLen := by
                  rcases hrel.out.1.shape with ⟨_, h0⟩ | ⟨g, cap, h1, h2, h3, h4, h5⟩
                  · omega
                  · rw [hlen] at h1 h4; exact ⟨g, cap, h1, h2, h3, h4, h5⟩
                obtain ⟨hil, hib⟩ := hrel.out
                have HIL := hil
                subst hrv
                have NM : Hid (Nm (wr.alloc (.cells #[.slice (some ⟨rb, 0, none⟩) j rc] 27)) rb j (fun i => sec (gr Ed.frm Ed.til n m E) s (K i))) := Lib.hid (fun i hi => by
                  have h1 := hil.below ((Below.refl wr.heap.size wr).alloc (Nat.le_refl _) (.cells #[.slice (some ⟨rb, 0, none⟩) j rc] 27))
                  unfold IsL at h1
                  rw [hlen] at h1
                  have := Row.cell h1 (fun _ => rfl) hi (by decide : 0 < 1)
                  rw [Nat.mul_one, Nat.add_zero] at this
                  rw [this, rowL_at K _ hi]; rfl)
                have b6 : Below wr.heap.size wr (wr.alloc (.cells #[.slice (some ⟨rb, 0, none⟩) j rc] 27)) := (Below.refl _ _).alloc (Nat.le_refl _) _
                have BW0 : Below w5.heap.size w5 wr := B3.out.trans (hib.mono zs1)
                obtain ⟨A, hA1, hA2⟩ := (HO.out.1.below BW0).below b6
                have HA1 := Lib.hid hA1
                have HA2 := Lib.hid hA2
                have B6 := Lib.hid (BI.out.trans (b6.mono BI.out.size))
                have tvo := Lib.hid (HO.out.1.own)
                clear hA1 hA2 b6 BW0 hil hib HIL hrel hlen
                go_wp2_with (at_builtin; refine wpList_append_row _ rfl _ _ 34 rfl wo.heap.size 27 i0 _ 1 24 Try.underlying34 hi hz0 hz1 hz2 rfl (by decide) _ i (fun i => [.slice (some ⟨(A i).1, 0, none⟩) j (A i).2]) rfl HA1.out (fun _ => rfl) wr.heap.size 1 [.slice (some ⟨rb, 0, none⟩) j rc] rfl rfl 27 (0, 0) (heap_alloc_new wr _) (slice_one _ _ _) (by omega) (by unfold maxLen; omega) B6.out.size ?_)
                intro g'' cap' w7 hc1' hc2' hbg' hgl' hown hr7 hg7
                have o7 := Off.of_grown hg7
                have hne : tv.ownBlock ≠ some rb := fun e => by have := (tvo.out _ e).2; omega
                have TB := Lib.hid (Tab.push (T := fun i j => sec (gr Ed.frm Ed.til n m E) (K i) (K j)) HA2.out hr7 o7 (by
                  rcases hown with h | h
                  · left; rw [h]; rfl
                  · right; intro g hg; simp [Value.ownBlock] at hg; subst hg; simpa using h) (by omega) hne (by simp; omega) (by omega) (by unfold maxLen at hrm; omega) (by
                    have := NM.out; rw [show (fun i' => sec (gr Ed.frm Ed.til n m E) (K i) (K i')) = fun i => sec (gr Ed.frm Ed.til n m E) s (K i) from by rw [HS.out]]; exact this) (by omega))
                have B7 := Lib.hid (B6.out.trans (o7.toBelow B6.out.size (fun b hb e => by have := (tvo.out b e.symm).1; omega)))
                clear o7 hr7 hg7 hown
                go_wp2_with fail
                go_roundw
                case rel => exact ⟨i + 1, by go_num, by omega, TB.out, B7.out⟩
                case measure => simp [intOf]; omega
          · obtain rfl : i = k := by omega
            obtain ⟨hTb, hBb⟩ := hrel.out
            have HE := Lib.hid (hTb.base_mono (base := w.heap.size) BW.out.size)
            have HB := Lib.hid (BW.out.trans (hBb.mono BW.out.size))
            clear hTb hBb hrel
            go_wp2_with fail
            go_returns
            exact ⟨HB.out, .inr ⟨n, _, HT0.out, rfl, HR.out, hq64', rfl, HE.out⟩⟩
  · have h0' : (x != 0) = true := by simp [h0]
    have H0 := Lib.hid h0
    have HT : Hid (tabE N m E q K = x) := Lib.hid (by unfold tabE; rw [← HX.out, if_pos h0])
    clear h0
    go_enter Try.func17, Try.ntmps17
    go_wp2_with fail
    rw [← HW.out]
    clear HW
    refine HCK.out.mono ?_
    rintro e w1 ⟨rfl, b1⟩
    have B1 := Lib.hid b1
    clear b1
    go_wp2_with fail
    go_returns
    exact ⟨B0.out.trans (B1.out.mono B0.out.size), .inl ⟨by rw [HT.out]; exact H0.out, by rw [HT.out]; rfl⟩⟩
end Go.Proofs.Ytbmlnjdfnjjjhaa
