/- Times of the reference. -/
import Derived.Test.YtbmlnjdfnjjjhaaT1
import Derived.Test.YtbmlnjdfnjjjhaaT3
import Derived.Test.YtbmlnjdfnjjjhaaB14
namespace Go.Proofs.Ytbmlnjdfnjjjhaa
open Go.RowKit
set_option linter.unusedVariables false
set_option linter.unusedSimpArgs false
open Rd
def bkE (E : Nat → Ed) : Nat → Ed := fun i => ⟨(E i).til, (E i).frm, (E i).sec⟩
theorem Right.back {n m : Nat} {E : Nat → Ed} (h : Right n m E) : Right n m (bkE E) := ⟨h.n1, h.n2, h.m2, h.ht, h.hf, h.hs⟩
theorem ef_one (E : Nat → Ed) (i : Nat) : ∀ u ∈ ef E i, u.oneCell' = true := by
  intro u hu
  simp [ef] at hu
  rcases hu with rfl | rfl | rfl <;> rfl
theorem info43 : (Try.prog.info? 43).map (fun i => (i.zero, i.size, i.bytes)) = some (some (.agg #[.int .i64 0, .int .i64 0, .int .i64 0]), 3, 24) := by kernel_rfl
/-- What was far is -1 now, up to k. -/
def unFar (f : Int → Int) (k : Nat) : Int → Int := fun i => if i < k then (if f i = 1099511627776 then -1 else f i) else f i
theorem unFar_yes {f : Int → Int} {k : Nat} (h : f k = 1099511627776) (i : Int) : upz (unFar f k) k (-1) i = unFar f (k + 1) i := by
  unfold upz unFar
  by_cases e : i = k
  · subst e; rw [if_pos rfl, if_pos (by omega), if_pos h]
  · by_cases e2 : i < k
    · rw [if_neg e, if_pos e2, if_pos (show i < ((k + 1 : Nat) : Int) by omega)]
    · rw [if_neg e, if_neg e2, if_neg (show ¬ i < ((k + 1 : Nat) : Int) by omega)]
theorem unFar_no {f : Int → Int} {k : Nat} (h : f k ≠ 1099511627776) (i : Int) : unFar f k i = unFar f (k + 1) i := by
  unfold unFar
  by_cases e : i = k
  · subst e; rw [if_neg (by omega), if_pos (by omega), if_neg h]
  · by_cases e2 : i < k
    · rw [if_pos e2, if_pos (show i < ((k + 1 : Nat) : Int) by omega)]
    · rw [if_neg e2, if_neg (show ¬ i < ((k + 1 : Nat) : Int) by omega)]
theorem unFar_at (f : Int → Int) (k : Nat) : unFar f k k = f k := by unfold unFar; rw [if_neg (by omega)]
set_option maxHeartbeats 4000000 in
set_option maxRecDepth 100000 in
theorem times12 (N : Int) (ao : Option Addr) (m c : Nat) (E : Nat → Ed) (src : Int) (w : World) (hw : Net w ao m c E) :
    Calls Try.prog 12 #[.agg #[.int .i64 N, .slice ao m c], .int .i64 src] w fun e w' => Tm N m E src w e w' := by
  obtain ⟨w0, hw0⟩ : ∃ w0, w0 = w.alloc (.cells #[.int .i64 N, .slice ao m c] 24) := ⟨_, rfl⟩
  have b0 : Below w.heap.size w w0 := by rw [hw0]; exact (Below.refl _ _).alloc (Nat.le_refl _) _
  have x0 : w0.heap[w.heap.size]? = some (.cells #[.int .i64 N, .slice ao m c] 24) := by rw [hw0]; exact heap_alloc_new w _
  have r0 : w0.cell? ⟨w.heap.size, 0, none⟩ = some (.int .i64 N) := cell_at x0 0
  have r1 : w0.cell? ⟨w.heap.size, 1, none⟩ = some (.slice ao m c) := cell_at x0 1
  have B0 := Lib.hid b0
  have HW := Lib.hid hw0
  have zb : w.heap.size < w0.heap.size := block_lt x0
  have n0 := Lib.hid (hw.below b0)
  have CK := check14 N ao m c E w0 n0.out
  obtain ⟨x, hx⟩ : ∃ x, x = roadE N m E := ⟨_, rfl⟩
  rw [← hx] at CK
  have HCK := Lib.hid CK
  have HX := Lib.hid hx
  clear hw b0 x0 hw0 CK hx
  by_cases h0 : x = 0
  · subst h0
    have ND := fun w1 => node21 N src (.slice ao m c) w1 rfl
    obtain ⟨q, hq⟩ : ∃ q, q = nodeB N src := ⟨_, rfl⟩
    rw [← hq] at ND
    have HND := Lib.hid ND
    have HQ := Lib.hid hq
    clear ND hq
    go_enter Try.func12, Try.ntmps12
    go_wp2_with fail
    rw [← HW.out]
    clear HW
    refine HCK.out.mono ?_
    rintro e w1 ⟨rfl, b1⟩
    have d0 := cell_kept b1 r0
    have d1 := cell_kept b1 r1
    have zd := szs (cell_lt d0)
    dsimp only at zd
    have B1 := Lib.hid b1
    have n1 := Lib.hid (n0.out.below b1)
    clear b1
    go_wp2_with fail
    refine (HND.out _).mono ?_
    rintro e w2 ⟨rfl, b2⟩
    have e0 := cell_kept b2 d0
    have e1 := cell_kept b2 d1
    have ze := szs (cell_lt e0)
    dsimp only at ze
    have B2 := Lib.hid ((B0.out.trans (B1.out.mono B0.out.size)).trans (b2.mono (by have := B0.out.size; have := B1.out.size; omega)))
    have n2 := Lib.hid (n1.out.below b2)
    clear b2 d0 d1 zd
    cases q
    · go_wp2_with fail
      go_returns
      exact ⟨B2.out, .inr (.inl ⟨HX.out.symm, HQ.out.symm, rfl⟩)⟩
    · obtain ⟨n, hn, hr⟩ := right_of HX.out.symm
      have hq : 0 ≤ src ∧ src < N := by have := HQ.out; simp [nodeB] at this; exact this
      obtain ⟨s, hs⟩ : ∃ s : Nat, src = (s : Int) := ⟨src.toNat, by omega⟩
      subst hn hs
      have hsn : s < n := by omega
      have hm512 := hr.m2
      have hn64 := hr.n2
      have HR := Lib.hid hr
      obtain ⟨i0, hi, hz0, hz1, hz2⟩ := info_parts info43
      clear hr hq r0 r1
      go_wp2_with fail
      obtain ⟨w3, hw3⟩ : ∃ w3, w3 = w2.alloc (.cells #[.int .i64 n, .slice none 0 0] 24) := ⟨_, rfl⟩
      rw [← hw3]
      have b3 : Below w2.heap.size w2 w3 := by rw [hw3]; exact (Below.refl _ _).alloc (Nat.le_refl _) _
      have x3 : w3.heap[w2.heap.size]? = some (.cells #[.int .i64 n, .slice none 0 0] 24) := by rw [hw3]; exact heap_alloc_new w2 _
      have X3 := Lib.hid x3
      have B3 := Lib.hid b3
      clear hw3 x3 b3
      go_loopw [8] (fun i wr => ∃ (k : Nat) (v : Value), i = .int .i64 k ∧ k ≤ m ∧ Hid (wr.heap[w2.heap.size]? = some (.cells #[.int .i64 n, v] 24) ∧ Row wr w2.heap.size 43 3 v k (ef (bkE E)) ∧ v.ownBlock ≠ some w2.heap.size ∧ Below w2.heap.size w2 wr)) (fun i _ => m - (intOf i).toNat)
      case atStart => exact ⟨0, .slice none 0 0, rfl, by omega, X3.out, World.ownsRow_nil _ _ _ _, by simp [Value.ownBlock], B3.out⟩
      case round =>
        clear X3 B3
        obtain ⟨k, v, rfl, hk, hrel⟩ := hrel
        have g0 := cell_kept hrel.out.2.2.2 e0
        have g1 := cell_kept hrel.out.2.2.2 e1
        have zg := szs (cell_lt g0)
        dsimp only at zg
        have y0 : wr.cell? ⟨w2.heap.size, 0, none⟩ = some (.int .i64 n) := cell_at hrel.out.1 0
        have y1 : wr.cell? ⟨w2.heap.size, 1, none⟩ = some v := cell_at hrel.out.1 1
        have zy := szs (block_lt hrel.out.1)
        by_cases hlt : k < m
        · obtain ⟨g, o, hao, hg, p0, p1, p2⟩ := (n2.out.below hrel.out.2.2.2).cells hlt
          subst hao
          have zp := szs hg
          have tk : (k : Int) < (m : Int) := by omega
          have HEK : Hid (ef (bkE E) k = [.int .i64 (E k).til, .int .i64 (E k).frm, .int .i64 (E k).sec]) := Lib.hid rfl
          generalize (E k).frm = f0 at *
          generalize (E k).til = f1 at *
          generalize (E k).sec = f2 at *
          obtain ⟨ι, hne, Fw, fb, hF⟩ := grow_family wr
          have hF : ∀ w', (gPlan wr (fun _ => undef) [] [] []).D () w' → ∃ i, w' = Fw i := hF
          have fg1 := fun i => cell_kept (fb i) g1
          have fy1 := fun i => cell_kept (fb i) y1
          have fp0 := fun i => cell_kept (fb i) p0
          have fp1 := fun i => cell_kept (fb i) p1
          have fp2 := fun i => cell_kept (fb i) p2
          go_wp2_with fail
          refine region_chain (gPlan wr (fun _ => undef) [] [(21, fun b => .slice (some ⟨b, 0, none⟩) 1 1, .cells #[.int .i64 f1, .int .i64 f0, .int .i64 f2] 43)] []) () [] [0, 1, 2, 3, 4, 5, 6, 7, 8, 9, 10, 11, 12, 13, 14, 15, 16, 17, 18, 19, 20, 21] [22, 23, 24] mixed (by kernel_rfl) (by kernel_rfl) (gPlan_ok (by simp) (by simp)) (gPlan_start _ _ _ _ _) ?_
          refine wpPure_nil ?_
          simp only [List.map_cons, List.map_nil, Array.getD_eq_getD_getElem?, List.getElem?_toArray, List.getElem?_cons_zero, List.getElem?_cons_succ, Option.getD_some]
          (repeat (refine wpChain_quiet hF rfl rfl rfl ?_; intro K hK; go_big_quiet_op; go_big_quiet_on))
          (refine wpChain_alloc _ _ rfl (List.mem_cons_self ..) rfl (fun w' => by go_simp) (fun b1 hb1 => ?_); simp only [Act.put, List.setIfInBounds_toArray, List.set_cons_succ, List.set_cons_zero])
          refine wpChain_nil (fun w4 hb4 hl4 => ?_)
          have hx1 : w4.heap[b1]? = some (.cells #[.int .i64 f1, .int .i64 f0, .int .i64 f2] 43) := (hl4.2 (21, b1, .cells #[.int .i64 f1, .int .i64 f0, .int .i64 f2] 43) (by simp)).2
          have hb4 : Below wr.heap.size wr w4 := hb4
          have r4 := Row.off (X := fun _ => False) hrel.out.2.1 (Off.of_below hb4) (fun _ _ h => h)
          have X4 := Lib.hid ((hb4.block _ (block_lt hrel.out.1)).trans hrel.out.1)
          have B4 := Lib.hid (hrel.out.2.2.2.trans (hb4.mono hrel.out.2.2.2.size))
          have HX1 := Lib.hid hx1
          have HV := Lib.hid hrel.out.2.2.1
          have R4 := Lib.hid r4
          clear hb4 hl4 hF fb fg1 fy1 fp0 fp1 fp2 hx1 r4 p0 p1 p2 y0 y1 g0 g1 hrel
          go_wp2_with (at_builtin; refine wpList_append_row _ rfl _ _ 22 rfl w2.heap.size 43 i0 _ 3 24 Try.underlying22 hi hz0 hz1 hz2 rfl (by decide) _ k (ef (bkE E)) rfl R4.out (ef_len _) b1 1 [.int .i64 f1, .int .i64 f0, .int .i64 f2] rfl rfl 43 (0, 0) HX1.out (by rw [← HEK.out]; exact ef_one _ _) (by omega) (by unfold maxLen; omega) B4.out.size ?_)
          intro g' cap wA hcap hcap2 hbg hgl hown hrA hgr
          have OA := Off.of_grown hgr
          have xA := (OA.block _ (block_lt X4.out) (fun h => HV.out h.symm)).trans X4.out
          have hgq : g' ≠ w2.heap.size := fun e => by
            rcases hown with h | h
            · exact HV.out (by rw [h, e])
            · have := block_lt X4.out; omega
          have a0 : wA.frozen? ⟨w2.heap.size, 1, none⟩ = false := free_at xA 1
          have a1 : wA.cell? ⟨w2.heap.size, 1, none⟩ = some v := cell_at xA 1
          have oB : Off (fun b => b = w2.heap.size) wA (wA.setCell ⟨w2.heap.size, 1, none⟩ (.slice (some ⟨g', 0, none⟩) (k + 1) cap)) := (Off.refl (fun b => b = w2.heap.size) wA).setCell (fun _ => rfl) _
          have xB : (wA.setCell ⟨w2.heap.size, 1, none⟩ (.slice (some ⟨g', 0, none⟩) (k + 1) cap)).heap[w2.heap.size]? = some (.cells #[.int .i64 n, .slice (some ⟨g', 0, none⟩) (k + 1) cap] 24) := by
            rw [setCell_at xA, setAt_same (block_lt xA)]; rfl
          have rB : Row (wA.setCell ⟨w2.heap.size, 1, none⟩ (.slice (some ⟨g', 0, none⟩) (k + 1) cap)) w2.heap.size 43 3 (.slice (some ⟨g', 0, none⟩) (k + 1) cap) (k + 1) (ef (bkE E)) :=
            Row.congr (Row.off hrA oB (fun g hg h => by cases hg; exact hgq h)) (fun j _ => by
              by_cases e : j = k
              · subst e; rw [upd_same, HEK.out]
              · rw [upd_ne e])
          have BB := (B4.out.trans (OA.toBelow B4.out.size (fun b hb h => by have := (World.ownsRow.lt R4.out b h.symm).1; omega))).trans (oB.toBelow (by have := B4.out.size; have := OA.size; omega) (fun b hb h => by omega))
          have HE := Lib.hid (And.intro xB (And.intro rB (And.intro (show (Value.slice (some ⟨g', 0, none⟩) (k + 1) cap).ownBlock ≠ some w2.heap.size by simp [Value.ownBlock]; exact hgq) BB)))
          clear OA xA oB xB rB BB hgr hrA hown
          go_wp2_with fail
          refine onlyN_intro ?_
          go_wp2_with fail
          go_roundw
          case rel => exact ⟨k + 1, _, by go_num, by omega, HE.out⟩
          case measure => simp [intOf]; omega
        · obtain rfl : k = m := by omega
          obtain ⟨a', c', rfl, hc1, hc2, hsl, _⟩ := Row.sl hrel.out.2.1 (ef_len _)
          have TO := Lib.hid (to26 n k c' a' (bkE E) s wr ⟨hc1, hc2, hsl⟩ HR.out.back hsn)
          have BB := Lib.hid (B2.out.trans (hrel.out.2.2.2.mono B2.out.size))
          clear hsl hrel
          go_wp2_with fail
          refine TO.out.mono ?_
          rintro e w5 ⟨b1, b2, sv, ev, rfl, hne, htw, hfin⟩
          have FIN := Lib.hid hfin
          have TW := Lib.hid htw
          clear hfin htw
          go_wp2_with fail
          go_loopw [11] (fun i wr' => ∃ j : Nat, i = .int .i64 j ∧ j ≤ n ∧ Hid (Nums wr' wr.heap.size b1 n (unFar sv j) ∧ Below wr.heap.size wr wr')) (fun i _ => n - (intOf i).toNat)
          case atStart => exact ⟨0, rfl, by omega, TW.out.h1.congr (fun i _ => by unfold unFar; rw [if_neg (by omega)]), TW.out.hb⟩
          case round =>
            obtain ⟨j, rfl, hj, hrel⟩ := hrel
            rename_i wq _
            by_cases hlt : j < n
            · have tj : (j : Int) < (n : Int) := by omega
              have p1 := hrel.out.1.cell hlt
              rw [unFar_at] at p1
              have p2 := hrel.out.1.free
              have zp := szs hrel.out.1.lt.2
              by_cases hf : sv j = 1099511627776
              · have u := hrel.out.1.set hlt (-1)
                have HE := Lib.hid (And.intro (u.congr (fun i _ => unFar_yes hf i)) (hrel.out.2.setCell (p := ⟨b1, j, none⟩) hrel.out.1.lt.1 (.int .i64 (-1))))
                have HF := Lib.hid hf
                rw [hf] at p1
                clear hf u
                go_wp2_with fail
                go_roundw
                case rel => exact ⟨j + 1, by go_num, by omega, HE.out⟩
                case measure => simp [intOf]; omega
              · have hf' : (sv j == 1099511627776) = false := by simp [hf]
                have HE := Lib.hid (And.intro (hrel.out.1.congr (fun i _ => unFar_no hf i)) hrel.out.2)
                generalize sv j = sj at *
                clear hf
                go_wp2_with fail
                go_roundw
                case rel => exact ⟨j + 1, by go_num, by omega, HE.out⟩
                case measure => simp [intOf]; omega
            · obtain rfl : j = n := by omega
              have HE := Lib.hid ((hrel.out.1.congr (f' := sec (gr Ed.frm Ed.til j k E) s) (fun i hi => by
                unfold unFar
                rw [if_pos (by omega)]
                have f := FIN.out (i : Int) (by omega) (by omega)
                by_cases hc : Rd.Can (gr Ed.til Ed.frm j k (bkE E)) s i
                · have e := (f.1 hc).1
                  have lt := (best_far HR.out.back.bwd ⟨by omega, by show (s : Int) < (j : Int); omega⟩ hn64 hc.best).1
                  rw [if_neg (by omega), e]; rfl
                · have e := (f.2 hc).1
                  rw [if_pos e]; exact (not_can hc).1.symm)).base_mono (base := w.heap.size) (by have := BB.out.size; omega))
              have HB := Lib.hid (BB.out.trans (hrel.out.2.mono BB.out.size))
              go_wp2_with fail
              go_returns
              exact ⟨HB.out, .inr (.inr ⟨j, s, b1, HX.out.symm, rfl, rfl, hsn, HR.out, rfl, HE.out⟩)⟩
  · have h0' : (x != 0) = true := by simp [h0]
    have H0 := Lib.hid h0
    clear h0
    go_enter Try.func12, Try.ntmps12
    go_wp2_with fail
    rw [← HW.out]
    clear HW
    refine HCK.out.mono ?_
    rintro e w1 ⟨rfl, b1⟩
    have B1 := Lib.hid b1
    clear b1
    go_wp2_with fail
    go_returns
    exact ⟨B0.out.trans (B1.out.mono B0.out.size), .inl ⟨by rw [← HX.out]; exact H0.out, by rw [← HX.out]; rfl⟩⟩
end Go.Proofs.Ytbmlnjdfnjjjhaa
