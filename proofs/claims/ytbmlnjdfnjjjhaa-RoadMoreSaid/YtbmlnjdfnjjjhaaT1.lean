/- The reference's rounds over all edges walked. Condition: the network is right. -/
import Derived.Test.YtbmlnjdfnjjjhaaT0
import Derived.BigRegion
namespace Go.Proofs.Ytbmlnjdfnjjjhaa
open Go.RowKit
set_option linter.unusedVariables false
set_option linter.unusedSimpArgs false
open Rd
def farTo (k : Nat) : Int → Int := fun i => if i < k then 1099511627776 else 0
theorem farTo_up (k : Nat) (i : Int) : upz (farTo k) k 1099511627776 i = farTo (k + 1) i := by
  unfold upz farTo
  by_cases e : i = k
  · subst e; simp; omega
  · by_cases e2 : i < k
    · rw [if_neg e, if_pos e2, if_pos (by omega)]
    · rw [if_neg e, if_neg e2, if_neg (by omega)]
set_option maxHeartbeats 4000000 in
set_option maxRecDepth 100000 in
theorem to26 (n m c : Nat) (ao : Option Addr) (E : Nat → Ed) (src : Nat) (w : World) (hw : Net w ao m c E) (hr : Right n m E) (hs : src < n) :
    Calls Try.prog 26 #[.agg #[.int .i64 n, .slice ao m c], .int .i64 src] w fun e w' => Far w n (gr Ed.til Ed.frm n m E) src e w' := by
  obtain ⟨w0, hw0⟩ : ∃ w0, w0 = w.alloc (.cells #[.int .i64 n, .slice ao m c] 24) := ⟨_, rfl⟩
  have b0 : Below w.heap.size w w0 := by rw [hw0]; exact (Below.refl _ _).alloc (Nat.le_refl _) _
  have x0 : w0.heap[w.heap.size]? = some (.cells #[.int .i64 n, .slice ao m c] 24) := by rw [hw0]; exact heap_alloc_new w _
  have n0 := Lib.hid (hw.below b0)
  have r0 : w0.cell? ⟨w.heap.size, 0, none⟩ = some (.int .i64 n) := cell_at x0 0
  have r1 : w0.cell? ⟨w.heap.size, 1, none⟩ = some (.slice ao m c) := cell_at x0 1
  have B0 := Lib.hid b0
  have HW := Lib.hid hw0
  have zb : w.heap.size < w0.heap.size := block_lt x0
  have hn2 := hr.n2
  have hn1 := hr.n1
  have hm512 := hr.m2
  have HR := Lib.hid hr
  have OK := Lib.hid hr.bwd
  have hsn : (src : Int) < (n : Int) := by omega
  have HS := Lib.hid (show 0 ≤ (src : Int) ∧ (src : Int) < ((gr Ed.til Ed.frm n m E).n : Int) from ⟨by omega, hsn⟩)
  have hM := mk27 n hn2
  obtain ⟨M, hm⟩ : ∃ M, M = madeCells #[.int .i64 0] (n * 1) := ⟨_, rfl⟩
  rw [← hm] at hM
  have HM := Lib.hid hm
  clear hw b0 x0 hw0 hr hs hm
  go_enter Try.func26, Try.ntmps26
  go_wp2_with fail
  rw [← HW.out]
  clear HW
  obtain ⟨ι, hne, Fw, fb, hF⟩ := grow_family w0
  have hF : ∀ w', (gPlan w0 (fun _ => undef) [] [] []).D () w' → ∃ i, w' = Fw i := hF
  have fr0 := fun i => cell_kept (fb i) r0
  (refine region_chain (gPlan w0 (fun _ => undef) [] [(2, fun b => .slice (some ⟨b, 0, none⟩) n n, .cells M 3), (5, fun b => .slice (some ⟨b, 0, none⟩) n n, .cells M 3)] []) () [] [0, 1, 2, 3, 4, 5, 6, 7] [] mixed (by kernel_rfl) (by kernel_rfl) (gPlan_ok (by simp) (by simp)) (gPlan_start _ _ _ _ _) ?_; refine wpPure_nil ?_; simp only [List.map_cons, List.map_nil, Array.getD_eq_getD_getElem?, List.getElem?_toArray, List.getElem?_cons_zero, List.getElem?_cons_succ, Option.getD_some])
  (repeat (refine wpChain_quiet hF rfl rfl rfl ?_; intro K hK; go_big_quiet_op; go_big_quiet_on))
  (refine wpChain_alloc _ _ rfl (List.mem_cons_self ..) rfl (fun w' => by go_simp) (fun b1 hb1 => ?_); simp only [Act.put, List.setIfInBounds_toArray, List.set_cons_succ, List.set_cons_zero])
  (repeat (refine wpChain_quiet hF rfl rfl rfl ?_; intro K hK; go_big_quiet_op; go_big_quiet_on))
  (refine wpChain_alloc _ _ rfl (List.mem_cons_of_mem _ (List.mem_cons_self ..)) rfl (fun w' => by go_simp) (fun b2 hb2 => ?_); simp only [Act.put, List.setIfInBounds_toArray, List.set_cons_succ, List.set_cons_zero])
  (repeat (refine wpChain_quiet hF rfl rfl rfl ?_; intro K hK; go_big_quiet_op; go_big_quiet_on))
  refine wpChain_nil (fun w4 hb4 hl4 => ?_)
  have hx1 : w4.heap[b1]? = some (.cells M 3) := (hl4.2 (2, b1, .cells M 3) (by simp)).2
  have hx2 : w4.heap[b2]? = some (.cells M 3) := (hl4.2 (5, b2, .cells M 3) (by simp)).2
  have hnd := hl4.1
  have hg1 : w0.heap.size ≤ b1 := (hl4.2 (2, b1, .cells M 3) (by simp)).1
  have hg2 : w0.heap.size ≤ b2 := (hl4.2 (5, b2, .cells M 3) (by simp)).1
  have hne12 : b1 ≠ b2 := by
    simp at hnd; first | exact hnd | exact fun e => hnd e.symm
  have hne12' : b2 ≠ b1 := fun e => hne12 e.symm
  have hb4 : Below w0.heap.size w0 w4 := hb4
  have y1 : Nums w4 w0.heap.size b1 n (fun _ => 0) := Row.of_made (z := #[.int .i64 0]) rfl (by decide) (by rw [← HM.out]; exact hx1) hg1 (by unfold maxLen; omega)
  have y2 : Nums w4 w0.heap.size b2 n (fun _ => 0) := Row.of_made (z := #[.int .i64 0]) rfl (by decide) (by rw [← HM.out]; exact hx2) hg2 (by unfold maxLen; omega)
  have f0 : ∀ i : Nat, (0 : Int) = farTo 0 i := fun i => by unfold farTo; rw [if_neg (by omega)]
  have T4 := Lib.hid (show Two w0 w4 b1 b2 n (farTo 0) (farTo 0) from ⟨y1.congr (fun i _ => f0 i), y2.congr (fun i _ => f0 i), hb4⟩)
  clear hb4 hl4 hx1 hx2 hnd hF fb fr0 y1 y2 hM HM f0
  refine onlyN_intro ?_
  go_wp2_with fail
  go_loopw [8] (fun i wr => ∃ k : Nat, i = .int .i64 k ∧ k ≤ n ∧ Hid (Two w0 wr b1 b2 n (farTo k) (farTo k))) (fun i _ => n - (intOf i).toNat)
  case atStart => exact ⟨0, rfl, by omega, T4.out⟩
  case round =>
    clear T4
    obtain ⟨k, rfl, hk, hrel⟩ := hrel
    have d0 := cell_kept hrel.out.hb r0
    have zd := szs (cell_lt d0)
    dsimp only at zd
    by_cases hlt : k < n
    · have tk : (k : Int) < (n : Int) := by omega
      have c1 := hrel.out.h1.cell hlt
      have c2 := hrel.out.h2.cell hlt
      have c3 := hrel.out.h1.free
      have c4 := hrel.out.h2.free
      have z1 := szs hrel.out.h1.lt.2
      have z2 := szs hrel.out.h2.lt.2
      have T5 := Lib.hid (hrel.out.set hne12 hlt 1099511627776 1099511627776)
      go_wp2_with fail
      go_roundw
      case rel => exact ⟨k + 1, by go_num, by omega, ⟨T5.out.h1.congr (fun i _ => farTo_up k i), T5.out.h2.congr (fun i _ => farTo_up k i), T5.out.hb⟩⟩
      case measure => simp [intOf]; omega
    · obtain rfl : k = n := by omega
      have c1 := hrel.out.h1.cell (i := src) (by omega)
      have c2 := hrel.out.h2.cell (i := src) (by omega)
      have c3 := hrel.out.h1.free
      have c4 := hrel.out.h2.free
      have z1 := szs hrel.out.h1.lt.2
      have z2 := szs hrel.out.h2.lt.2
      have ff : ∀ i : Nat, i < k → upz (farTo k) src 0 i = upz (fun _ => 1099511627776) src 0 i := fun i hi => by
        unfold upz farTo; by_cases e : (i : Int) = src
        · rw [if_pos e, if_pos e]
        · rw [if_neg e, if_neg e, if_pos (by omega)]
      have t5 := hrel.out.set hne12 (i := src) (by omega) 0 0
      have T5 := Lib.hid (show Two w0 _ b1 b2 k _ _ from ⟨t5.h1.congr ff, t5.h2.congr ff, t5.hb⟩)
      have BF := Lib.hid (Bf.start OK.out HS.out)
      clear ff t5 hrel
      go_wp2_with fail
      go_loopw [9] (fun i wr => ∃ (r : Nat) (sv ev : Int → Int), i = .int .i64 r ∧ r ≤ k ∧ Hid (Bf (gr Ed.til Ed.frm k m E) src r 0 sv ev ∧ Two w0 wr b1 b2 k sv ev)) (fun i _ => k - (intOf i).toNat)
      case atStart => exact ⟨0, _, _, rfl, by omega, BF.out, T5.out⟩
      case round =>
        clear T5 BF
        obtain ⟨r, sv, ev, rfl, hr, hrel⟩ := hrel
        have d0 := cell_kept hrel.out.2.hb r0
        have zd := szs (cell_lt d0)
        dsimp only at zd
        by_cases hrk : r < k
        · have tr : (r : Int) < (k : Int) := by omega
          have HO := hrel
          clear hrel
          go_wp2_with fail
          go_loopw [10] (fun i wr => ∃ (j : Nat) (sv ev : Int → Int), i = .int .i64 j ∧ j ≤ m ∧ Hid (Bf (gr Ed.til Ed.frm k m E) src r j sv ev ∧ Two w0 wr b1 b2 k sv ev)) (fun i _ => m - (intOf i).toNat)
          case atStart => exact ⟨0, sv, ev, rfl, by omega, HO.out⟩
          case round =>
            clear HO d0 zd
            obtain ⟨j, sv, ev, rfl, hj, hrel⟩ := hrel
            have d1 := cell_kept hrel.out.2.hb r1
            have zd := szs (cell_lt d1)
            dsimp only at zd
            by_cases hjm : j < m
            · obtain ⟨g, o, hao, hg, e0, e1, e2⟩ := (n0.out.below hrel.out.2.hb).cells hjm
              subst hao
              have zg := szs hg
              have tj : (j : Int) < (m : Int) := by omega
              have rj := HR.out.hs j hjm
              have hA : 0 ≤ (E j).til ∧ (E j).til < (k : Int) := OK.out.ha j hjm
              have hB : 0 ≤ (E j).frm ∧ (E j).frm < (k : Int) := OK.out.hb j hjm
              obtain ⟨ua, hua⟩ : ∃ u : Nat, (E j).til = (u : Int) := ⟨(E j).til.toNat, by omega⟩
              obtain ⟨ub, hub⟩ : ∃ u : Nat, (E j).frm = (u : Int) := ⟨(E j).frm.toNat, by omega⟩
              obtain ⟨sc, hsc⟩ : ∃ s, s = (E j).sec := ⟨_, rfl⟩
              have hak : ua < k := by omega
              have hbk : ub < k := by omega
              have tak : (ua : Int) < (k : Int) := by omega
              have tbk : (ub : Int) < (k : Int) := by omega
              rw [hub] at e0
              rw [hua] at e1
              rw [← hsc] at e2 rj
              obtain ⟨rj0, rj1⟩ := rj
              have big : r * m ≤ 64 * 512 := Nat.mul_le_mul (by omega) hm512
              have bd : ∀ v : Nat, v < k → (0 ≤ sv v ∧ sv v ≤ 1099511627776) ∧ 0 ≤ ev v ∧ ev v ≤ 1099511627776 := fun v hv => by
                rcases hrel.out.1.h1 (v : Int) (by omega) (show (v : Int) < (k : Int) by omega) with ⟨h1, h2⟩ | ⟨h1, h2⟩
                · omega
                · have := h1.nonneg OK.out; have h2 : sv v ≤ 1000 * ((r * m + j : Nat) : Int) := h2; omega
              have bda := bd ua hak
              have bdb := bd ub hbk
              have p1 := hrel.out.2.h1.cell hak
              have p2 := hrel.out.2.h2.cell hak
              have p3 := hrel.out.2.h1.cell hbk
              have p4 := hrel.out.2.h2.cell hbk
              have p5 := hrel.out.2.h1.free
              have p6 := hrel.out.2.h2.free
              have KEEP := Lib.hid (fun h => hrel.out.1.keep OK.out HS.out hn2 hjm h)
              have BET := Lib.hid (fun h1 h2 h3 => hrel.out.1.better OK.out HS.out hn2 hjm h1 h2 h3 (show r * m + j < 100000 by omega))
              have eA : (gr Ed.til Ed.frm k m E).a j = (ua : Int) := hua
              have eB : (gr Ed.til Ed.frm k m E).b j = (ub : Int) := hub
              have eC : (gr Ed.til Ed.frm k m E).c j = sc := hsc.symm
              rw [eA, eB, eC] at KEEP BET
              obtain ⟨su, hsu⟩ : ∃ x, x = sv ua := ⟨_, rfl⟩
              obtain ⟨eu, heu⟩ : ∃ x, x = ev ua := ⟨_, rfl⟩
              obtain ⟨sb, hsb⟩ : ∃ x, x = sv ub := ⟨_, rfl⟩
              obtain ⟨eb, heb⟩ : ∃ x, x = ev ub := ⟨_, rfl⟩
              rw [← hsu, ← heu, ← hsb, ← heb] at KEEP BET
              rw [← hsu, ← heu] at bda
              rw [← hsb, ← heb] at bdb
              rw [← hsu] at p1
              rw [← heu] at p2
              rw [← hsb] at p3
              rw [← heb] at p4
              obtain ⟨⟨a1, a2⟩, a3, a4⟩ := bda
              obtain ⟨⟨a5, a6⟩, a7, a8⟩ := bdb
              have z1 := szs hrel.out.2.h1.lt.2
              have z2 := szs hrel.out.2.h2.lt.2
              have TW := Lib.hid hrel.out.2
              clear hA hB hua hub hsc big bd hsu heu hsb heb eA eB eC hrel
              go_wp2_with fail
              (refine region_all (fun i : Nat => World.drewN _ i) mixed (by kernel_rfl) ⟨1, rfl⟩ ?_; (repeat (any_goals (first | go_big_quiet_step (fail) | quiet_step (fail) | (refine wpQuiet_step (fun K hK => ?_); go_simp; split <;> (refine hK _ ?_; clear hK K))))); (all_goals (refine wpQuiet_nil (fun nq => ?_))))
              obtain ⟨w5, hw5⟩ : ∃ w5, w5 = (wr.alloc (.cells #[.int .i64 ub, .int .i64 ua, .int .i64 sc] 43)).drewN nq := ⟨_, rfl⟩
              rw [← hw5]
              have b5 : Below wr.heap.size wr w5 := by rw [hw5]; exact below_drewN ((Below.refl _ _).alloc (Nat.le_refl _) _) _
              have x5 : w5.heap[wr.heap.size]? = some (.cells #[.int .i64 ub, .int .i64 ua, .int .i64 sc] 43) := by
                have hx := heap_alloc_new wr (.cells #[.int .i64 ub, .int .i64 ua, .int .i64 sc] 43)
                rw [hw5]; exact ((below_drewN (Below.refl _ _) nq).block _ (block_lt hx)).trans hx
              have nb1 : wr.heap.size ≠ b1 := by have := TW.out.h1.lt.2; omega
              have nb2 : wr.heap.size ≠ b2 := by have := TW.out.h2.lt.2; omega
              have nb3 : b1 ≠ wr.heap.size := fun e => nb1 e.symm
              have nb4 : b2 ≠ wr.heap.size := fun e => nb2 e.symm
              have q1 := cell_kept b5 p1
              have q2 := cell_kept b5 p2
              have q3 := cell_kept b5 p3
              have q4 := cell_kept b5 p4
              have T5 := TW.out.below b5
              have q5 := T5.h1.free
              have q6 := T5.h2.free
              have y0 : w5.cell? ⟨wr.heap.size, 0, none⟩ = some (.int .i64 ub) := cell_at x5 0
              have y1 : w5.cell? ⟨wr.heap.size, 1, none⟩ = some (.int .i64 ua) := cell_at x5 1
              have y2 : w5.cell? ⟨wr.heap.size, 2, none⟩ = some (.int .i64 sc) := cell_at x5 2
              have z3 := szs (block_lt x5)
              have z4 := szs T5.h1.lt.2
              have z5 := szs T5.h2.lt.2
              have HT5 := Lib.hid T5
              have TS := Lib.hid (T5.set hne12 hbk (su + sc) (eu + 1))
              clear hw5 b5 x5 T5 p1 p2 p3 p4 p5 p6 e0 e1 e2 z1 z2 d1 TW
              by_cases c1 : su = 1099511627776
              · subst c1
                have HK := Lib.hid (KEEP.out (.inl rfl))
                clear KEEP BET
                go_wp2_with fail
                go_roundw
                case rel => exact ⟨j + 1, sv, ev, by go_num, by omega, HK.out, HT5.out⟩
                case measure => simp [intOf]; omega
              · have c1' : su < 1099511627776 := by omega
                clear c1
                by_cases c2 : su + sc < sb
                · have HB := Lib.hid (BET.out c1' (.inl c2) a6)
                  clear KEEP BET
                  go_wp2_with fail
                  go_region
                  obtain ⟨w6, hw6⟩ : ∃ w6, w6 = ((w5.setCell ⟨b1, ub, none⟩ (.int .i64 (su + sc))).setCell ⟨b2, ub, none⟩ (.int .i64 (eu + 1))).drew := ⟨_, rfl⟩
                  rw [← hw6]
                  have T6 := Lib.hid (show Two w0 w6 b1 b2 k _ _ from by rw [hw6]; exact TS.out.below (Below.refl _ _).drew)
                  clear hw6
                  go_wp2_with fail
                  go_roundw
                  case rel => exact ⟨j + 1, _, _, by go_num, by omega, HB.out, T6.out⟩
                  case measure => simp [intOf]; omega
                · by_cases c3 : su + sc = sb ∧ eu + 1 < eb
                  · have HB := Lib.hid (BET.out c1' (.inr c3) a6)
                    obtain ⟨c3, c4⟩ := c3
                    have c2' : sb ≤ su + sc := by omega
                    have c3' : (su + sc == sb) = true := by simp [c3]
                    clear KEEP BET c2 c3
                    go_wp2_with fail
                    go_region
                    obtain ⟨w6, hw6⟩ : ∃ w6, w6 = ((w5.setCell ⟨b1, ub, none⟩ (.int .i64 (su + sc))).setCell ⟨b2, ub, none⟩ (.int .i64 (eu + 1))).drew := ⟨_, rfl⟩
                    rw [← hw6]
                    have T6 := Lib.hid (show Two w0 w6 b1 b2 k _ _ from by rw [hw6]; exact TS.out.below (Below.refl _ _).drew)
                    clear hw6
                    go_wp2_with fail
                    go_roundw
                    case rel => exact ⟨j + 1, _, _, by go_num, by omega, HB.out, T6.out⟩
                    case measure => simp [intOf]; omega
                  · have HK := Lib.hid (KEEP.out (.inr ⟨c1', by unfold leL; omega⟩))
                    have c2' : sb ≤ su + sc := by omega
                    have c4 : ((su + sc == sb) = true ∧ eb ≤ eu + 1) ∨ (su + sc == sb) = false := by
                      by_cases e : su + sc = sb
                      · exact .inl ⟨by simp [e], by omega⟩
                      · exact .inr (by simp [e])
                    clear KEEP BET c2 c3
                    rcases c4 with ⟨c4, c5⟩ | c4
                    all_goals
                      go_wp2_with fail
                      go_roundw
                      case rel => exact ⟨j + 1, sv, ev, by go_num, by omega, HK.out, HT5.out⟩
                      case measure => simp [intOf]; omega
            · obtain rfl : j = m := by omega
              have HE := Lib.hid (And.intro (hrel.out.1.round OK.out) hrel.out.2)
              go_wp2_with fail
              go_roundw
              case rel => exact ⟨r + 1, sv, ev, by go_num, by omega, HE.out⟩
              case measure => simp [intOf]; omega
        · obtain rfl : r = k := by omega
          have FIN := Lib.hid (fun (v : Int) (h0 : 0 ≤ v) (h1 : v < (r : Int)) => hrel.out.1.last OK.out HS.out hn2 h0 h1)
          have TW := Lib.hid hrel.out.2
          clear hrel
          go_wp2_with fail
          go_returns
          exact ⟨b1, b2, sv, ev, rfl, hne12, ⟨TW.out.h1.base_mono (by omega), TW.out.h2.base_mono (by omega), B0.out.trans (TW.out.hb.mono B0.out.size)⟩, FIN.out⟩
end Go.Proofs.Ytbmlnjdfnjjjhaa
