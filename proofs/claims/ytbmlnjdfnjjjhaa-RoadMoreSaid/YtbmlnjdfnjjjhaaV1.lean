/- The law's Walk: its time and end, or no. Condition: the network is right, at most 100 edges. -/
import Derived.Test.YtbmlnjdfnjjjhaaV0
import Derived.Test.YtbmlnjdfnjjjhaaZ0
namespace Go.Proofs.Ytbmlnjdfnjjjhaa
open Go.RowKit
set_option linter.unusedVariables false
set_option linter.unusedSimpArgs false
open Rd
def wv : Option (Int × Int) → Value
  | none => .tuple #[.int .i64 0, .int .i64 0, .bool false]
  | some (s, t) => .tuple #[.int .i64 s, .int .i64 t, .bool true]
theorem drop_get {l : List Int} {i : Nat} (h : i < l.length) : l.drop i = l.getD i 0 :: l.drop (i + 1) := by
  rw [List.drop_eq_getElem_cons h]; simp [List.getD, h]
theorem wkL_no {m : Nat} {E : Nat → Ed} {a x : Int} {l : List Int} (h : ¬ (0 ≤ x ∧ x < m ∧ (E x.toNat).frm = a)) : wkL m E a (x :: l) = none := by unfold wkL; rw [if_neg h]
theorem wkL_yes {m : Nat} {E : Nat → Ed} {a s : Int} {x : Nat} {l : List Int} (hx : x < m) (hf : (E x).frm = a) :
    (wkL m E a ((x : Int) :: l)).map (fun p => (s + p.1, p.2)) = (wkL m E (E x).til l).map (fun p => (s + (E x).sec + p.1, p.2)) := by
  rw [show wkL m E a ((x : Int) :: l) = (wkL m E (E x).til l).map (fun p => ((E x).sec + p.1, p.2)) from by
    show (if _ then _ else _) = _
    rw [if_pos ⟨by omega, by omega, by rw [Int.toNat_natCast]; exact hf⟩, Int.toNat_natCast]]
  rw [Option.map_map]
  congr 1
  funext p
  simp; omega
set_option maxHeartbeats 4000000 in
theorem walk22 (n m c : Nat) (ao : Option Addr) (E : Nat → Ed) (src : Int) (aw : Option Addr) (l : List Int) (cw : Nat) (w : World) (hw : Net w ao m c E) (hr : Right n m E) (hl : Ints w aw l.length (fun i => l.getD i 0)) (hc1 : l.length ≤ cw) (hc2 : cw ≤ 9223372036854775807) (hq : l.length ≤ 100) :
    Calls Try.prog 22 #[.agg #[.int .i64 n, .slice ao m c], .int .i64 src, .slice aw l.length cw] w fun e w' => e = .returned (wv (wkL m E src l)) ∧ Below w.heap.size w w' := by
  obtain ⟨w0, hw0⟩ : ∃ w0, w0 = w.alloc (.cells #[.int .i64 n, .slice ao m c] 24) := ⟨_, rfl⟩
  have b0 : Below w.heap.size w w0 := by rw [hw0]; exact (Below.refl _ _).alloc (Nat.le_refl _) _
  have x0 : w0.heap[w.heap.size]? = some (.cells #[.int .i64 n, .slice ao m c] 24) := by rw [hw0]; exact heap_alloc_new w _
  have n0 := Lib.hid (hw.below b0)
  have l0 := Lib.hid (hl.below b0)
  have r1 : w0.cell? ⟨w.heap.size, 1, none⟩ = some (.slice ao m c) := cell_at x0 1
  have B0 := Lib.hid b0
  have HW := Lib.hid hw0
  have zb : w.heap.size < w0.heap.size := block_lt x0
  have hm512 := hr.m2
  have HR := Lib.hid hr
  obtain ⟨q, hqq⟩ : ∃ q, q = l.length := ⟨_, rfl⟩
  rw [← hqq] at l0 hc1 hq ⊢
  have HQ := Lib.hid hqq
  clear hw b0 x0 hw0 hr hl hqq
  go_enter Try.func22, Try.ntmps22
  go_wp2_with fail
  rw [← HW.out]
  clear HW
  go_loopw [9, 10, 11] (fun sv av iv wr => ∃ (i : Nat) (s a : Int), sv = .int .i64 s ∧ av = .int .i64 a ∧ iv = .int .i64 i ∧ i ≤ q ∧ 0 ≤ s ∧ s ≤ 1000 * i ∧ Hid (wkL m E src l = (wkL m E a (l.drop i)).map (fun p => (s + p.1, p.2)) ∧ Below w0.heap.size w0 wr)) (fun _ _ iv _ => q - (intOf iv).toNat)
  case atStart => exact ⟨0, 0, src, rfl, rfl, rfl, by omega, by omega, by omega, by simp, Below.refl _ _⟩
  case round =>
    obtain ⟨i, s, a, rfl, rfl, rfl, hi, hs0, hs1, hrel⟩ := hrel
    have d1 := cell_kept hrel.out.2 r1
    have zd := szs (cell_lt d1)
    dsimp only at zd
    by_cases hlt : i < q
    · obtain ⟨g, o, hao, hg, e0⟩ := (l0.out.below hrel.out.2).cell hlt
      subst hao
      have zg := szs hg
      have ti : (i : Int) < (q : Int) := by omega
      have hdrop := drop_get (l := l) (i := i) (by rw [← HQ.out]; exact hlt)
      obtain ⟨x, hx⟩ : ∃ x, x = l.getD i 0 := ⟨_, rfl⟩
      rw [← hx] at e0 hdrop
      have HD := Lib.hid hdrop
      clear hdrop hx
      by_cases c1 : x < 0
      · have HN : Hid (wkL m E src l = none) := Lib.hid (by rw [hrel.out.1, HD.out, wkL_no (by omega)]; rfl)
        have B1 := Lib.hid (B0.out.trans (hrel.out.2.mono B0.out.size))
        go_wp2_with fail
        (refine region_all (fun i : Nat => World.drewN _ i) mixed (by kernel_rfl) ⟨1, rfl⟩ ?_; (repeat (any_goals (first | go_big_quiet_step (fail) | quiet_step (fail) | (refine wpQuiet_step (fun K hK => ?_); go_simp; split <;> (refine hK _ ?_; clear hK K))))); (all_goals (refine wpQuiet_nil (fun nq => ?_))))
        all_goals go_wp2_with fail
        all_goals go_returns
        exact ⟨by rw [HN.out]; rfl, B1.out.trans ((below_drewN (Below.refl _ _) nq).mono B1.out.size)⟩
      · have c1' : 0 ≤ x := by omega
        by_cases c2 : (m : Int) ≤ x
        · have HN : Hid (wkL m E src l = none) := Lib.hid (by rw [hrel.out.1, HD.out, wkL_no (by omega)]; rfl)
          have B1 := Lib.hid (B0.out.trans (hrel.out.2.mono B0.out.size))
          clear c1
          go_wp2_with fail
          (refine region_all (fun i : Nat => World.drewN _ i) mixed (by kernel_rfl) ⟨1, rfl⟩ ?_; (repeat (any_goals (first | go_big_quiet_step (fail) | quiet_step (fail) | (refine wpQuiet_step (fun K hK => ?_); go_simp; split <;> (refine hK _ ?_; clear hK K))))); (all_goals (refine wpQuiet_nil (fun nq => ?_))))
          all_goals go_wp2_with fail
          all_goals go_returns
          exact ⟨by rw [HN.out]; rfl, B1.out.trans ((below_drewN (Below.refl _ _) nq).mono B1.out.size)⟩
        · obtain ⟨y, rfl⟩ : ∃ y : Nat, x = (y : Int) := ⟨x.toNat, by omega⟩
          have hym : y < m := by omega
          have ty : (y : Int) < (m : Int) := by omega
          obtain ⟨g2, o2, hao2, hg2, f0, f1, f2⟩ := (n0.out.below hrel.out.2).cells hym
          subst hao2
          have zg2 := szs hg2
          have rj := HR.out.hs y hym
          have HNO := Lib.hid (fun h : (E y).frm ≠ a => (by rw [hrel.out.1, HD.out, wkL_no (by rw [Int.toNat_natCast]; exact fun h2 => h h2.2.2)]; rfl : wkL m E src l = none))
          have HYES := Lib.hid (fun h : (E y).frm = a => (by rw [hrel.out.1, HD.out, wkL_yes hym h] : wkL m E src l = (wkL m E (E y).til (l.drop (i + 1))).map (fun p => (s + (E y).sec + p.1, p.2))))
          generalize (E y).frm = ef at *
          generalize (E y).til = et at *
          generalize (E y).sec = es at *
          obtain ⟨rj0, rj1⟩ := rj
          have B1 := Lib.hid (B0.out.trans (hrel.out.2.mono B0.out.size))
          have HRB := Lib.hid hrel.out.2
          clear c1 c2 hrel
          by_cases c3 : ef = a
          · subst c3
            have HY := Lib.hid (HYES.out rfl)
            clear HYES HNO
            go_wp2_with fail
            (refine region_all (fun i : Nat => World.drewN _ i) mixed (by kernel_rfl) ⟨1, rfl⟩ ?_; (repeat (any_goals (first | go_big_quiet_step (fail) | quiet_step (fail) | (refine wpQuiet_step (fun K hK => ?_); go_simp; split <;> (refine hK _ ?_; clear hK K))))); (all_goals (refine wpQuiet_nil (fun nq => ?_))))
            obtain ⟨w5, hw5⟩ : ∃ w5, w5 = wr.drewN nq := ⟨_, rfl⟩
            go_wp2_with fail
            rw [← hw5]
            have b5 : Below wr.heap.size wr w5 := by rw [hw5]; exact below_drewN (Below.refl _ _) _
            have y0 := cell_kept b5 e0
            have y1 := cell_kept b5 f0
            have y2 := cell_kept b5 f1
            have y3 := cell_kept b5 f2
            have y4 := cell_kept b5 d1
            have z1 := szs (cell_lt y0)
            have z2 := szs (cell_lt y1)
            have z3 := szs (cell_lt y4)
            dsimp only at z1 z2 z3
            have B5 := Lib.hid b5
            clear hw5 b5 e0 f0 f1 f2 d1
            (refine region_all (fun i : Nat => World.drewN _ i) mixed (by kernel_rfl) ⟨1, rfl⟩ ?_; (repeat (any_goals (first | go_big_quiet_step (fail) | quiet_step (fail) | (refine wpQuiet_step (fun K hK => ?_); go_simp; split <;> (refine hK _ ?_; clear hK K))))); (all_goals (refine wpQuiet_nil (fun nq => ?_))))
            all_goals go_wp2_with fail
            all_goals go_roundw
            case rel => exact ⟨i + 1, s + es, et, rfl, rfl, by go_num, by omega, by omega, by omega, HY.out, (HRB.out.trans (B5.out.mono HRB.out.size)).trans ((below_drewN (Below.refl _ _) _).mono (by have := HRB.out.size; have := B5.out.size; omega))⟩
            case measure => simp [intOf]; omega
          · have c3' : (ef != a) = true := by simp [c3]
            have HN := Lib.hid (HNO.out c3)
            clear c3 HNO HYES
            go_wp2_with fail
            (refine region_all (fun i : Nat => World.drewN _ i) mixed (by kernel_rfl) ⟨1, rfl⟩ ?_; (repeat (any_goals (first | go_big_quiet_step (fail) | quiet_step (fail) | (refine wpQuiet_step (fun K hK => ?_); go_simp; split <;> (refine hK _ ?_; clear hK K))))); (all_goals (refine wpQuiet_nil (fun nq => ?_))))
            all_goals go_wp2_with fail
            all_goals go_returns
            exact ⟨by rw [HN.out]; rfl, B1.out.trans ((below_drewN (Below.refl _ _) nq).mono B1.out.size)⟩
    · obtain rfl : i = q := by omega
      have HY : Hid (wkL m E src l = some (s, a)) := Lib.hid (by rw [hrel.out.1, HQ.out, List.drop_length]; simp [wkL])
      have B1 := Lib.hid (B0.out.trans (hrel.out.2.mono B0.out.size))
      go_wp2_with fail
      go_returns
      exact ⟨by rw [HY.out]; rfl, B1.out⟩
end Go.Proofs.Ytbmlnjdfnjjjhaa
