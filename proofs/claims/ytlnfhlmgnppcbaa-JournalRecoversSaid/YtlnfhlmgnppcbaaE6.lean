/- The reference's set of events; lists of events compared. -/
import Derived.Test.YtlnfhlmgnppcbaaE5
namespace Go.Proofs.Ytlnfhlmgnppcbaa
open Go.RowKit Go.ChangeShapes Go.WideShapes Go.Deep
set_option linter.unusedVariables false
set_option linter.unusedSimpArgs false
/-- Lists of events as they lie in memory. -/
abbrev EvSl (w : World) (ao : Option Addr) (n c : Nat) (F : Nat → Ev) : Prop := Sl w 9 ao n c (fun i => evs (F i))
theorem EvRow.toSl {w : World} {base n : Nat} {v : Value} {F : Nat → Ev} (h : EvRow w base v n F) : ∃ ao c, v = .slice ao n c ∧ EvSl w ao n c F := Row.toSl h (fun i => evs_len _)
set_option maxHeartbeats 4000000 in
theorem same21 (a1 : Option Addr) (n c1 : Nat) (F : Nat → Ev) (a2 : Option Addr) (m c2 : Nat) (G : Nat → Ev) (w : World) (h1 : EvSl w a1 n c1 F) (h2 : EvSl w a2 m c2 G) : Calls Try.prog 21 #[.slice a1 n c1, .slice a2 m c2] w fun e w' => e = .returned (.bool (decide (ents F n = ents G m))) ∧ Below w.heap.size w w' := by
  have q1 := h1.hm
  have q2 := h1.hc
  have q3 := h2.hm
  have q4 := h2.hc
  have H1 := Lib.hid h1
  have H2 := Lib.hid h2
  clear h1 h2
  obtain ⟨r, hr⟩ : ∃ r, r = decide (ents F n = ents G m) := ⟨_, rfl⟩
  rw [← hr]
  have HR := Lib.hid hr
  clear hr
  by_cases hnm : n = m
  · subst hnm
    have t0 : ((n : Int) != (n : Int)) = false := by simp
    go_enter Try.func21, Try.ntmps21
    go_wp2_with fail
    go_loopw [5] (fun s5 wr => ∃ j : Nat, s5 = .int .i64 j ∧ j ≤ n ∧ Hid ((∀ q, q < j → F q = G q) ∧ Below w.heap.size w wr)) (fun s5 _ => n - (intOf s5).toNat)
    case atStart => exact ⟨0, rfl, by omega, Lib.hid ⟨fun q hq => by omega, by (repeat' (first | (with_reducible exact Below.refl _ _) | (with_reducible assumption) | (with_reducible refine Below.drew ?_) | (with_reducible refine below_drewN ?_ _) | (with_reducible refine Below.alloc ?_ ?_ _) | (with_reducible refine Below.setCell ?_ ?_ _) | go_size))⟩⟩
    case round =>
      obtain ⟨j, rfl, hj, hrel⟩ := hrel
      by_cases hlt : j < n
      · have tj : (j : Int) < (n : Int) := by omega
        obtain ⟨g, o, rfl, hg, A1⟩ := evs_at (H1.out.below hrel.out.2) hlt
        obtain ⟨g2, o2, rfl, hg2, A2⟩ := evs_at (H2.out.below hrel.out.2) hlt
        have zg := szs hg
        have zg2 := szs hg2
        have EQ := fun w' => (eqEv (F j) (G j) w').2
        obtain ⟨b, hb⟩ : ∃ b, b = decide (F j = G j) := ⟨_, rfl⟩
        rw [← hb] at EQ
        have HB := Lib.hid hb
        obtain ⟨x, hx⟩ : ∃ x, x = F j := ⟨_, rfl⟩
        obtain ⟨y, hy⟩ : ∃ y, y = G j := ⟨_, rfl⟩
        rw [← hx] at A1 EQ
        rw [← hy] at A2 EQ
        unfold eC at EQ
        obtain ⟨x1, x2, x3, x4, x5, x6, x7, x8, x9⟩ := x
        obtain ⟨y1, y2, y3, y4, y5, y6, y7, y8, y9⟩ := y
        (have a0 := (A1).c0; have a1 := (A1).c1; have a2 := (A1).c2; have a3 := (A1).c3; have a4 := (A1).c4; have a5 := (A1).c5; have a6 := (A1).c6; have a7 := (A1).c7; have a8 := (A1).c8); (try dsimp only at a0 a1 a2 a3 a4 a5 a6 a7 a8)
        (have d0 := (A2).c0; have d1 := (A2).c1; have d2 := (A2).c2; have d3 := (A2).c3; have d4 := (A2).c4; have d5 := (A2).c5; have d6 := (A2).c6; have d7 := (A2).c7; have d8 := (A2).c8); (try dsimp only at d0 d1 d2 d3 d4 d5 d6 d7 d8)
        dsimp only at EQ
        have HREL := hrel
        clear A1 A2 hb hx hy hrel
        cases b
        · simp only [Bool.not_false] at EQ
          have e : r = false := by
            rw [HR.out]
            refine decide_eq_false fun h => ?_
            have h1 := congrArg (fun l => l[j]?) h
            simp only [ents_get hlt] at h1
            have := HB.out
            rw [Option.some.inj h1] at this
            simp at this
          have HRR := Lib.hid e
          clear e
          go_wp2_with fail
          (focus (refine region_all (fun i : Nat => World.drewN _ i) mixed (by kernel_rfl) ⟨1, rfl⟩ ?_; (repeat (any_goals (first | go_big_quiet_step (fail) | quiet_step (fail) | (refine wpQuiet_step (fun K hK => ?_); go_simp; split <;> (refine hK _ ?_; clear hK K))))); (all_goals (refine wpQuiet_nil (fun nq => ?_)))))
          go_wp2_with fail
          go_returns
          exact ⟨by rw [HRR.out]; rfl, by have := HREL.out.2; (have hszz := (this).size; (repeat' (first | (with_reducible exact Below.refl _ _) | (with_reducible assumption) | (with_reducible refine Below.drew ?_) | (with_reducible refine below_drewN ?_ _) | (with_reducible refine Below.alloc ?_ ?_ _) | (with_reducible refine Below.setCell ?_ ?_ _) | go_size)))⟩
        · simp only [Bool.not_true] at EQ
          go_wp2_with fail
          (focus (refine region_all (fun i : Nat => World.drewN _ i) mixed (by kernel_rfl) ⟨1, rfl⟩ ?_; (repeat (any_goals (first | go_big_quiet_step (fail) | quiet_step (fail) | (refine wpQuiet_step (fun K hK => ?_); go_simp; split <;> (refine hK _ ?_; clear hK K))))); (all_goals (refine wpQuiet_nil (fun nq => ?_)))))
          go_wp2_with fail
          go_roundw
          case rel =>
            refine ⟨j + 1, by go_num, by omega, Lib.hid ⟨fun q hq => ?_, by have := HREL.out.2; (have hszz := (this).size; (repeat' (first | (with_reducible exact Below.refl _ _) | (with_reducible assumption) | (with_reducible refine Below.drew ?_) | (with_reducible refine below_drewN ?_ _) | (with_reducible refine Below.alloc ?_ ?_ _) | (with_reducible refine Below.setCell ?_ ?_ _) | go_size)))⟩⟩
            by_cases h : q = j
            · subst h; exact of_decide_eq_true HB.out.symm
            · exact HREL.out.1 q (by omega)
          case measure => simp [intOf]; omega
      · obtain rfl : j = n := by omega
        have e : r = true := by rw [HR.out]; exact decide_eq_true (ents_congr hrel.out.1)
        have HRR := Lib.hid e
        have HREL := hrel
        clear hrel e
        go_wp2_with fail
        go_returns
        exact ⟨by rw [HRR.out]; rfl, HREL.out.2⟩
  · have t0 : ((n : Int) != (m : Int)) = true := by simp; omega
    have e : r = false := by rw [HR.out]; exact decide_eq_false (fun h => hnm (by have := congrArg List.length h; simpa [ents] using this))
    have HRR := Lib.hid e
    clear hnm e HR
    go_enter Try.func21, Try.ntmps21
    go_wp2_with fail
    go_returns
    exact ⟨by rw [HRR.out]; rfl, by (repeat' (first | (with_reducible exact Below.refl _ _) | (with_reducible assumption) | (with_reducible refine Below.drew ?_) | (with_reducible refine below_drewN ?_ _) | (with_reducible refine Below.alloc ?_ ?_ _) | (with_reducible refine Below.setCell ?_ ?_ _) | go_size))⟩
end Go.Proofs.Ytlnfhlmgnppcbaa
