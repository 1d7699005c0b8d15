/- Two lists compared; all values by the reference. Conditions: fewer than a million items. -/
import Derived.Test.YtknmmgijhlpedaaR3
namespace Go.Proofs.Ytknmmgijhlpedaa
open Go.RowKit
namespace QI
set_option linter.unusedVariables false
set_option linter.unusedSimpArgs false
theorem same21 (w : World) (b1 b2 : Nat) (v1 v2 : Value) (l : List T) (h1 : IL w b1 v1 l) (h2 : IL w b2 v2 l) :
    Calls Try.prog 21 #[v1, v2] w fun e w' => e = .returned (.bool true) ∧ Below w.heap.size w w' := by
  obtain ⟨a1, c1, rfl, n1, m1, s1, _⟩ := Row.sl h1 (lf_len l)
  obtain ⟨a2, c2, rfl, n2, m2, s2, _⟩ := Row.sl h2 (lf_len l)
  by_cases hl : l.length = 0
  · rw [hl]
    go_enter Try.func21, Try.ntmps21
    go_wp2_with fail
    refine wp_loop_rounds 1 ?_
    rw [rounds_succ]
    go_wp2_with fail
    go_returns
    exact ⟨rfl, by (repeat' (first | (with_reducible exact Below.refl _ _) | (with_reducible assumption) | (with_reducible refine Below.drew ?_) | (with_reducible refine below_drewN ?_ _) | (with_reducible refine Below.alloc ?_ ?_ _) | (with_reducible refine Below.setCell ?_ ?_ _) | go_size))⟩
  obtain ⟨g1, o1, rfl, _⟩ := s1.all (by omega)
  obtain ⟨g2, o2, rfl, _⟩ := s2.all (by omega)
  have S1 := Lib.hid s1
  have S2 := Lib.hid s2
  clear h1 h2 s1 s2
  go_enter Try.func21, Try.ntmps21
  go_wp2_with fail
  go_loopw [5] (fun i wr => ∃ k : Nat, k ≤ l.length ∧ i = .int .i64 k ∧ Below w.heap.size w wr) (fun i _ => l.length - (intOf i).toNat)
  case atStart => exact ⟨0, by omega, rfl, Below.refl _ _⟩
  case round =>
    obtain ⟨k, hk, rfl, hb⟩ := hrel
    by_cases hlt : k < l.length
    · obtain ⟨x0, x1⟩ := sl_cells (S1.out.below (lf_len _) hb) hlt
      obtain ⟨y0, y1⟩ := sl_cells (S2.out.below (lf_len _) hb) hlt
      have t1 : (k : Int) < (l.length : Int) := by omega
      have HB := Lib.hid hb
      clear hb
      generalize l.getD k default = x at *
      obtain ⟨xk, xt⟩ := x
      dsimp only at *
      go_wp2_with fail
      (refine region_all (fun i : Nat => World.drewN _ i) mixed (by kernel_rfl) ⟨1, rfl⟩ ?_; (repeat (any_goals (first | go_big_quiet_step (fail) | quiet_step (fail) | (refine wpQuiet_step (fun K hK => ?_); go_simp; split <;> (refine hK _ ?_; clear hK K))))); (all_goals (refine wpQuiet_nil (fun nq => ?_))))
      go_wp2_with fail
      go_roundw
      case rel =>
        have hb := HB.out
        exact ⟨k + 1, by omega, by go_num, by (have hszz := (hb).size; (repeat' (first | (with_reducible exact Below.refl _ _) | (with_reducible assumption) | (with_reducible refine Below.drew ?_) | (with_reducible refine below_drewN ?_ _) | (with_reducible refine Below.alloc ?_ ?_ _) | (with_reducible refine Below.setCell ?_ ?_ _) | go_size)))⟩
      case measure => simp [intOf]; omega
    · obtain rfl : k = l.length := by omega
      go_wp2_with fail
      go_returns
      exact ⟨rfl, hb⟩
end QI
end Go.Proofs.Ytknmmgijhlpedaa
