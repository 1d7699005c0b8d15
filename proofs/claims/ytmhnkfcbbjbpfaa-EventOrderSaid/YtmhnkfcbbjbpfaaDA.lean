/- Contracts of the small functions of layer drift: a moment, a rate, the bounds of what has passed; the checks of a list of synchronizations. No condition but the arguments' own ranges. -/
import Derived.Test.YtmhnkfcbbjbpfaaProg
import Derived.Test.YtmhnkfcbbjbpfaaA
import Derived.BigQuiet
import Derived.WalkLawsBesides
namespace Go.Proofs.Ytmhnkfcbbjbpfaa
open Go.RowKit
set_option linter.unusedVariables false
set_option linter.unusedSimpArgs false


/-- A moment. -/
def isMom (t : Int) : Bool := decide (0 ≤ t) && decide (t ≤ 4294943999)
/-- A rate. -/
def isRate (p : Int) : Bool := decide (0 ≤ p) && decide (p ≤ 100000)
theorem isMom_yes {t : Int} (h : 0 ≤ t ∧ t ≤ 4294943999) : isMom t = true := by simp [isMom, h]
theorem isMom_iff {t : Int} : isMom t = true ↔ 0 ≤ t ∧ t ≤ 4294943999 := by simp [isMom]
theorem isRate_iff {t : Int} : isRate t = true ↔ 0 ≤ t ∧ t ≤ 100000 := by simp [isRate]
theorem isMom_no {t : Int} : isMom t = false ↔ t < 0 ∨ 4294943999 < t := by simp [isMom]; omega
theorem isRate_no {t : Int} : isRate t = false ↔ t < 0 ∨ 100000 < t := by simp [isRate]; omega

theorem moment64 (t : Int) (w : World) : Calls Try.prog 64 #[.int .i64 t] w fun e w' => e = .returned (.bool (isMom t)) ∧ w = w' := by
  go_enter Try.func64, Try.ntmps64
  go_wp2
  all_goals go_returns
  all_goals exact ⟨by simp [isMom, *]; try omega, rfl⟩
theorem rate63 (t : Int) (w : World) : Calls Try.prog 63 #[.int .i64 t] w fun e w' => e = .returned (.bool (isRate t)) ∧ w = w' := by
  go_enter Try.func63, Try.ntmps63
  go_wp2
  all_goals go_returns
  all_goals exact ⟨by simp [isRate, *]; try omega, rfl⟩

/-- The least and the greatest number of true seconds. -/
def elLo (s p : Int) : Int := s * 1000000 / (1000000 + p)
def elHi (s p : Int) : Int := (s * 1000000 + (1000000 - p) - 1) / (1000000 - p)
def spanV (lo hi : Int) : Value := .agg #[.int .i64 lo, .int .i64 hi]

theorem elapsed66 (s p : Int) (w : World) (h0 : 0 ≤ s) (h1 : s ≤ 4294943999) (h2 : 0 ≤ p) (h3 : p ≤ 100000) :
    Calls Try.prog 66 #[.int .i64 s, .int .i64 p] w fun e w' => e = .returned (.agg #[.int .i64 (elLo s p), .int .i64 (elHi s p)]) ∧ Below w.heap.size w w' := by
  go_enter Try.func66, Try.ntmps66
  go_wp2
  (refine region_drawn 13 mixed (by kernel_rfl) ?_; simp only [List.take_succ_cons, List.take_zero, List.drop_succ_cons, List.drop_zero]; (repeat (any_goals (first | go_big_quiet_step (fail) | quiet_step (fail) | (refine wpQuiet_step (fun K hK => ?_); go_simp; split <;> (refine hK _ ?_; clear hK K))))); (all_goals (refine wpQuiet_nil (fun nq => ?_))))
  go_wp2
  go_returns
  exact ⟨rfl, by (repeat' (first | (with_reducible exact Below.refl _ _) | (with_reducible assumption) | (with_reducible refine Below.drew ?_) | (with_reducible refine below_drewN ?_ _) | (with_reducible refine Below.alloc ?_ ?_ _) | (with_reducible refine Below.setCell ?_ ?_ _) | go_size))⟩

/-- What Elapsed hands back. -/
def elapsedV (s p : Int) : Value := if isMom s = true ∧ isRate p = true then .tuple #[.agg #[.int .i64 (elLo s p), .int .i64 (elHi s p)], .int .i64 0] else .tuple #[.agg #[.int .i64 0, .int .i64 0], .int .i64 1]

end Go.Proofs.Ytmhnkfcbbjbpfaa
