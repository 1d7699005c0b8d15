/- The comparison by number that Set hands to the sort. -/
import Derived.Test.YtlnfhlmgnppcbaaD
namespace Go.Proofs.Ytlnfhlmgnppcbaa
open Go.RowKit Go.ChangeShapes Go.WideShapes Go.Deep
set_option linter.unusedVariables false
set_option linter.unusedSimpArgs false
/-- The first of three that is not 0. -/
def orV (a b c : Int) : Int := if a = 0 then (if b = 0 then c else b) else a
theorem cmpD_or (v u : Ev) : cmpD v u = orV (cmp1 v.dev u.dev) (cmp1 v.seq u.seq) (cmpE v u) := by
  unfold cmpD keyD cmpL orV cmp1
  by_cases a1 : v.dev < u.dev
  · simp [a1]
  · by_cases a2 : u.dev < v.dev
    · simp [a1, a2]
    · simp only [a1, a2, if_false, if_true]
      unfold cmpL
      by_cases b1 : v.seq < u.seq
      · simp [b1]
      · by_cases b2 : u.seq < v.seq
        · simp [b1, b2]
        · simp only [b1, b2, if_false, if_true]; rfl
set_option maxHeartbeats 1000000 in
theorem or82 (b : Nat) (x y z : Int) (w : World) (h : w.heap[b]? = some (.cells #[.int .i64 x, .int .i64 y, .int .i64 z] 3 (0, 0))) : Calls Try.prog 82 #[.slice (some ⟨b, 0, none⟩) 3 3] w fun e w' => e = .returned (.int .i64 (orV x y z)) ∧ w = w' := by
  have c0 : w.cell? ⟨b, 0, none⟩ = some (.int .i64 x) := cell_at h 0
  have c1 : w.cell? ⟨b, 1, none⟩ = some (.int .i64 y) := cell_at h 1
  have c2 : w.cell? ⟨b, 2, none⟩ = some (.int .i64 z) := cell_at h 2
  have zb := szs (block_lt h)
  clear h
  obtain ⟨r, hr⟩ : ∃ r, r = orV x y z := ⟨_, rfl⟩
  rw [← hr]
  unfold orV at hr
  by_cases hx : x = 0
  · rw [if_pos hx] at hr
    have tx : (x != 0) = false := by simp [hx]
    by_cases hy : y = 0
    · rw [if_pos hy] at hr
      have ty : (y != 0) = false := by simp [hy]
      by_cases hz : z = 0
      · have tz : (z != 0) = false := by simp [hz]
        have HR := Lib.hid (hr.trans hz)
        clear hx hy hz hr
        go_enter Try.func82, Try.ntmps82
        go_wp2_with fail
        refine wp_loop_rounds 4 ?_
        iterate 4
          rw [rounds_succ]
          go_wp2_with fail
        go_returns
        exact ⟨by rw [HR.out]; rfl, rfl⟩
      · have tz : (z != 0) = true := by simp [hz]
        have HR := Lib.hid hr
        clear hx hy hz hr
        go_enter Try.func82, Try.ntmps82
        go_wp2_with fail
        refine wp_loop_rounds 4 ?_
        iterate 3
          rw [rounds_succ]
          go_wp2_with fail
        go_returns
        exact ⟨by rw [HR.out]; rfl, rfl⟩
    · rw [if_neg hy] at hr
      have ty : (y != 0) = true := by simp [hy]
      have HR := Lib.hid hr
      clear hx hy hr
      go_enter Try.func82, Try.ntmps82
      go_wp2_with fail
      refine wp_loop_rounds 4 ?_
      iterate 2
        rw [rounds_succ]
        go_wp2_with fail
      go_returns
      exact ⟨by rw [HR.out]; rfl, rfl⟩
  · rw [if_neg hx] at hr
    have tx : (x != 0) = true := by simp [hx]
    have HR := Lib.hid hr
    clear hx hr
    go_enter Try.func82, Try.ntmps82
    go_wp2_with fail
    refine wp_loop_rounds 4 ?_
    iterate 1
      rw [rounds_succ]
      go_wp2_with fail
    go_returns
    exact ⟨by rw [HR.out]; rfl, rfl⟩
end Go.Proofs.Ytlnfhlmgnppcbaa
