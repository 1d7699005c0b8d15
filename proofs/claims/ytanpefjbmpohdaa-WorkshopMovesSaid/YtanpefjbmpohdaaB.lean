/- How many mechanics have a skill; when a schedule ends. -/
import Derived.Test.YtanpefjbmpohdaaA
namespace Go.Proofs.Ytanpefjbmpohdaa
open Go.RowKit Go.ChangeShapes Go.WideShapes Go.Deep
set_option linter.unusedVariables false
set_option linter.unusedSimpArgs false
theorem Sl.mech {w : World} {ao : Option Addr} {m c : Nat} {M : Nat → Int} (h : Sl w 1 ao m c (mf M)) {i : Nat} (hi : i < m) : ∃ g o, ao = some ⟨g, o, none⟩ ∧ g < w.heap.size ∧ w.cell? ⟨g, o + i, none⟩ = some (.int .i64 (M i)) := by
  obtain ⟨g, o, e, hc⟩ := h.cell hi
  have h0 : w.cell? ⟨g, o + i * 1 + 0, none⟩ = some (.int .i64 (M i)) := hc 0 (by decide)
  rw [Nat.mul_one, Nat.add_zero] at h0
  exact ⟨g, o, e, cell_lt h0, h0⟩
theorem Sl.job {w : World} {ao : Option Addr} {m c : Nat} {J : Nat → Jb} (h : Sl w 3 ao m c (jf J)) {i : Nat} (hi : i < m) : ∃ g o, ao = some ⟨g, o, none⟩ ∧ g < w.heap.size ∧
    w.cell? ⟨g, o + i * 3, none⟩ = some (.int .i64 (J i).id) ∧ w.cell? ⟨g, o + i * 3 + 1, none⟩ = some (.int .i64 (J i).secs) ∧ w.cell? ⟨g, o + i * 3 + 2, none⟩ = some (.int .i64 (J i).skill) := by
  obtain ⟨g, o, e, hc⟩ := h.cell hi
  have h0 : w.cell? ⟨g, o + i * 3, none⟩ = some (.int .i64 (J i).id) := hc 0 (by decide)
  exact ⟨g, o, e, cell_lt h0, h0, hc 1 (by decide), hc 2 (by decide)⟩
theorem Sl.work {w : World} {ao : Option Addr} {m c : Nat} {L : Nat → Wk} (h : Sl w 4 ao m c (wf L)) {i : Nat} (hi : i < m) : ∃ g o, ao = some ⟨g, o, none⟩ ∧ g < w.heap.size ∧
    w.cell? ⟨g, o + i * 4, none⟩ = some (.int .i64 (L i).job) ∧ w.cell? ⟨g, o + i * 4 + 1, none⟩ = some (.int .i64 (L i).mech) ∧ w.cell? ⟨g, o + i * 4 + 2, none⟩ = some (.int .i64 (L i).frm) ∧ w.cell? ⟨g, o + i * 4 + 3, none⟩ = some (.int .i64 (L i).til) := by
  obtain ⟨g, o, e, hc⟩ := h.cell hi
  have h0 : w.cell? ⟨g, o + i * 4, none⟩ = some (.int .i64 (L i).job) := hc 0 (by decide)
  exact ⟨g, o, e, cell_lt h0, h0, hc 1 (by decide), hc 2 (by decide), hc 3 (by decide)⟩
/-- How many of the first n mechanics have the skill. -/
def cnt (M : Nat → Int) (s : Int) : Nat → Nat
  | 0 => 0
  | n + 1 => cnt M s n + if hasB (M n) s then 1 else 0
theorem cnt_le (M : Nat → Int) (s : Int) : ∀ n, cnt M s n ≤ n
  | 0 => Nat.le_refl _
  | n + 1 => by have := cnt_le M s n; unfold cnt; split <;> omega
set_option maxHeartbeats 1000000 in
theorem count29 (ao : Option Addr) (m c : Nat) (M : Nat → Int) (s : Int) (w : World) (h : Sl w 1 ao m c (mf M)) : Calls Try.prog 29 #[.slice ao m c, .int .i64 s] w fun e w' => e = .returned (.int .i64 (cnt M s m)) ∧ Below w.heap.size w w' := by
  have hmc := h.hm
  have hcc := h.hc
  have HS := Lib.hid h
  clear h
  go_enter Try.func29, Try.ntmps29
  go_wp2_with fail
  go_loopw [6, 5] (fun i n wr => ∃ j : Nat, i = .int .i64 j ∧ j ≤ m ∧ n = .int .i64 (cnt M s j) ∧ Hid (Below w.heap.size w wr)) (fun i _ _ => m - (intOf i).toNat)
  case atStart => exact ⟨0, rfl, by omega, rfl, Lib.hid (by (repeat' (first | (with_reducible exact Below.refl _ _) | (with_reducible assumption) | (with_reducible refine Below.drew ?_) | (with_reducible refine below_drewN ?_ _) | (with_reducible refine Below.alloc ?_ ?_ _) | (with_reducible refine Below.setCell ?_ ?_ _) | go_size)))⟩
  case round =>
    obtain ⟨j, rfl, hj, rfl, hrel⟩ := hrel
    by_cases hlt : j < m
    · have tj : (j : Int) < (m : Int) := by omega
      obtain ⟨g, o, rfl, hg, e0⟩ := (HS.out.below hrel.out).mech hlt
      have zg := szs hg
      have hl := cnt_le M s j
      have hn : cnt M s (j + 1) = cnt M s j + if hasB (M j) s then 1 else 0 := rfl
      have HN := Lib.hid hn
      obtain ⟨b, hb⟩ : ∃ b, b = hasB (M j) s := ⟨_, rfl⟩
      have HB := Lib.hid hb
      have HC := Lib.hid (has22 (M j) s wr)
      rw [← hb] at HC
      have B0 := Lib.hid hrel.out
      obtain ⟨wo, rfl⟩ : ∃ wo : World, wo = wr := ⟨_, rfl⟩
      clear hn hb hrel
      go_wp2_with fail
      refine HC.out.mono ?_
      rintro e w1 ⟨rfl, b1⟩
      have B1 := Lib.hid (B0.out.trans (b1.mono B0.out.size))
      clear b1
      cases b
      all_goals
        go_wp2_with fail
        go_roundw
        case rel => exact ⟨j + 1, by go_num, by omega, by rw [HN.out, ← HB.out]; go_num, B1⟩
        case measure => simp [intOf]; omega
    · obtain rfl : j = m := by omega
      go_wp2_with fail
      go_returns
      exact ⟨rfl, hrel.out⟩
/-- The greatest end. -/
def endL (L : Nat → Wk) : Nat → Int
  | 0 => 0
  | 1 => (L 0).til
  | n + 2 => max (endL L (n + 1)) (L (n + 1)).til
theorem endL_succ (L : Nat → Wk) (n : Nat) : endL L (n + 1) = if n = 0 then (L 0).til else max (endL L n) (L n).til := by
  cases n with
  | zero => rfl
  | succ n => rfl
set_option maxHeartbeats 1000000 in
theorem end18 (ao : Option Addr) (m c : Nat) (L : Nat → Wk) (w : World) (h : Sl w 4 ao m c (wf L)) : Calls Try.prog 18 #[.slice ao m c] w fun e w' => e = .returned (.int .i64 (endL L m)) ∧ Below w.heap.size w w' := by
  have hmc := h.hm
  have hcc := h.hc
  have HS := Lib.hid h
  clear h
  by_cases h0 : m = 0
  · subst h0
    go_enter Try.func18, Try.ntmps18
    go_wp2_with fail
    go_returns
    exact ⟨rfl, by (repeat' (first | (with_reducible exact Below.refl _ _) | (with_reducible assumption) | (with_reducible refine Below.drew ?_) | (with_reducible refine below_drewN ?_ _) | (with_reducible refine Below.alloc ?_ ?_ _) | (with_reducible refine Below.setCell ?_ ?_ _) | go_size))⟩
  · have t0 : ((m : Int) == 0) = false := by simp [h0]
    have tp : (0 : Int) < (m : Int) := by omega
    obtain ⟨g, o, rfl, hg, e0, e1, e2, e3⟩ := HS.out.work (show 0 < m by omega)
    rw [Nat.zero_mul, Nat.add_zero] at e0 e1 e2 e3
    have zg := szs hg
    go_enter Try.func18, Try.ntmps18
    go_wp2_with fail
    clear e0 e1 e2 e3 zg
    go_loopw [15, 3] (fun i n wr => ∃ j : Nat, i = .int .i64 j ∧ j ≤ m ∧ n = .int .i64 (if j = 0 then (L 0).til else endL L j) ∧ Hid (Below w.heap.size w wr)) (fun i _ _ => m - (intOf i).toNat)
    case atStart => exact ⟨0, rfl, by omega, rfl, Lib.hid (by (repeat' (first | (with_reducible exact Below.refl _ _) | (with_reducible assumption) | (with_reducible refine Below.drew ?_) | (with_reducible refine below_drewN ?_ _) | (with_reducible refine Below.alloc ?_ ?_ _) | (with_reducible refine Below.setCell ?_ ?_ _) | go_size)))⟩
    case round =>
      obtain ⟨j, rfl, hj, rfl, hrel⟩ := hrel
      by_cases hlt : j < m
      · have tj : (j : Int) < (m : Int) := by omega
        obtain ⟨_, _, e', hg, y0, y1, y2, y3⟩ := (HS.out.below hrel.out).work hlt
        cases e'
        have zg := szs hg
        have hn : Hid ((if j + 1 = 0 then (L 0).til else endL L (j + 1)) = max (if j = 0 then (L 0).til else endL L j) (L j).til) := Lib.hid (by
          rw [if_neg (by omega), endL_succ]
          by_cases hj0 : j = 0
          · subst hj0; simp
          · simp [hj0])
        generalize (if j = 0 then (L 0).til else endL L j) = q at *
        generalize (L j).til = r at *
        go_wp2_with fail
        go_roundw
        case rel => exact ⟨j + 1, by go_num, by omega, by rw [hn.out]; congr 1; split <;> omega, Lib.hid (by have := hrel.out; (have hszz := (this).size; (repeat' (first | (with_reducible exact Below.refl _ _) | (with_reducible assumption) | (with_reducible refine Below.drew ?_) | (with_reducible refine below_drewN ?_ _) | (with_reducible refine Below.alloc ?_ ?_ _) | (with_reducible refine Below.setCell ?_ ?_ _) | go_size))))⟩
        case measure => simp [intOf]; omega
      · obtain rfl : j = m := by omega
        go_wp2_with fail
        go_returns
        exact ⟨by simp [h0], hrel.out⟩
set_option maxHeartbeats 1000000 in
theorem end19 (ao : Option Addr) (m c : Nat) (L : Nat → Wk) (w : World) (h : Sl w 4 ao m c (wf L)) : Calls Try.prog 19 #[.slice ao m c] w fun e w' => e = .returned (.int .i64 (endL L m)) ∧ Below w.heap.size w w' := by
  have hmc := h.hm
  have hcc := h.hc
  have HS := Lib.hid h
  clear h
  go_enter Try.func19, Try.ntmps19
  go_wp2_with fail
  go_loopw [4, 3] (fun i n wr => ∃ j : Nat, i = .int .i64 j ∧ j ≤ m ∧ n = .int .i64 (endL L j) ∧ Hid (Below w.heap.size w wr)) (fun i _ _ => m - (intOf i).toNat)
  case atStart => exact ⟨0, rfl, by omega, rfl, Lib.hid (by (repeat' (first | (with_reducible exact Below.refl _ _) | (with_reducible assumption) | (with_reducible refine Below.drew ?_) | (with_reducible refine below_drewN ?_ _) | (with_reducible refine Below.alloc ?_ ?_ _) | (with_reducible refine Below.setCell ?_ ?_ _) | go_size)))⟩
  case round =>
    obtain ⟨j, rfl, hj, rfl, hrel⟩ := hrel
    by_cases hlt : j < m
    · have tj : (j : Int) < (m : Int) := by omega
      obtain ⟨g, o, rfl, hg, y0, y1, y2, y3⟩ := (HS.out.below hrel.out).work hlt
      have zg := szs hg
      have hn : Hid (endL L (j + 1) = if j = 0 then (L j).til else max (endL L j) (L j).til) := Lib.hid (by
        rw [endL_succ]
        by_cases hj0 : j = 0
        · subst hj0; rfl
        · simp [hj0])
      generalize endL L j = q at *
      generalize (L j).til = r at *
      by_cases hj0 : j = 0
      · subst hj0
        simp only [Nat.zero_mul, Nat.add_zero] at y0 y1 y2 y3
        go_wp2_with fail
        go_roundw
        case rel => exact ⟨1, by go_num, by omega, by rw [show endL L 1 = _ from hn.out, if_pos rfl], Lib.hid (by have := hrel.out; (have hszz := (this).size; (repeat' (first | (with_reducible exact Below.refl _ _) | (with_reducible assumption) | (with_reducible refine Below.drew ?_) | (with_reducible refine below_drewN ?_ _) | (with_reducible refine Below.alloc ?_ ?_ _) | (with_reducible refine Below.setCell ?_ ?_ _) | go_size))))⟩
        case measure => simp [intOf]; omega
      · have t0 : ((j : Int) == 0) = false := by simp [hj0]
        by_cases hq : q < r
        all_goals
          go_wp2_with fail
          go_roundw
          case rel => exact ⟨j + 1, by go_num, by omega, by rw [hn.out, if_neg hj0]; congr 1; omega, Lib.hid (by have := hrel.out; (have hszz := (this).size; (repeat' (first | (with_reducible exact Below.refl _ _) | (with_reducible assumption) | (with_reducible refine Below.drew ?_) | (with_reducible refine below_drewN ?_ _) | (with_reducible refine Below.alloc ?_ ?_ _) | (with_reducible refine Below.setCell ?_ ?_ _) | go_size))))⟩
          case measure => simp [intOf]; omega
    · obtain rfl : j = m := by omega
      go_wp2_with fail
      go_returns
      exact ⟨rfl, hrel.out⟩
end Go.Proofs.Ytanpefjbmpohdaa
