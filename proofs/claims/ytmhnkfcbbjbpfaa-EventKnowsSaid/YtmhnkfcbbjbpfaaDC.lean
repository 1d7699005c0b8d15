/- Contracts: both checks of a list of synchronizations. -/
import Derived.Test.YtmhnkfcbbjbpfaaDB
namespace Go.Proofs.Ytmhnkfcbbjbpfaa
open Go.RowKit
set_option linter.unusedVariables false
set_option linter.unusedSimpArgs false

theorem ret_int {k : IntKind} {a b : Int} (h : a = b) : Ending.returned (.int k a) = .returned (.int k b) := by rw [h]
theorem syncE_bad {len : Nat} {L : Nat → Sy} (c0 : ¬ len = 0) (c1 : ¬ 32 < len) {k : Nat} (hk : k < len) (h : badS (L k) = true) : syncE len L = 1 := by
  rw [syncE, if_neg c0, if_neg c1, if_pos ⟨k, hk, h⟩]
theorem syncE_ord {len : Nat} {L : Nat → Sy} (c0 : ¬ len = 0) (c1 : ¬ 32 < len) (h : ∀ i, i < len → badS (L i) = false) {k : Nat} (hk : k + 1 < len) (h2 : (L (k + 1)).loc ≤ (L k).loc) : syncE len L = 9 := by
  rw [syncE, if_neg c0, if_neg c1, if_neg (by rintro ⟨i, hi, hb⟩; rw [h i hi] at hb; cases hb), if_pos ⟨k, hk, h2⟩]
theorem syncE_ok {len : Nat} {L : Nat → Sy} (c0 : ¬ len = 0) (c1 : ¬ 32 < len) (h : ∀ i, i < len → badS (L i) = false) (h2 : ∀ i, i + 1 < len → (L i).loc < (L (i + 1)).loc) : syncE len L = 0 := by
  rw [syncE, if_neg c0, if_neg c1, if_neg (by rintro ⟨i, hi, hb⟩; rw [h i hi] at hb; cases hb), if_neg (by rintro ⟨i, hi, hb⟩; have := h2 i hi; omega)]
theorem badS_ways {y : Sy} (h : badS y = true) : isMom y.loc = false ∨ (isMom y.loc = true ∧ isMom y.frm = false) ∨ (isMom y.loc = true ∧ isMom y.frm = true ∧ isMom y.til = false) ∨ (isMom y.loc = true ∧ isMom y.frm = true ∧ isMom y.til = true ∧ y.til < y.frm) := by
  unfold badS at h
  cases h1 : isMom y.loc <;> cases h2 : isMom y.frm <;> cases h3 : isMom y.til <;> simp [h1, h2, h3] at h ⊢ <;> assumption
theorem badS_none {y : Sy} (h : badS y = false) : isMom y.loc = true ∧ isMom y.frm = true ∧ isMom y.til = true ∧ y.frm ≤ y.til := by
  unfold badS at h
  cases h1 : isMom y.loc <;> cases h2 : isMom y.frm <;> cases h3 : isMom y.til <;> simp [h1, h2, h3] at h ⊢ <;> assumption

set_option maxHeartbeats 1000000 in
theorem check62 (a : Option Addr) (len cap : Nat) (L : Nat → Sy) (w : World) (hl : len ≤ cap) (hm : cap ≤ 9223372036854775807) (hS : SySl w a len L) :
    Calls Try.prog 62 #[.slice a len cap] w fun e w' => e = .returned (.int .i64 (syncE len L)) ∧ Below w.heap.size w w' := by
  by_cases c0 : len = 0
  · subst c0
    go_enter Try.func62, Try.ntmps62
    go_wp2
    go_returns
    exact ⟨by simp [syncE], Below.refl _ _⟩
  have k0 : ((len : Int) == 0) = false := by simp; omega
  by_cases c1 : 32 < len
  · go_enter Try.func62, Try.ntmps62
    go_wp2
    go_returns
    exact ⟨by rw [syncE, if_neg c0, if_pos c1]; rfl, Below.refl _ _⟩
  have k1 : decide ((32 : Int) < (len : Int)) = false := by simp; omega
  obtain ⟨b, off, rfl, hcc⟩ := hS.all (by omega)
  have HS := Lib.hid hcc
  clear hS hcc
  go_enter Try.func62, Try.ntmps62
  go_wp2_with fail
  go_loopw [16] (fun c wr => ∃ k : Nat, k ≤ len ∧ c = .int .i64 k ∧ (∀ i, i < k → badS (L i) = false) ∧ Below w.heap.size w wr) (fun c _ => len - (intOf c).toNat)
  case atStart => exact ⟨0, Nat.zero_le _, rfl, fun i hi => absurd hi (by omega), Below.refl _ _⟩
  case round =>
    obtain ⟨k, hk, rfl, hgood, hbel⟩ := hrel
    have HG := Lib.hid hgood
    clear hgood
    by_cases hlt : k < len
    · obtain ⟨d0, d1, d2⟩ := HS.out k hlt
      have e0 := cell_kept hbel d0
      have e1 := cell_kept hbel d1
      have e2 := cell_kept hbel d2
      clear d0 d1 d2
      by_cases hbad : badS (L k) = true
      · rcases badS_ways hbad with g1 | ⟨g1, g2⟩ | ⟨g1, g2, g3⟩ | ⟨g1, g2, g3, g4⟩
        all_goals
          have HB := Lib.hid hbad
          clear hbad
          go_wp2_with (go_at_call 64; refine (moment64 _ _).mono ?_; rintro e w1 ⟨rfl, rfl⟩)
          go_returns
          exact ⟨ret_int (syncE_bad c0 c1 hlt HB.out).symm, by (have hszz := (hbel).size; (repeat' (first | (with_reducible exact Below.refl _ _) | (with_reducible assumption) | (with_reducible refine Below.drew ?_) | (with_reducible refine below_drewN ?_ _) | (with_reducible refine Below.alloc ?_ ?_ _) | (with_reducible refine Below.setCell ?_ ?_ _) | go_size)))⟩
      · have hb : badS (L k) = false := by simpa using hbad
        clear hbad
        obtain ⟨g1, g2, g3, g4⟩ := badS_none hb
        have HB := Lib.hid hb
        clear hb
        go_wp2_with (go_at_call 64; refine (moment64 _ _).mono ?_; rintro e w1 ⟨rfl, rfl⟩)
        go_roundw
        case rel => exact ⟨k + 1, by omega, by go_num, fun i hi => (Nat.lt_succ_iff_lt_or_eq.1 hi).elim (fun h => HG.out i h) (fun h => h ▸ HB.out), by (have hszz := (hbel).size; (repeat' (first | (with_reducible exact Below.refl _ _) | (with_reducible assumption) | (with_reducible refine Below.drew ?_) | (with_reducible refine below_drewN ?_ _) | (with_reducible refine Below.alloc ?_ ?_ _) | (with_reducible refine Below.setCell ?_ ?_ _) | go_size)))⟩
        case measure => simp [intOf]; omega
    · obtain rfl : k = len := by omega
      go_wp2_with fail
      all_goals
        go_loopw [47] (fun c wr => ∃ j : Nat, j ≤ k - 1 ∧ c = .int .i64 j ∧ (∀ i, i < j → (L i).loc < (L (i + 1)).loc) ∧ Below w.heap.size w wr) (fun c _ => k - 1 - (intOf c).toNat)
        case atStart => exact ⟨0, Nat.zero_le _, rfl, fun i hi => absurd hi (by omega), by assumption⟩
        case round =>
          obtain ⟨j, hj, rfl, hasc, hbel2⟩ := hrel
          have HA := Lib.hid hasc
          clear hasc hbel
          by_cases hlt2 : j < k - 1
          · have d0 := cell_kept hbel2 (HS.out j (by omega)).1
            have d1 := cell_kept hbel2 (HS.out (j + 1) (by omega)).1
            have i0 : (j : Int) < (k : Int) := by omega
            have i1 : (j : Int) + 1 < (k : Int) := by omega
            by_cases ho : (L (j + 1)).loc ≤ (L j).loc
            · go_wp2
              (refine region_all (fun i : Nat => World.drewN _ i) mixed (by kernel_rfl) ⟨1, rfl⟩ ?_; (repeat (any_goals (first | go_big_quiet_step (fail) | quiet_step (fail) | (refine wpQuiet_step (fun K hK => ?_); go_simp; split <;> (refine hK _ ?_; clear hK K))))); (all_goals (refine wpQuiet_nil (fun nq => ?_))))
              all_goals go_wp2
              all_goals go_returns
              all_goals exact ⟨ret_int (syncE_ord c0 c1 HG.out (k := j) (by omega) ho).symm, by (have hszz := (hbel2).size; (repeat' (first | (with_reducible exact Below.refl _ _) | (with_reducible assumption) | (with_reducible refine Below.drew ?_) | (with_reducible refine below_drewN ?_ _) | (with_reducible refine Below.alloc ?_ ?_ _) | (with_reducible refine Below.setCell ?_ ?_ _) | go_size)))⟩
            · have ho' : (L j).loc < (L (j + 1)).loc := by omega
              go_wp2
              (refine region_all (fun i : Nat => World.drewN _ i) mixed (by kernel_rfl) ⟨1, rfl⟩ ?_; (repeat (any_goals (first | go_big_quiet_step (fail) | quiet_step (fail) | (refine wpQuiet_step (fun K hK => ?_); go_simp; split <;> (refine hK _ ?_; clear hK K))))); (all_goals (refine wpQuiet_nil (fun nq => ?_))))
              all_goals go_wp2
              all_goals go_roundw
              all_goals (first | exact ⟨j + 1, by omega, by go_num, fun i hi => (Nat.lt_succ_iff_lt_or_eq.1 hi).elim (fun h => HA.out i h) (fun h => h ▸ ho'), by (have hszz := (hbel2).size; (repeat' (first | (with_reducible exact Below.refl _ _) | (with_reducible assumption) | (with_reducible refine Below.drew ?_) | (with_reducible refine below_drewN ?_ _) | (with_reducible refine Below.alloc ?_ ?_ _) | (with_reducible refine Below.setCell ?_ ?_ _) | go_size)))⟩ | (simp [intOf]; omega))
          · obtain rfl : j = k - 1 := by omega
            go_wp2
            go_returns
            exact ⟨ret_int (syncE_ok c0 c1 HG.out (fun i hi => HA.out i (by omega))).symm, by assumption⟩
end Go.Proofs.Ytmhnkfcbbjbpfaa
