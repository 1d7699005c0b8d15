/- The reference's Int: a number read out of bytes. -/
import Derived.Test.YtlnfhlmgnppcbaaWI2
import Derived.Test.YtlnfhlmgnppcbaaWI3
namespace Go.Proofs.Ytlnfhlmgnppcbaa
open Go.RowKit Go.ChangeShapes Go.WideShapes Go.Deep
set_option linter.unusedVariables false
set_option linter.unusedSimpArgs false
/-- What the reference has read behind the bytes from j on. -/
def vFrom (L : List Nat) (s j : Nat) : Nat := if j = s + 1 then 0 else valB (L.drop j) (s - j)
theorem vFrom_end (L : List Nat) (s : Nat) : vFrom L s (s + 1) = 0 := if_pos rfl
theorem vFrom_step {L : List Nat} {s j x : Nat} (hj : j ≤ s) (h : L[j]? = some x) : vFrom L s j = 128 * vFrom L s (j + 1) + x % 128 := by
  unfold vFrom
  rw [if_neg (by omega)]
  by_cases e : j = s
  · subst e
    rw [if_pos rfl, Nat.sub_self, valB_last h]; omega
  · rw [if_neg (by omega), show s - j = (s - (j + 1)) + 1 by omega, valB_drop h, Nat.add_comm]
theorem vFrom_lt {L : List Nat} {s j x : Nat} (hs : s ≤ 9) (h : L[s]? = some x) (h9 : s = 9 → x ≤ 1) : vFrom L s j < 18446744073709551616 := by
  unfold vFrom
  split
  · decide
  · by_cases hj : j ≤ s
    · exact valB_fits (l := L.drop j) (s := s - j) (x := x) (by omega) (by rw [List.getElem?_drop, show j + (s - j) = s by omega]; exact h) (fun e => h9 (by omega))
    · have e : s - j = 0 := by omega
      rw [e]
      have := valB_lt (L.drop j) 0
      omega
set_option maxRecDepth 4000 in
set_option maxHeartbeats 4000000 in
theorem int58 (ao : Option Addr) (n c : Nat) (B : Nat → Nat) (at' : Int) (w : World) (h : BSl w ao n c B) (hB : ∀ i, i < n → B i < 256) (hn : n ≤ 1000000) (ha : inI at') : Calls Try.prog 58 #[.slice ao n c, .int .i64 at'] w fun e w' => e = .returned (i3 (intE (ents B n) at')) ∧ Below w.heap.size w w' := by
  obtain ⟨ha1, ha2⟩ := ha
  have hmc := h.hm
  have hcc := h.hc
  by_cases hneg : at' < 0
  · rw [intE_out (.inl hneg)]
    clear h hB
    go_enter Try.func58, Try.ntmps58
    go_wp2_with fail
    go_returns
    exact ⟨rfl, by (repeat' (first | (with_reducible exact Below.refl _ _) | (with_reducible assumption) | (with_reducible refine Below.drew ?_) | (with_reducible refine below_drewN ?_ _) | (with_reducible refine Below.alloc ?_ ?_ _) | (with_reducible refine Below.setCell ?_ ?_ _) | go_size))⟩
  by_cases hbig : (n : Int) < at'
  · rw [intE_out (.inr (by rw [ents_len]; exact hbig))]
    clear h hB
    go_enter Try.func58, Try.ntmps58
    go_wp2_with fail
    go_returns
    exact ⟨rfl, by (repeat' (first | (with_reducible exact Below.refl _ _) | (with_reducible assumption) | (with_reducible refine Below.drew ?_) | (with_reducible refine below_drewN ?_ _) | (with_reducible refine Below.alloc ?_ ?_ _) | (with_reducible refine Below.setCell ?_ ?_ _) | go_size))⟩
  obtain ⟨p, rfl⟩ := Int.eq_ofNat_of_zero_le (show 0 ≤ at' by omega)
  have hpn : p ≤ n := by omega
  clear hneg hbig ha1 ha2
  obtain ⟨r, hr⟩ : ∃ r, r = i3 (intE (ents B n) p) := ⟨_, rfl⟩
  rw [← hr]
  have HR : Hid (∀ (x : Int) (k : Nat) (e : Int), intF 0 0 (ents (fun i => B (p + i)) (n - p)) = (x, k, e) → r = i3 (if e = 0 then (x, (p : Int) + (k : Int), 0) else (0, 0, e))) := Lib.hid (fun x k e he => by
    rw [hr, intE_in (x := x) (k := k) (e := e) (by rw [ents_len]; exact hpn) (by rw [ents_drop B n p hpn]; exact he)])
  clear hr
  obtain ⟨L, hL⟩ : ∃ L, L = ents (fun i => B (p + i)) (n - p) := ⟨_, rfl⟩
  rw [← hL] at HR
  have HG : Hid (∀ q, q < n - p → L[q]? = some (B (p + q))) := Lib.hid (fun q hq => by rw [hL]; exact ents_get hq)
  have HLL : Hid (L.length = n - p) := Lib.hid (by rw [hL, ents_len])
  clear hL
  have HB := Lib.hid hB
  have HS := Lib.hid h
  clear h hB
  have tp : decide ((p : Int) < 0) = false := decide_eq_false (by omega)
  have tpn : decide ((n : Int) < (p : Int)) = false := decide_eq_false (by omega)
  have tpi : (p : Int) ≤ (n : Int) := by omega
  go_enter Try.func58, Try.ntmps58
  go_wp2_with fail
  go_loopw [7] (fun s7 wr => ∃ s : Nat, s7 = .int .i64 s ∧ s ≤ 10 ∧ p + s ≤ n ∧ Hid ((∀ q, q < s → 128 ≤ B (p + q)) ∧ Below w.heap.size w wr)) (fun s7 _ => 10 - (intOf s7).toNat)
  case atStart => exact ⟨0, rfl, by omega, by omega, Lib.hid ⟨fun q hq => by omega, by (repeat' (first | (with_reducible exact Below.refl _ _) | (with_reducible assumption) | (with_reducible refine Below.drew ?_) | (with_reducible refine below_drewN ?_ _) | (with_reducible refine Below.alloc ?_ ?_ _) | (with_reducible refine Below.setCell ?_ ?_ _) | go_size))⟩⟩
  case round =>
    obtain ⟨s, rfl, hs, hps, hrel⟩ := hrel
    have HREL := hrel
    clear hrel
    by_cases hs10 : s = 10
    · have hr := HR.out 0 0 3 (intF_long s L 0 0 (by omega) (fun q hq => ⟨_, HG.out q (by omega), HREL.out.1 q hq⟩))
      have HRR := Lib.hid hr
      have t1 : decide ((s : Int) < 10) = false := decide_eq_false (by omega)
      have t2 : ((s : Int) == 10) = true := by simp; omega
      clear hr hs10
      go_wp2_with fail
      go_returns
      exact ⟨by rw [HRR.out]; rfl, HREL.out.2⟩
    · have t1 : decide ((s : Int) < 10) = true := decide_eq_true (by omega)
      have t2 : ((s : Int) == 10) = false := by simp; omega
      by_cases hend : p + s = n
      · have hr := HR.out 0 0 4 (intF_short L 0 0 (by rw [HLL.out]; omega) (fun y hy => by
          obtain ⟨q, hq⟩ := List.getElem?_of_mem hy
          have hq2 : q < n - p := by
            rcases Nat.lt_or_ge q (n - p) with h1 | h1
            · exact h1
            · rw [List.getElem?_eq_none (by rw [HLL.out]; exact h1)] at hq; cases hq
          rw [HG.out q hq2] at hq
          cases hq
          exact HREL.out.1 q (by omega)))
        have HRR := Lib.hid hr
        have t3 : decide ((p : Int) + (s : Int) < (n : Int)) = false := decide_eq_false (by omega)
        have t4 : ((p : Int) + (s : Int) == (n : Int)) = true := by simp; omega
        clear hr hend
        go_wp2_with fail
        go_returns
        exact ⟨by rw [HRR.out]; rfl, HREL.out.2⟩
      · have t3 : decide ((p : Int) + (s : Int) < (n : Int)) = true := decide_eq_true (by omega)
        have t4 : ((p : Int) + (s : Int) == (n : Int)) = false := by simp; omega
        have t5 : (p : Int) + (s : Int) < (n : Int) := by omega
        obtain ⟨g', o', rfl, hg, A0⟩ := BSl.byte (HS.out.below HREL.out.2) (show p + s < n by omega)
        have zg := szs hg
        have hx := HB.out (p + s) (by omega)
        have HXL := Lib.hid (HG.out s (by omega))
        obtain ⟨x, hx'⟩ : ∃ x, x = B (p + s) := ⟨_, rfl⟩
        have HX := Lib.hid hx'
        rw [← hx'] at A0 hx HXL
        clear hx'
        by_cases hb : 128 ≤ x
        · have t6 : (128 : Int) ≤ (x : Int) := by omega
          go_wp2_with fail
          go_roundw
          case rel =>
            refine ⟨s + 1, by go_num, by omega, by omega, Lib.hid ⟨fun q hq => ?_, by have := HREL.out.2; (have hszz := (this).size; (repeat' (first | (with_reducible exact Below.refl _ _) | (with_reducible assumption) | (with_reducible refine Below.drew ?_) | (with_reducible refine below_drewN ?_ _) | (with_reducible refine Below.alloc ?_ ?_ _) | (with_reducible refine Below.setCell ?_ ?_ _) | go_size)))⟩⟩
            by_cases e : q = s
            · subst e; rw [← HX.out]; exact hb
            · exact HREL.out.1 q (by omega)
          case measure => simp [intOf]; omega
        · have t6 : (x : Int) < 128 := by omega
          have hrun := intF_run s L 0 0 x (by omega) (fun q y hq hy => by
            rw [HG.out q (by omega)] at hy; cases hy; exact HREL.out.1 q hq) (fun q y hq hy => by
            rw [HG.out q (by omega)] at hy; cases hy; exact HB.out _ (by omega)) HXL.out (by omega)
          simp only [Nat.zero_add, Nat.mul_zero, Nat.pow_zero, Nat.mul_one] at hrun
          by_cases hbad : (0 < s ∧ x = 0) ∨ (s = 9 ∧ 1 < x)
          · rw [if_pos hbad] at hrun
            have hr := HR.out 0 0 3 hrun
            have HRR := Lib.hid hr
            clear hr hrun
            rcases hbad with ⟨b1, b2⟩ | ⟨b1, b2⟩
            · have t7 : decide ((0 : Int) < (s : Int)) = true := decide_eq_true (by omega)
              have t8 : ((x : Int) == 0) = true := by simp; omega
              clear b2
              go_wp2_with fail
              all_goals go_returns
              all_goals exact ⟨by rw [HRR.out]; rfl, by have := HREL.out.2; (have hszz := (this).size; (repeat' (first | (with_reducible exact Below.refl _ _) | (with_reducible assumption) | (with_reducible refine Below.drew ?_) | (with_reducible refine below_drewN ?_ _) | (with_reducible refine Below.alloc ?_ ?_ _) | (with_reducible refine Below.setCell ?_ ?_ _) | go_size)))⟩
            · have t7 : ((x : Int) == 0) = false := by simp; omega
              have t8 : ((s : Int) == 9) = true := by simp; omega
              have t9 : decide ((1 : Int) < (x : Int)) = true := decide_eq_true (by omega)
              clear b1
              go_wp2_with fail
              all_goals go_returns
              all_goals exact ⟨by rw [HRR.out]; rfl, by have := HREL.out.2; (have hszz := (this).size; (repeat' (first | (with_reducible exact Below.refl _ _) | (with_reducible assumption) | (with_reducible refine Below.drew ?_) | (with_reducible refine below_drewN ?_ _) | (with_reducible refine Below.alloc ?_ ?_ _) | (with_reducible refine Below.setCell ?_ ?_ _) | go_size)))⟩
          · rw [if_neg hbad] at hrun
            have hr := HR.out _ _ _ hrun
            have HRR := Lib.hid hr
            have HLT : Hid (∀ j, vFrom L s j < 18446744073709551616) := Lib.hid (fun j => vFrom_lt (by omega) HXL.out (by omega))
            clear hr hrun
            have hway : (0 < s ∧ x ≠ 0 ∧ s ≠ 9) ∨ (0 < s ∧ x ≠ 0 ∧ s = 9 ∧ x ≤ 1) ∨ s = 0 := by omega
            clear hbad
            have HF : Hid (True) := Lib.hid trivial
            rcases hway with ⟨w3, w1, w2⟩ | ⟨w3, w1, w2, w4⟩ | w3
            · have t7 : decide ((0 : Int) < (s : Int)) = true := decide_eq_true (by omega)
              have t8 : ((x : Int) == 0) = false := by simp; omega
              have t9 : ((s : Int) == 9) = false := by simp; omega
              clear w1
              go_wp2_with fail
              go_loopw [9, 10] (fun s9 s10 wr => ∃ (i : Int) (u : Nat), s9 = .int .u64 u ∧ s10 = .int .i64 i ∧ -1 ≤ i ∧ i ≤ s ∧ u < 18446744073709551616 ∧ Hid (u = vFrom L s (i + 1).toNat ∧ Below w.heap.size w wr)) (fun _ s10 _ => (intOf s10 + 1).toNat)
              case atStart => exact ⟨s, 0, rfl, rfl, by omega, by omega, by omega, Lib.hid ⟨by rw [show ((s : Int) + 1).toNat = s + 1 by omega, vFrom_end], by have := HREL.out.2; (have hszz := (this).size; (repeat' (first | (with_reducible exact Below.refl _ _) | (with_reducible assumption) | (with_reducible refine Below.drew ?_) | (with_reducible refine below_drewN ?_ _) | (with_reducible refine Below.alloc ?_ ?_ _) | (with_reducible refine Below.setCell ?_ ?_ _) | go_size)))⟩⟩
              case round =>
                obtain ⟨i, u, rfl, rfl, hi1, hi2, hu, hrel⟩ := hrel
                have HRL := hrel
                clear hrel
                by_cases h0 : 0 ≤ i
                · obtain ⟨j, rfl⟩ := Int.eq_ofNat_of_zero_le h0
                  clear h0
                  obtain ⟨g2, o2, e2, hg2, A2⟩ := BSl.byte (HS.out.below HRL.out.2) (show p + j < n by omega)
                  cases e2
                  have zg2 := szs hg2
                  have hy := HB.out (p + j) (by omega)
                  have ST := vFrom_step (L := L) (s := s) (j := j) (by omega) (HG.out j (by omega))
                  have LT := HLT.out j
                  have HU := HRL.out.1
                  rw [show ((j : Int) + 1).toNat = j + 1 by omega] at HU
                  rw [← HU] at ST
                  obtain ⟨y, hy'⟩ : ∃ y, y = B (p + j) := ⟨_, rfl⟩
                  rw [← hy'] at A2 hy ST
                  rw [ST] at LT
                  replace ST := Lib.hid ST
                  have tj : (p : Int) + (j : Int) < (n : Int) := by omega
                  clear hy' HU
                  go_wp2_with fail
                  go_roundw
                  case rel => exact ⟨(j : Int) - 1, 128 * u + y % 128, by go_num, rfl, by omega, by omega, LT, Lib.hid ⟨by rw [show ((j : Int) - 1 + 1).toNat = j by omega]; exact ST.out.symm, by have := HRL.out.2; (have hszz := (this).size; (repeat' (first | (with_reducible exact Below.refl _ _) | (with_reducible assumption) | (with_reducible refine Below.drew ?_) | (with_reducible refine below_drewN ?_ _) | (with_reducible refine Below.alloc ?_ ?_ _) | (with_reducible refine Below.setCell ?_ ?_ _) | go_size)))⟩⟩
                  case measure => simp [intOf] <;> omega
                · obtain rfl : i = -1 := by omega
                  have HU := HRL.out.1
                  have HU2 : Hid (r = .tuple #[.int .i64 (unzz u), .int .i64 ((p : Int) + (s : Int) + 1), .int .i64 0]) := Lib.hid (by rw [HRR.out, HU, show (p : Int) + ((s + 1 : Nat) : Int) = (p : Int) + (s : Int) + 1 by omega]; first | rfl | (simp only [if_true]; rfl))
                  have CN := Lib.hid (fun w' => number75 u w' hu)
                  clear HU
                  go_wp2_with fail
                  refine (CN.out _).mono ?_
                  rintro e wz ⟨rfl, rfl⟩
                  go_wp2_with fail
                  go_returns
                  exact ⟨by rw [HU2.out]; rfl, by have := HRL.out.2; (have hszz := (this).size; (repeat' (first | (with_reducible exact Below.refl _ _) | (with_reducible assumption) | (with_reducible refine Below.drew ?_) | (with_reducible refine below_drewN ?_ _) | (with_reducible refine Below.alloc ?_ ?_ _) | (with_reducible refine Below.setCell ?_ ?_ _) | go_size)))⟩
            · have t7 : decide ((0 : Int) < (s : Int)) = true := decide_eq_true (by omega)
              have t8 : ((x : Int) == 0) = false := by simp; omega
              have t9 : ((s : Int) == 9) = true := by simp; omega
              have ta : decide ((1 : Int) < (x : Int)) = false := decide_eq_false (by omega)
              clear w1 w2 w4
              go_wp2_with fail
              go_loopw [9, 10] (fun s9 s10 wr => ∃ (i : Int) (u : Nat), s9 = .int .u64 u ∧ s10 = .int .i64 i ∧ -1 ≤ i ∧ i ≤ s ∧ u < 18446744073709551616 ∧ Hid (u = vFrom L s (i + 1).toNat ∧ Below w.heap.size w wr)) (fun _ s10 _ => (intOf s10 + 1).toNat)
              case atStart => exact ⟨s, 0, rfl, rfl, by omega, by omega, by omega, Lib.hid ⟨by rw [show ((s : Int) + 1).toNat = s + 1 by omega, vFrom_end], by have := HREL.out.2; (have hszz := (this).size; (repeat' (first | (with_reducible exact Below.refl _ _) | (with_reducible assumption) | (with_reducible refine Below.drew ?_) | (with_reducible refine below_drewN ?_ _) | (with_reducible refine Below.alloc ?_ ?_ _) | (with_reducible refine Below.setCell ?_ ?_ _) | go_size)))⟩⟩
              case round =>
                obtain ⟨i, u, rfl, rfl, hi1, hi2, hu, hrel⟩ := hrel
                have HRL := hrel
                clear hrel
                by_cases h0 : 0 ≤ i
                · obtain ⟨j, rfl⟩ := Int.eq_ofNat_of_zero_le h0
                  clear h0
                  obtain ⟨g2, o2, e2, hg2, A2⟩ := BSl.byte (HS.out.below HRL.out.2) (show p + j < n by omega)
                  cases e2
                  have zg2 := szs hg2
                  have hy := HB.out (p + j) (by omega)
                  have ST := vFrom_step (L := L) (s := s) (j := j) (by omega) (HG.out j (by omega))
                  have LT := HLT.out j
                  have HU := HRL.out.1
                  rw [show ((j : Int) + 1).toNat = j + 1 by omega] at HU
                  rw [← HU] at ST
                  obtain ⟨y, hy'⟩ : ∃ y, y = B (p + j) := ⟨_, rfl⟩
                  rw [← hy'] at A2 hy ST
                  rw [ST] at LT
                  replace ST := Lib.hid ST
                  have tj : (p : Int) + (j : Int) < (n : Int) := by omega
                  clear hy' HU
                  go_wp2_with fail
                  go_roundw
                  case rel => exact ⟨(j : Int) - 1, 128 * u + y % 128, by go_num, rfl, by omega, by omega, LT, Lib.hid ⟨by rw [show ((j : Int) - 1 + 1).toNat = j by omega]; exact ST.out.symm, by have := HRL.out.2; (have hszz := (this).size; (repeat' (first | (with_reducible exact Below.refl _ _) | (with_reducible assumption) | (with_reducible refine Below.drew ?_) | (with_reducible refine below_drewN ?_ _) | (with_reducible refine Below.alloc ?_ ?_ _) | (with_reducible refine Below.setCell ?_ ?_ _) | go_size)))⟩⟩
                  case measure => simp [intOf] <;> omega
                · obtain rfl : i = -1 := by omega
                  have HU := HRL.out.1
                  have HU2 : Hid (r = .tuple #[.int .i64 (unzz u), .int .i64 ((p : Int) + (s : Int) + 1), .int .i64 0]) := Lib.hid (by rw [HRR.out, HU, show (p : Int) + ((s + 1 : Nat) : Int) = (p : Int) + (s : Int) + 1 by omega]; first | rfl | (simp only [if_true]; rfl))
                  have CN := Lib.hid (fun w' => number75 u w' hu)
                  clear HU
                  go_wp2_with fail
                  refine (CN.out _).mono ?_
                  rintro e wz ⟨rfl, rfl⟩
                  go_wp2_with fail
                  go_returns
                  exact ⟨by rw [HU2.out]; rfl, by have := HRL.out.2; (have hszz := (this).size; (repeat' (first | (with_reducible exact Below.refl _ _) | (with_reducible assumption) | (with_reducible refine Below.drew ?_) | (with_reducible refine below_drewN ?_ _) | (with_reducible refine Below.alloc ?_ ?_ _) | (with_reducible refine Below.setCell ?_ ?_ _) | go_size)))⟩
            · have t7 : decide ((0 : Int) < (s : Int)) = false := decide_eq_false (by omega)
              have t9 : ((s : Int) == 9) = false := by simp; omega
              clear w3
              go_wp2_with fail
              all_goals (try (exfalso; have q := of_decide_eq_false t7; omega))
              go_loopw [9, 10] (fun s9 s10 wr => ∃ (i : Int) (u : Nat), s9 = .int .u64 u ∧ s10 = .int .i64 i ∧ -1 ≤ i ∧ i ≤ s ∧ u < 18446744073709551616 ∧ Hid (u = vFrom L s (i + 1).toNat ∧ Below w.heap.size w wr)) (fun _ s10 _ => (intOf s10 + 1).toNat)
              case atStart => exact ⟨s, 0, rfl, rfl, by omega, by omega, by omega, Lib.hid ⟨by rw [show ((s : Int) + 1).toNat = s + 1 by omega, vFrom_end], by have := HREL.out.2; (have hszz := (this).size; (repeat' (first | (with_reducible exact Below.refl _ _) | (with_reducible assumption) | (with_reducible refine Below.drew ?_) | (with_reducible refine below_drewN ?_ _) | (with_reducible refine Below.alloc ?_ ?_ _) | (with_reducible refine Below.setCell ?_ ?_ _) | go_size)))⟩⟩
              case round =>
                obtain ⟨i, u, rfl, rfl, hi1, hi2, hu, hrel⟩ := hrel
                have HRL := hrel
                clear hrel
                by_cases h0 : 0 ≤ i
                · obtain ⟨j, rfl⟩ := Int.eq_ofNat_of_zero_le h0
                  clear h0
                  obtain ⟨g2, o2, e2, hg2, A2⟩ := BSl.byte (HS.out.below HRL.out.2) (show p + j < n by omega)
                  cases e2
                  have zg2 := szs hg2
                  have hy := HB.out (p + j) (by omega)
                  have ST := vFrom_step (L := L) (s := s) (j := j) (by omega) (HG.out j (by omega))
                  have LT := HLT.out j
                  have HU := HRL.out.1
                  rw [show ((j : Int) + 1).toNat = j + 1 by omega] at HU
                  rw [← HU] at ST
                  obtain ⟨y, hy'⟩ : ∃ y, y = B (p + j) := ⟨_, rfl⟩
                  rw [← hy'] at A2 hy ST
                  rw [ST] at LT
                  replace ST := Lib.hid ST
                  have tj : (p : Int) + (j : Int) < (n : Int) := by omega
                  clear hy' HU
                  go_wp2_with fail
                  go_roundw
                  case rel => exact ⟨(j : Int) - 1, 128 * u + y % 128, by go_num, rfl, by omega, by omega, LT, Lib.hid ⟨by rw [show ((j : Int) - 1 + 1).toNat = j by omega]; exact ST.out.symm, by have := HRL.out.2; (have hszz := (this).size; (repeat' (first | (with_reducible exact Below.refl _ _) | (with_reducible assumption) | (with_reducible refine Below.drew ?_) | (with_reducible refine below_drewN ?_ _) | (with_reducible refine Below.alloc ?_ ?_ _) | (with_reducible refine Below.setCell ?_ ?_ _) | go_size)))⟩⟩
                  case measure => simp [intOf] <;> omega
                · obtain rfl : i = -1 := by omega
                  have HU := HRL.out.1
                  have HU2 : Hid (r = .tuple #[.int .i64 (unzz u), .int .i64 ((p : Int) + (s : Int) + 1), .int .i64 0]) := Lib.hid (by rw [HRR.out, HU, show (p : Int) + ((s + 1 : Nat) : Int) = (p : Int) + (s : Int) + 1 by omega]; first | rfl | (simp only [if_true]; rfl))
                  have CN := Lib.hid (fun w' => number75 u w' hu)
                  clear HU
                  go_wp2_with fail
                  refine (CN.out _).mono ?_
                  rintro e wz ⟨rfl, rfl⟩
                  go_wp2_with fail
                  go_returns
                  exact ⟨by rw [HU2.out]; rfl, by have := HRL.out.2; (have hszz := (this).size; (repeat' (first | (with_reducible exact Below.refl _ _) | (with_reducible assumption) | (with_reducible refine Below.drew ?_) | (with_reducible refine below_drewN ?_ _) | (with_reducible refine Below.alloc ?_ ?_ _) | (with_reducible refine Below.setCell ?_ ?_ _) | go_size)))⟩
end Go.Proofs.Ytlnfhlmgnppcbaa
