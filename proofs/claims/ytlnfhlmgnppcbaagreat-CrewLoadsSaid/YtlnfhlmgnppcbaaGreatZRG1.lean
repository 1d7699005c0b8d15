/- The reference's custody: parked, occupied, an open ride of a rider, the ride of a number, the bicycles on a truck. -/
import Derived.Test.YtlnfhlmgnppcbaaGreatZRG0
import Derived.Test.YtlnfhlmgnppcbaaGreatZTKA
import Derived.BigQuiet
namespace Go.Proofs.YtlnfhlmgnppcbaaGreat
open Go.RowKit Go.ChangeShapes Go.WideShapes Go.Deep
set_option linter.unusedVariables false
set_option linter.unusedSimpArgs false
theorem parkedR125 (x : Sp) (w : World) : Calls Tryz.prog 125 #[.agg #[.int .i64 x.wh, .int .i64 x.pl, .int .i64 x.rd, .bool x.ps]] w fun e w' => e = .returned (.bool (parkB x)) ∧ Below w.heap.size w w' := by
  have BW : Below w.heap.size w (w.alloc (.cells #[.int .i64 x.wh, .int .i64 x.pl, .int .i64 x.rd, .bool x.ps] 147)) := by (repeat' (first | (with_reducible exact Below.refl _ _) | (with_reducible assumption) | (with_reducible refine Below.drew ?_) | (with_reducible refine below_drewN ?_ _) | (with_reducible refine Below.alloc ?_ ?_ _) | (with_reducible refine Below.setCell ?_ ?_ _) | go_size))
  obtain ⟨r, hr⟩ : ∃ r, r = parkB x := ⟨_, rfl⟩
  rw [← hr]
  unfold parkB at hr
  obtain ⟨a, b, c, d⟩ := x
  dsimp only at hr BW ⊢
  have HB := Lib.hid BW
  clear BW
  by_cases h1 : a = 1
  · subst h1
    obtain rfl : r = true := by rw [hr]; rfl
    clear hr
    go_enter Tryz.func125, Tryz.ntmps125
    go_wp2_with fail
    go_returns
    exact ⟨rfl, HB.out⟩
  · have t1 : (a == 1) = false := by simpa using h1
    by_cases h2 : a = 2
    · subst h2
      obtain rfl : r = true := by rw [hr]; rfl
      clear hr h1 t1
      go_enter Tryz.func125, Tryz.ntmps125
      go_wp2_with fail
      go_returns
      exact ⟨rfl, HB.out⟩
    · have t2 : (a == 2) = false := by simpa using h2
      obtain rfl : r = false := by rw [hr]; simp [h1, h2]
      clear hr
      go_enter Tryz.func125, Tryz.ntmps125
      go_wp2_with fail
      go_returns
      exact ⟨rfl, HB.out⟩
set_option maxHeartbeats 4000000 in
theorem findR90 {n : Nat} {s : CSt} {sa ta : Option Addr} {sc tc : Nat} {w : World} (h : RIn w n s sa sc ta tc) (id : Int) :
    Calls Tryz.prog 90 #[.agg #[.slice sa n sc, .slice ta s.k tc], .int .i64 id] w fun e w' => e = .returned (.int .i64 (findI s.G id s.k)) ∧ Below w.heap.size w w' := by
  have hm := h.tr.hm
  have hc := h.tr.hc
  have BB : Hid (Below w.heap.size w (w.alloc (.cells #[.slice sa n sc, .slice ta s.k tc] 122))) := Lib.hid (by (repeat' (first | (with_reducible exact Below.refl _ _) | (with_reducible assumption) | (with_reducible refine Below.drew ?_) | (with_reducible refine below_drewN ?_ _) | (with_reducible refine Below.alloc ?_ ?_ _) | (with_reducible refine Below.setCell ?_ ?_ _) | go_size)))
  have X0 := Lib.hid (al_at w (.cells #[.slice sa n sc, .slice ta s.k tc] 122) rfl)
  obtain ⟨w1, hw1⟩ : ∃ w1, w1 = w.alloc (.cells #[.slice sa n sc, .slice ta s.k tc] 122) := ⟨_, rfl⟩
  rw [← hw1] at BB X0
  have HW1 := Lib.hid hw1
  have HT := Lib.hid (h.tr.below BB.out)
  obtain ⟨r, hr⟩ : ∃ r, r = findI s.G id s.k := ⟨_, rfl⟩
  rw [← hr]
  have HR := Lib.hid hr
  clear hw1 h hr
  generalize s.k = k at *
  generalize s.G = G at *
  have x0 := cell_at X0.out 0
  have x1 := cell_at X0.out 1
  have zx := szs (block_lt X0.out)
  go_enter Tryz.func90, Tryz.ntmps90
  go_wp2_with fail
  rw [← HW1.out]
  go_loopw [5] (fun s5 wr => ∃ j : Nat, s5 = .int .i64 j ∧ j ≤ k ∧ Hid (∀ i, i < j → (G i).id ≠ id) ∧ wr = w1) (fun s5 _ => k - (intOf s5).toNat)
  case atStart => exact ⟨0, rfl, by omega, Lib.hid (fun i hi => absurd hi (by omega)), rfl⟩
  case round =>
    obtain ⟨j, rfl, hj, hno, rfl⟩ := hrel
    have HN := hno
    clear hno
    by_cases hlt : j < k
    · have tj : (j : Int) < (k : Int) := by omega
      obtain ⟨g, o, rfl, hg, c0, _, _, _⟩ := HT.out.trip hlt
      have zg := szs hg
      by_cases he : (G j).id = id
      · have te : ((G j).id == id) = true := by simpa using he
        obtain rfl : r = (j : Int) := by rw [HR.out]; exact findI_yes hlt HN.out he
        clear he HR
        generalize (G j).id = y at *
        go_wp2_with fail
        go_returns
        exact ⟨rfl, BB.out⟩
      · have te : ((G j).id == id) = false := by simpa using he
        have HN2 : Hid (∀ i, i < j + 1 → (G i).id ≠ id) := Lib.hid (fun i hi => by
          rcases Nat.lt_or_ge i j with h | h
          · exact HN.out i h
          · obtain rfl : i = j := by omega
            exact he)
        clear he
        generalize (G j).id = y at *
        go_wp2_with fail
        go_roundw
        case rel => exact ⟨j + 1, by go_num, by omega, HN2, (by first | rfl | trivial)⟩
        case measure => simp [intOf]; omega
    · obtain rfl : j = k := by omega
      obtain rfl : r = -1 := by rw [HR.out]; exact findI_no HN.out
      clear HR
      go_wp2_with fail
      go_returns
      exact ⟨rfl, BB.out⟩
set_option maxHeartbeats 4000000 in
theorem ridesR127 {n : Nat} {s : CSt} {sa ta : Option Addr} {sc tc : Nat} {w : World} (h : RIn w n s sa sc ta tc) (rider : Int) :
    Calls Tryz.prog 127 #[.agg #[.slice sa n sc, .slice ta s.k tc], .int .i64 rider] w fun e w' => e = .returned (.bool (ridesB s.G rider s.k)) ∧ Below w.heap.size w w' := by
  have hm := h.tr.hm
  have hc := h.tr.hc
  have BB : Hid (Below w.heap.size w (w.alloc (.cells #[.slice sa n sc, .slice ta s.k tc] 122))) := Lib.hid (by (repeat' (first | (with_reducible exact Below.refl _ _) | (with_reducible assumption) | (with_reducible refine Below.drew ?_) | (with_reducible refine below_drewN ?_ _) | (with_reducible refine Below.alloc ?_ ?_ _) | (with_reducible refine Below.setCell ?_ ?_ _) | go_size)))
  have X0 := Lib.hid (al_at w (.cells #[.slice sa n sc, .slice ta s.k tc] 122) rfl)
  obtain ⟨w1, hw1⟩ : ∃ w1, w1 = w.alloc (.cells #[.slice sa n sc, .slice ta s.k tc] 122) := ⟨_, rfl⟩
  rw [← hw1] at BB X0
  have HW1 := Lib.hid hw1
  have HT := Lib.hid (h.tr.below BB.out)
  obtain ⟨r, hr⟩ : ∃ r, r = ridesB s.G rider s.k := ⟨_, rfl⟩
  rw [← hr]
  have HR := Lib.hid hr
  clear hw1 h hr
  generalize s.k = k at *
  generalize s.G = G at *
  have x0 := cell_at X0.out 0
  have x1 := cell_at X0.out 1
  have zx := szs (block_lt X0.out)
  go_enter Tryz.func127, Tryz.ntmps127
  go_wp2_with fail
  rw [← HW1.out]
  go_loopw [5] (fun s5 wr => ∃ j : Nat, s5 = .int .i64 j ∧ j ≤ k ∧ Hid (∀ i, i < j → ¬ ((G i).opn = true ∧ (G i).rider = rider)) ∧ wr = w1) (fun s5 _ => k - (intOf s5).toNat)
  case atStart => exact ⟨0, rfl, by omega, Lib.hid (fun i hi => absurd hi (by omega)), rfl⟩
  case round =>
    obtain ⟨j, rfl, hj, hno, rfl⟩ := hrel
    have HN := hno
    clear hno
    by_cases hlt : j < k
    · have tj : (j : Int) < (k : Int) := by omega
      obtain ⟨g, o, rfl, hg, _, c1, _, c3⟩ := HT.out.trip hlt
      have zg := szs hg
      have HN2 : Hid (¬ ((G j).opn = true ∧ (G j).rider = rider) → ∀ i, i < j + 1 → ¬ ((G i).opn = true ∧ (G i).rider = rider)) := Lib.hid (fun hne i hi => by
        rcases Nat.lt_or_ge i j with h | h
        · exact HN.out i h
        · obtain rfl : i = j := by omega
          exact hne)
      have HY : Hid ((G j).opn = true → (G j).rider = rider → r = true) := Lib.hid (fun h1 h2 => by rw [HR.out]; exact ridesB_iff.2 ⟨j, hlt, h1, h2⟩)
      generalize (G j).opn = y at *
      generalize (G j).rider = z at *
      cases y with
      | false =>
        have HN3 := Lib.hid (HN2.out (fun h => by cases h.1))
        clear HN2 HY
        go_wp2_with fail
        go_roundw
        case rel => exact ⟨j + 1, by go_num, by omega, HN3, (by first | rfl | trivial)⟩
        case measure => simp [intOf]; omega
      | true =>
        by_cases he : z = rider
        · have te : (z == rider) = true := by simpa using he
          obtain rfl : r = true := HY.out rfl he
          clear he HN2 HY HR
          go_wp2_with fail
          go_returns
          exact ⟨rfl, BB.out⟩
        · have te : (z == rider) = false := by simpa using he
          have HN3 := Lib.hid (HN2.out (fun h => he h.2))
          clear he HN2 HY
          go_wp2_with fail
          go_roundw
          case rel => exact ⟨j + 1, by go_num, by omega, HN3, (by first | rfl | trivial)⟩
          case measure => simp [intOf]; omega
    · obtain rfl : j = k := by omega
      obtain rfl : r = false := by
        rw [HR.out]
        cases hb : ridesB G rider j
        · rfl
        · obtain ⟨i, h1, h2⟩ := ridesB_iff.1 hb
          exact absurd h2 (HN.out i h1)
      clear HR
      go_wp2_with fail
      go_returns
      exact ⟨rfl, BB.out⟩
theorem cntN_pos {F : Nat → Sp} {wh pl : Int} {i : Nat} : ∀ {n : Nat}, i < n → (F i).wh = wh ∧ (F i).pl = pl → 0 < cntN F wh pl n
  | n + 1, hi, h => by
    unfold cntN
    rcases Nat.lt_or_ge i n with h1 | h1
    · have := cntN_pos h1 h; omega
    · obtain rfl : i = n := by omega
      rw [if_pos h]; omega
theorem cntN_zero {F : Nat → Sp} {wh pl : Int} : ∀ {n : Nat}, (∀ i, i < n → ¬ ((F i).wh = wh ∧ (F i).pl = pl)) → cntN F wh pl n = 0
  | 0, _ => rfl
  | n + 1, h => by
    unfold cntN
    rw [cntN_zero (fun i hi => h i (by omega)), if_neg (h n (by omega))]
set_option maxHeartbeats 4000000 in
theorem occR126 {n : Nat} {s : CSt} {sa ta : Option Addr} {sc tc : Nat} {w : World} (h : RIn w n s sa sc ta tc) (place : Int) :
    Calls Tryz.prog 126 #[.agg #[.slice sa n sc, .slice ta s.k tc], .int .i64 place] w fun e w' => e = .returned (.bool (decide (0 < cntN s.F 1 place n))) ∧ Below w.heap.size w w' := by
  have hm := h.sp.hm
  have hc := h.sp.hc
  have BB : Hid (Below w.heap.size w (w.alloc (.cells #[.slice sa n sc, .slice ta s.k tc] 122))) := Lib.hid (by (repeat' (first | (with_reducible exact Below.refl _ _) | (with_reducible assumption) | (with_reducible refine Below.drew ?_) | (with_reducible refine below_drewN ?_ _) | (with_reducible refine Below.alloc ?_ ?_ _) | (with_reducible refine Below.setCell ?_ ?_ _) | go_size)))
  have X0 := Lib.hid (al_at w (.cells #[.slice sa n sc, .slice ta s.k tc] 122) rfl)
  obtain ⟨w1, hw1⟩ : ∃ w1, w1 = w.alloc (.cells #[.slice sa n sc, .slice ta s.k tc] 122) := ⟨_, rfl⟩
  rw [← hw1] at BB X0
  have HW1 := Lib.hid hw1
  have HT := Lib.hid (h.sp.below BB.out)
  obtain ⟨r, hr⟩ : ∃ r, r = decide (0 < cntN s.F 1 place n) := ⟨_, rfl⟩
  rw [← hr]
  have HR := Lib.hid hr
  clear hw1 h hr
  generalize s.k = k at *
  generalize s.F = F at *
  have x0 := cell_at X0.out 0
  have x1 := cell_at X0.out 1
  have zx := szs (block_lt X0.out)
  go_enter Tryz.func126, Tryz.ntmps126
  go_wp2_with fail
  rw [← HW1.out]
  go_loopw [5] (fun s5 wr => ∃ j : Nat, s5 = .int .i64 j ∧ j ≤ n ∧ Hid (∀ i, i < j → ¬ ((F i).wh = 1 ∧ (F i).pl = place)) ∧ wr = w1) (fun s5 _ => n - (intOf s5).toNat)
  case atStart => exact ⟨0, rfl, by omega, Lib.hid (fun i hi => absurd hi (by omega)), rfl⟩
  case round =>
    obtain ⟨j, rfl, hj, hno, rfl⟩ := hrel
    have HN := hno
    clear hno
    by_cases hlt : j < n
    · have tj : (j : Int) < (n : Int) := by omega
      obtain ⟨g, o, rfl, hg, c0, c1, _, _⟩ := HT.out.spot hlt
      have zg := szs hg
      have HN2 : Hid (¬ ((F j).wh = 1 ∧ (F j).pl = place) → ∀ i, i < j + 1 → ¬ ((F i).wh = 1 ∧ (F i).pl = place)) := Lib.hid (fun hne i hi => by
        rcases Nat.lt_or_ge i j with h | h
        · exact HN.out i h
        · obtain rfl : i = j := by omega
          exact hne)
      have HY : Hid ((F j).wh = 1 → (F j).pl = place → r = true) := Lib.hid (fun h1 h2 => by rw [HR.out]; exact decide_eq_true (cntN_pos hlt ⟨h1, h2⟩))
      generalize (F j).wh = y at *
      generalize (F j).pl = z at *
      by_cases h1 : y = 1
      · have t1 : (y == 1) = true := by simpa using h1
        by_cases he : z = place
        · have te : (z == place) = true := by simpa using he
          obtain rfl : r = true := HY.out h1 he
          clear he h1 HN2 HY HR
          go_wp2_with fail
          go_returns
          exact ⟨rfl, BB.out⟩
        · have te : (z == place) = false := by simpa using he
          have HN3 := Lib.hid (HN2.out (fun h => he h.2))
          clear he h1 HN2 HY
          go_wp2_with fail
          go_roundw
          case rel => exact ⟨j + 1, by go_num, by omega, HN3, (by first | rfl | trivial)⟩
          case measure => simp [intOf]; omega
      · have t1 : (y == 1) = false := by simpa using h1
        have HN3 := Lib.hid (HN2.out (fun h => h1 h.1))
        clear h1 HN2 HY
        go_wp2_with fail
        go_roundw
        case rel => exact ⟨j + 1, by go_num, by omega, HN3, (by first | rfl | trivial)⟩
        case measure => simp [intOf]; omega
    · obtain rfl : j = n := by omega
      obtain rfl : r = false := by rw [HR.out, cntN_zero HN.out]; rfl
      clear HR
      go_wp2_with fail
      go_returns
      exact ⟨rfl, BB.out⟩
set_option maxHeartbeats 4000000 in
theorem carriedR58 {n : Nat} {s : CSt} {sa ta : Option Addr} {sc tc : Nat} {w : World} (h : RIn w n s sa sc ta tc) (truck : Int) :
    Calls Tryz.prog 58 #[.agg #[.slice sa n sc, .slice ta s.k tc], .int .i64 truck] w fun e w' => e = .returned (.int .i64 (cntN s.F 4 truck n : Int)) ∧ Below w.heap.size w w' := by
  have hm := h.sp.hm
  have hc := h.sp.hc
  have BB : Hid (Below w.heap.size w (w.alloc (.cells #[.slice sa n sc, .slice ta s.k tc] 122))) := Lib.hid (by (repeat' (first | (with_reducible exact Below.refl _ _) | (with_reducible assumption) | (with_reducible refine Below.drew ?_) | (with_reducible refine below_drewN ?_ _) | (with_reducible refine Below.alloc ?_ ?_ _) | (with_reducible refine Below.setCell ?_ ?_ _) | go_size)))
  have X0 := Lib.hid (al_at w (.cells #[.slice sa n sc, .slice ta s.k tc] 122) rfl)
  obtain ⟨w1, hw1⟩ : ∃ w1, w1 = w.alloc (.cells #[.slice sa n sc, .slice ta s.k tc] 122) := ⟨_, rfl⟩
  rw [← hw1] at BB X0
  have HW1 := Lib.hid hw1
  have HT := Lib.hid (h.sp.below BB.out)
  obtain ⟨C, hC0, hCs, hCl, hCn⟩ : ∃ C : Nat → Nat, C 0 = 0 ∧ (∀ k, C (k + 1) = C k + if (s.F k).wh = 4 ∧ (s.F k).pl = truck then 1 else 0) ∧ (∀ k, C k ≤ k) ∧ C n = cntN s.F 4 truck n :=
    ⟨fun k => cntN s.F 4 truck k, rfl, fun _ => rfl, fun k => cntN_le s.F 4 truck k, rfl⟩
  have HC0 := Lib.hid hC0
  have HS := Lib.hid hCs
  have HL := Lib.hid hCl
  rw [← hCn]
  clear hw1 h hC0 hCs hCl hCn
  generalize s.k = k at *
  generalize s.F = F at *
  have x0 := cell_at X0.out 0
  have x1 := cell_at X0.out 1
  have zx := szs (block_lt X0.out)
  go_enter Tryz.func58, Tryz.ntmps58
  go_wp2_with fail
  rw [← HW1.out]
  go_loopw [5, 6] (fun s5 s6 wr => ∃ j : Nat, s6 = .int .i64 j ∧ j ≤ n ∧ s5 = .int .i64 (C j : Int) ∧ wr = w1) (fun _ s6 _ => n - (intOf s6).toNat)
  case atStart => exact ⟨0, rfl, by omega, by rw [HC0.out]; rfl, rfl⟩
  case round =>
    obtain ⟨j, rfl, hj, rfl, rfl⟩ := hrel
    by_cases hlt : j < n
    · have tj : (j : Int) < (n : Int) := by omega
      obtain ⟨g, o, rfl, hg, c0, c1, _, _⟩ := HT.out.spot hlt
      have zg := szs hg
      have HS1 := Lib.hid (HS.out j)
      have hC := HL.out j
      clear HS HL
      obtain ⟨c, hc'⟩ : ∃ c, c = C j := ⟨_, rfl⟩
      obtain ⟨d, hd⟩ : ∃ d, d = C (j + 1) := ⟨_, rfl⟩
      rw [← hc', ← hd] at HS1
      rw [← hc'] at hC ⊢
      have HCC := Lib.hid hd
      clear hc' hd
      generalize (F j).wh = y at *
      generalize (F j).pl = z at *
      by_cases h1 : y = 4
      · have t1 : (y == 4) = true := by simpa using h1
        by_cases he : z = truck
        · have te : (z == truck) = true := by simpa using he
          obtain rfl : d = c + 1 := by rw [HS1.out, if_pos ⟨h1, he⟩]
          clear he h1 HS1
          go_wp2_with fail
          go_roundw
          case rel => exact ⟨j + 1, by go_num, by omega, by rw [← HCC.out]; go_num, (by first | rfl | trivial)⟩
          case measure => simp [intOf]; omega
        · have te : (z == truck) = false := by simpa using he
          obtain rfl : d = c := by rw [HS1.out, if_neg (fun h => he h.2)]; rfl
          clear he h1 HS1
          go_wp2_with fail
          go_roundw
          case rel => exact ⟨j + 1, by go_num, by omega, by rw [← HCC.out], (by first | rfl | trivial)⟩
          case measure => simp [intOf]; omega
      · have t1 : (y == 4) = false := by simpa using h1
        obtain rfl : d = c := by rw [HS1.out, if_neg (fun h => h1 h.1)]; rfl
        clear h1 HS1
        go_wp2_with fail
        go_roundw
        case rel => exact ⟨j + 1, by go_num, by omega, by rw [← HCC.out], (by first | rfl | trivial)⟩
        case measure => simp [intOf]; omega
    · obtain rfl : j = n := by omega
      go_wp2_with fail
      go_returns
      exact ⟨rfl, BB.out⟩
end Go.Proofs.YtlnfhlmgnppcbaaGreat
