/- Trucks: the error of a night, the program's. -/
import Derived.Test.YtlnfhlmgnppcbaaTK2
import Derived.BigQuiet
namespace Go.Proofs.Ytlnfhlmgnppcbaa
open Go.RowKit Go.ChangeShapes Go.WideShapes Go.Deep
set_option linter.unusedVariables false
set_option linter.unusedSimpArgs false
set_option maxRecDepth 8000
theorem inB_node (N v : Int) : inB v 0 (N - 1) = nodeB N v := by
  rw [Bool.eq_iff_iff, inB_iff, nodeB_iff]; omega
set_option maxHeartbeats 16000000 in
theorem check114 (g : Ng) (w : World) (h : g.In w) : Calls Try.prog 114 #[.agg g.cells] w fun e w' => e = .returned (.int .i64 (nightE g)) ∧ Below w.heap.size w w' := by
  have B0 : Hid (Below w.heap.size w (w.alloc (.cells g.cells 81))) := Lib.hid (by (repeat' (first | (with_reducible exact Below.refl _ _) | (with_reducible assumption) | (with_reducible refine Below.drew ?_) | (with_reducible refine below_drewN ?_ _) | (with_reducible refine Below.alloc ?_ ?_ _) | (with_reducible refine Below.setCell ?_ ?_ _) | go_size)))
  obtain ⟨w1, hw1⟩ : ∃ w1, w1 = w.alloc (.cells g.cells 81) := ⟨_, rfl⟩
  rw [← hw1] at B0
  have HW1 := Lib.hid hw1
  have X0 : w1.heap[w.heap.size]? = some (.cells g.cells 81 (0, 0)) := by rw [hw1]; exact heap_alloc_new w _
  have HG := Lib.hid (h.below B0.out)
  have RC := Lib.hid (check121 g.N g.ea g.em g.ec g.E w1 HG.out.net)
  have IN := Lib.hid (fun n lo hi w' => in115 n lo hi w')
  have HRB : Hid (roadE g.N g.em g.E = 0 → 1 ≤ g.N ∧ g.N ≤ 64) := Lib.hid (fun h => by obtain ⟨n, hn, hr⟩ := right_of h; have := hr.n1; have := hr.n2; omega)
  have ht1 := h.trucks.hm
  have ht2 := h.trucks.hc
  have hn1 := h.needs.hm
  have hn2 := h.needs.hc
  obtain ⟨r, hr⟩ : ∃ r, r = nightE g := ⟨_, rfl⟩
  rw [← hr]
  unfold nightE at hr
  obtain ⟨x, hx⟩ : ∃ x, x = roadE g.N g.em g.E := ⟨_, rfl⟩
  rw [← hx] at RC HRB hr
  have HV := Lib.hid hr
  obtain ⟨N, ea, em, ec, E, ta, tn, tc, T, na, nn, nc, D, hh⟩ := g
  unfold Ng.cells at *
  dsimp only at *
  have x0 := cell_at X0 0
  have x1 := cell_at X0 1
  have x2 := cell_at X0 2
  have x3 := cell_at X0 3
  have x4 := cell_at X0 4
  have zx := szs (block_lt X0)
  clear hw1 h X0 hr hx
  go_enter Try.func114, Try.ntmps114
  go_wp2_with fail
  rw [← HW1.out]
  go_wp2_with fail
  refine RC.out.mono ?_
  rintro e w2 ⟨rfl, b2⟩
  have B2 := Lib.hid b2
  clear RC b2 zx
  by_cases h0 : x = 0
  · subst h0
    rw [if_neg (by simp)] at HV
    have HNB := HRB.out rfl
    have n0 := cell_kept B2.out x0
    have n1 := cell_kept B2.out x1
    have n2 := cell_kept B2.out x2
    have n3 := cell_kept B2.out x3
    have n4 := cell_kept B2.out x4
    have zn := szs (cell_lt n0)
    dsimp only at zn
    by_cases h8 : 8 < tn
    · have t8 : (8 : Int) < (tn : Int) := by omega
      have HRV : Hid (r = 8) := Lib.hid (by rw [HV.out, if_pos (.inl h8)])
      clear HV
      go_wp2_with fail
      go_returns
      exact ⟨by rw [HRV.out]; rfl, B0.out.trans (B2.out.mono B0.out.size)⟩
    have t8 : decide ((8 : Int) < (tn : Int)) = false := decide_eq_false (by omega)
    by_cases h16 : 16 < nn
    · have t16 : (16 : Int) < (nn : Int) := by omega
      have HRV : Hid (r = 8) := Lib.hid (by rw [HV.out, if_pos (.inr h16)])
      clear HV
      go_wp2_with fail
      go_returns
      exact ⟨by rw [HRV.out]; rfl, B0.out.trans (B2.out.mono B0.out.size)⟩
    have t16 : decide ((16 : Int) < (nn : Int)) = false := decide_eq_false (by omega)
    rw [if_neg (by omega)] at HV
    have hn16 : nn ≤ 16 := by omega
    clear h8 h16
    go_wp2_with fail
    go_loopw [29] (fun s29 wr => ∃ k : Nat, s29 = .int .i64 k ∧ k ≤ tn ∧ Hid (scan (fun i => truckE N (T i)) k = 0 ∧ Below w1.heap.size w1 wr)) (fun s29 _ => tn - (intOf s29).toNat)
    case atStart => exact ⟨0, rfl, by omega, Lib.hid ⟨rfl, B2.out⟩⟩
    case round =>
      obtain ⟨k, rfl, hk, hrel⟩ := hrel
      have HR := hrel
      clear hrel n0 n1 n2 n3 n4 zn
      by_cases hlt : k < tn
      · have tk : (k : Int) < (tn : Int) := by omega
        have n0 := cell_kept HR.out.2 x0
        have n1 := cell_kept HR.out.2 x1
        have n2 := cell_kept HR.out.2 x2
        have n3 := cell_kept HR.out.2 x3
        have n4 := cell_kept HR.out.2 x4
        have zn := szs (cell_lt n0)
        dsimp only at zn
        obtain ⟨q, o, rfl, hg, p0, p1, p2, p3⟩ := (HG.out.trucks.below HR.out.2).tk hlt
        have zg := szs hg
        have HHIT := Lib.hid (fun (hx : truckE N (T k) ≠ 0) => scan_hit (f := fun i => truckE N (T i)) HR.out.1 hx hlt)
        have HNEXT := Lib.hid (fun (hx : truckE N (T k) = 0) => scan_next (f := fun i => truckE N (T i)) HR.out.1 hx)
        obtain ⟨y, hy⟩ : ∃ y, y = T k := ⟨_, rfl⟩
        dsimp only at p0 p1 p2 p3
        rw [← hy] at p0 p1 p2 p3 HHIT HNEXT
        clear hy
        obtain ⟨y1, y2, y3, y4⟩ := y
        dsimp only at p0 p1 p2 p3
        have BA : Hid (Below w1.heap.size w1 (wr.alloc (.cells #[.int .i64 y1, .int .i64 y2, .int .i64 y3, .int .i64 y4] 117))) := Lib.hid (HR.out.2.alloc HR.out.2.size _)
        go_wp2_with fail
        refine (IN.out y1 0 (N - 1) _).mono ?_
        rintro e w9 ⟨rfl, rfl⟩
        rw [inB_node]
        by_cases q1 : nodeB N y1 = false
        · rw [q1]
          have HRV : Hid (r = 7) := Lib.hid (by
            have TE : truckE N ⟨y1, y2, y3, y4⟩ = 7 := by unfold truckE; rw [if_pos q1]
            rw [HV.out, HHIT.out (by rw [TE]; simp), TE]; rfl)
          clear HV HHIT HNEXT
          go_wp2_with fail
          go_returns
          exact ⟨by rw [HRV.out]; rfl, B0.out.trans (BA.out.mono B0.out.size)⟩
        have q1' : nodeB N y1 = true := by simpa using q1
        rw [q1']
        have HBAD : Hid ((y2 < 1 ∨ 32 < y2 ∨ y3 < 0 ∨ y4 < y3 ∨ 86400 < y4) → r = 1) := Lib.hid (fun hb => by
          have TE : truckE N ⟨y1, y2, y3, y4⟩ = 1 := by unfold truckE; rw [if_neg q1, if_pos hb]
          rw [HV.out, HHIT.out (by rw [TE]; simp), TE]; rfl)
        go_wp2_with fail
        refine (IN.out y2 1 32 _).mono ?_
        rintro e w9 ⟨rfl, rfl⟩
        by_cases q2 : inB y2 1 32 = false
        · rw [q2]
          have HRV : Hid (r = 1) := Lib.hid (HBAD.out (by
            have : ¬ (1 ≤ y2 ∧ y2 ≤ 32) := fun h => by rw [inB_iff.2 h] at q2; cases q2
            omega))
          clear HV HHIT HNEXT HBAD
          go_wp2_with fail
          go_returns
          exact ⟨by rw [HRV.out]; rfl, B0.out.trans (BA.out.mono B0.out.size)⟩
        have q2' : inB y2 1 32 = true := by simpa using q2
        rw [q2']
        have q2b := inB_iff.1 q2'
        by_cases q3 : y3 < 0
        · have t3 : decide (y3 < 0) = true := decide_eq_true q3
          have HRV : Hid (r = 1) := Lib.hid (HBAD.out (by omega))
          clear HV HHIT HNEXT HBAD
          go_wp2_with fail
          go_returns
          exact ⟨by rw [HRV.out]; rfl, B0.out.trans (BA.out.mono B0.out.size)⟩
        have t3 : decide (y3 < 0) = false := decide_eq_false q3
        by_cases q4 : y4 < y3
        · have t4 : decide (y4 < y3) = true := decide_eq_true q4
          have HRV : Hid (r = 1) := Lib.hid (HBAD.out (by omega))
          clear HV HHIT HNEXT HBAD
          go_wp2_with fail
          go_returns
          exact ⟨by rw [HRV.out]; rfl, B0.out.trans (BA.out.mono B0.out.size)⟩
        have t4 : decide (y4 < y3) = false := decide_eq_false q4
        by_cases q5 : 86400 < y4
        · have t5 : decide (86400 < y4) = true := decide_eq_true q5
          have HRV : Hid (r = 1) := Lib.hid (HBAD.out (by omega))
          clear HV HHIT HNEXT HBAD
          go_wp2_with fail
          go_returns
          exact ⟨by rw [HRV.out]; rfl, B0.out.trans (BA.out.mono B0.out.size)⟩
        have t5 : decide (86400 < y4) = false := decide_eq_false q5
        have HN1 := Lib.hid (HNEXT.out (by unfold truckE; dsimp only; rw [if_neg q1, if_neg (by omega)]))
        clear HHIT HNEXT HBAD
        go_wp2_with fail
        go_roundw
        case rel => exact ⟨k + 1, by go_num, by omega, Lib.hid ⟨HN1.out, BA.out⟩⟩
        case measure => simp [intOf]; omega
      · obtain rfl : k = tn := by omega
        rw [if_neg (by rw [HR.out.1]; simp)] at HV
        have BT := Lib.hid HR.out.2
        clear HR
        have n0 := cell_kept BT.out x0
        have n1 := cell_kept BT.out x1
        have n2 := cell_kept BT.out x2
        have n3 := cell_kept BT.out x3
        have n4 := cell_kept BT.out x4
        have zn := szs (cell_lt n0)
        dsimp only at zn
        go_wp2_with fail
        go_loopw [70] (fun s70 wr => ∃ k : Nat, s70 = .int .i64 k ∧ k ≤ nn ∧ Hid (scan (fun i => needE N (D i)) k = 0 ∧ Below w1.heap.size w1 wr)) (fun s70 _ => nn - (intOf s70).toNat)
        case atStart => exact ⟨0, rfl, by omega, Lib.hid ⟨rfl, BT.out⟩⟩
        case round =>
          obtain ⟨i, rfl, hi, hrel⟩ := hrel
          have HR := hrel
          clear hrel n0 n1 n2 n3 n4 zn BT
          by_cases hlt2 : i < nn
          · have ti : (i : Int) < (nn : Int) := by omega
            have n0 := cell_kept HR.out.2 x0
            have n1 := cell_kept HR.out.2 x1
            have n2 := cell_kept HR.out.2 x2
            have n3 := cell_kept HR.out.2 x3
            have n4 := cell_kept HR.out.2 x4
            have zn := szs (cell_lt n0)
            dsimp only at zn
            obtain ⟨q, o, rfl, hg, p0, p1⟩ := (HG.out.needs.below HR.out.2).nd hlt2
            have zg := szs hg
            have HHIT := Lib.hid (fun (hx : needE N (D i) ≠ 0) => scan_hit (f := fun i => needE N (D i)) HR.out.1 hx hlt2)
            have HNEXT := Lib.hid (fun (hx : needE N (D i) = 0) => scan_next (f := fun i => needE N (D i)) HR.out.1 hx)
            obtain ⟨y, hy⟩ : ∃ y, y = D i := ⟨_, rfl⟩
            dsimp only at p0 p1
            rw [← hy] at p0 p1 HHIT HNEXT
            clear hy
            obtain ⟨y1, y2⟩ := y
            dsimp only at p0 p1
            have BA : Hid (Below w1.heap.size w1 (wr.alloc (.cells #[.int .i64 y1, .int .i64 y2] 119))) := Lib.hid (HR.out.2.alloc HR.out.2.size _)
            go_wp2_with fail
            refine (IN.out y1 0 (N - 1) _).mono ?_
            rintro e w9 ⟨rfl, rfl⟩
            rw [inB_node]
            by_cases q1 : nodeB N y1 = false
            · rw [q1]
              have HRV : Hid (r = 7) := Lib.hid (by
                have TE : needE N ⟨y1, y2⟩ = 7 := by unfold needE; rw [if_pos q1]
                rw [HV.out, HHIT.out (by rw [TE]; simp), TE]; rfl)
              clear HV HHIT HNEXT
              go_wp2_with fail
              go_returns
              exact ⟨by rw [HRV.out]; rfl, B0.out.trans (BA.out.mono B0.out.size)⟩
            have q1' : nodeB N y1 = true := by simpa using q1
            rw [q1']
            have HBAD : Hid ((y2 = 0 ∨ y2 < -32 ∨ 32 < y2) → r = 1) := Lib.hid (fun hb => by
              have TE : needE N ⟨y1, y2⟩ = 1 := by unfold needE; rw [if_neg q1, if_pos hb]
              rw [HV.out, HHIT.out (by rw [TE]; simp), TE]; rfl)
            by_cases q3 : y2 = 0
            · have HRV : Hid (r = 1) := Lib.hid (HBAD.out (.inl q3))
              subst q3
              clear HV HHIT HNEXT HBAD
              go_wp2_with fail
              go_returns
              exact ⟨by rw [HRV.out]; rfl, B0.out.trans (BA.out.mono B0.out.size)⟩
            have t3 : (y2 == 0) = false := by simpa using q3
            go_wp2_with fail
            refine (IN.out y2 (-32) 32 _).mono ?_
            rintro e w9 ⟨rfl, rfl⟩
            by_cases q2 : inB y2 (-32) 32 = false
            · rw [q2]
              have HRV : Hid (r = 1) := Lib.hid (HBAD.out (by
                have : ¬ (-32 ≤ y2 ∧ y2 ≤ 32) := fun h => by rw [inB_iff.2 h] at q2; cases q2
                omega))
              clear HV HHIT HNEXT HBAD
              go_wp2_with fail
              go_returns
              exact ⟨by rw [HRV.out]; rfl, B0.out.trans (BA.out.mono B0.out.size)⟩
            have q2' : inB y2 (-32) 32 = true := by simpa using q2
            rw [q2']
            have q2b := inB_iff.1 q2'
            have HN1 := Lib.hid (HNEXT.out (by unfold needE; dsimp only; rw [if_neg q1, if_neg (by omega)]))
            clear HHIT HNEXT HBAD
            go_wp2_with fail
            go_roundw
            case rel => exact ⟨i + 1, by go_num, by omega, Lib.hid ⟨HN1.out, BA.out⟩⟩
            case measure => simp [intOf]; omega
          · obtain rfl : i = nn := by omega
            rw [if_neg (by rw [HR.out.1]; simp)] at HV
            have BT := Lib.hid HR.out.2
            clear HR
            have n0 := cell_kept BT.out x0
            have n1 := cell_kept BT.out x1
            have n2 := cell_kept BT.out x2
            have n3 := cell_kept BT.out x3
            have n4 := cell_kept BT.out x4
            have zn := szs (cell_lt n0)
            dsimp only at zn
            go_wp2_with fail
            go_loopw [95] (fun s95 wr => ∃ k : Nat, s95 = .int .i64 k ∧ k ≤ i ∧ Hid (anyN (dupB D) k = false ∧ Below w1.heap.size w1 wr)) (fun s95 _ => i - (intOf s95).toNat)
            case atStart => exact ⟨0, rfl, by omega, Lib.hid ⟨rfl, BT.out⟩⟩
            case round =>
              obtain ⟨j, rfl, hj, hrel⟩ := hrel
              have HR := hrel
              clear hrel n0 n1 n2 n3 n4 zn BT
              by_cases hlt3 : j < i
              · have tj : (j : Int) < (i : Int) := by omega
                have tj0 : (0 : Int) ≤ (j : Int) := by omega
                have tj1 : (j : Int) ≤ (nc : Int) := by omega
                have ej : j - 0 = j := by omega
                have n0 := cell_kept HR.out.2 x0
                have n1 := cell_kept HR.out.2 x1
                have n2 := cell_kept HR.out.2 x2
                have n3 := cell_kept HR.out.2 x3
                have n4 := cell_kept HR.out.2 x4
                have zn := szs (cell_lt n0)
                dsimp only at zn
                obtain ⟨q, o, rfl, hg, p0, p1⟩ := (HG.out.needs.below HR.out.2).nd hlt3
                have zg := szs hg
                have HHIT := Lib.hid (fun (hx : dupB D j = true) => anyN_yes (p := dupB D) hlt3 hx)
                have HDB : Hid (dupB D j = anyN (fun k => decide ((D k).node = (D j).node)) j) := Lib.hid rfl
                have HSC := Lib.hid ((HG.out.needs.below HR.out.2).cut (q := j) (by dsimp only; omega))
                obtain ⟨y, hy⟩ : ∃ y, y = D j := ⟨_, rfl⟩
                dsimp only at p0 p1 HSC
                rw [← hy] at p0 p1 HDB
                clear hy
                obtain ⟨y1, y2⟩ := y
                dsimp only at p0 p1 HDB
                have b3 : Below wr.heap.size wr (wr.alloc (.cells #[.int .i64 y1, .int .i64 y2] 119)) := by (repeat' (first | (with_reducible exact Below.refl _ _) | (with_reducible assumption) | (with_reducible refine Below.drew ?_) | (with_reducible refine below_drewN ?_ _) | (with_reducible refine Below.alloc ?_ ?_ _) | (with_reducible refine Below.setCell ?_ ?_ _) | go_size))
                have X3 := heap_alloc_new wr (.cells #[.int .i64 y1, .int .i64 y2] 119)
                have AN := Lib.hid (anyNode129 (some ⟨q, o, none⟩) j nc D wr.heap.size y1 _ (cell_at X3 0) (HSC.out.below b3) (by omega))
                rw [← HDB.out] at AN
                have BA : Hid (Below w1.heap.size w1 (wr.alloc (.cells #[.int .i64 y1, .int .i64 y2] 119))) := Lib.hid (HR.out.2.trans (b3.mono HR.out.2.size))
                have HDJ : Hid (dupB D j = dupB D j) := Lib.hid rfl
                obtain ⟨z, hz⟩ : ∃ z, z = dupB D j := ⟨_, rfl⟩
                rw [← hz] at AN HHIT
                have HZ := Lib.hid hz
                clear hz X3 b3 HDB HSC HDJ
                go_wp2_with fail
                refine AN.out.mono ?_
                rintro e w9 ⟨rfl, b9⟩
                have B9 := Lib.hid (BA.out.trans (b9.mono BA.out.size))
                clear b9 BA AN
                cases z with
                | true =>
                  have HRV : Hid (r = 6) := Lib.hid (by rw [HV.out, if_pos (HHIT.out rfl)])
                  clear HV HHIT
                  go_wp2_with fail
                  go_returns
                  exact ⟨by rw [HRV.out]; rfl, B0.out.trans (B9.out.mono B0.out.size)⟩
                | false =>
                  have HN1 : Hid (anyN (dupB D) (j + 1) = false) := Lib.hid (by rw [anyN, HR.out.1, ← HZ.out]; rfl)
                  clear HHIT
                  go_wp2_with fail
                  go_roundw
                  case rel => exact ⟨j + 1, by go_num, by omega, Lib.hid ⟨HN1.out, B9.out⟩⟩
                  case measure => simp [intOf]; omega
              · obtain rfl : j = i := by omega
                rw [if_neg (by rw [HR.out.1]; simp)] at HV
                have BT := Lib.hid HR.out.2
                clear HR
                have n0 := cell_kept BT.out x0
                have n1 := cell_kept BT.out x1
                have n2 := cell_kept BT.out x2
                have n3 := cell_kept BT.out x3
                have n4 := cell_kept BT.out x4
                have zn := szs (cell_lt n0)
                dsimp only at zn
                go_wp2_with fail
                refine (IN.out hh 0 3600 _).mono ?_
                rintro e w9 ⟨rfl, rfl⟩
                by_cases q2 : inB hh 0 3600 = false
                · rw [q2]
                  have HRV : Hid (r = 1) := Lib.hid (by
                    have : ¬ (0 ≤ hh ∧ hh ≤ 3600) := fun h => by rw [inB_iff.2 h] at q2; cases q2
                    rw [HV.out, if_pos (by omega)])
                  clear HV
                  go_wp2_with fail
                  go_returns
                  exact ⟨by rw [HRV.out]; rfl, B0.out.trans (BT.out.mono B0.out.size)⟩
                · have q2' : inB hh 0 3600 = true := by simpa using q2
                  rw [q2']
                  have HRV : Hid (r = 0) := Lib.hid (by have := inB_iff.1 q2'; rw [HV.out, if_neg (by omega)])
                  clear HV
                  go_wp2_with fail
                  go_returns
                  exact ⟨by rw [HRV.out]; rfl, B0.out.trans (BT.out.mono B0.out.size)⟩
  · have tx : (x != 0) = true := by simpa using h0
    have HRV : Hid (r = x) := Lib.hid (by rw [HV.out, if_pos h0])
    clear HV HRB
    go_wp2_with fail
    go_returns
    exact ⟨by rw [HRV.out]; rfl, B0.out.trans (B2.out.mono B0.out.size)⟩
end Go.Proofs.Ytlnfhlmgnppcbaa
