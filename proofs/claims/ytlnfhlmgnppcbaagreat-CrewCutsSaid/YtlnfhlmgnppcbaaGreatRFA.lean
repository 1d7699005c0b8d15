/- General theorems of this seat, in one text. -/
import Derived.Test.YtlnfhlmgnppcbaaGreatTKA
import Derived.Test.YtlnfhlmgnppcbaaGreatCTA
import Derived.Test.YtlnfhlmgnppcbaaGreatR8Z
import Derived.BigQuiet
import Derived.Test.YtlnfhlmgnppcbaaGreatR8Y
import Derived.BigRegion
/- The reference's trucks: the error of a truck, of a need; does a number occur twice. -/
namespace Go.Proofs.YtlnfhlmgnppcbaaGreat
open Go.RowKit Go.ChangeShapes Go.WideShapes Go.Deep
set_option linter.unusedVariables false
set_option linter.unusedSimpArgs false
set_option maxRecDepth 8000
set_option maxHeartbeats 4000000 in
theorem truck120 (g : Ng) (t : Tk) (w : World) : Calls Tryz.prog 120 #[.agg g.cells, .agg (tkC t)] w fun e w' => e = .returned (.int .i64 (truckE g.N t)) ∧ Below w.heap.size w w' := by
  obtain ⟨x, hx⟩ : ∃ x, x = truckE g.N t := ⟨_, rfl⟩
  rw [← hx]
  unfold truckE at hx
  obtain ⟨d1, d2, d3, d4⟩ := t
  unfold tkC
  dsimp only at hx ⊢
  have HX := Lib.hid hx
  clear hx
  have BA : Hid (Below w.heap.size w ((w.alloc (.cells g.cells 32)).alloc (.cells #[.int .i64 d1, .int .i64 d2, .int .i64 d3, .int .i64 d4] 62))) := Lib.hid (by (repeat' (first | (with_reducible exact Below.refl _ _) | (with_reducible assumption) | (with_reducible refine Below.drew ?_) | (with_reducible refine below_drewN ?_ _) | (with_reducible refine Below.alloc ?_ ?_ _) | (with_reducible refine Below.setCell ?_ ?_ _) | go_size)))
  have X0 := Lib.hid (al_keep (al_at w (.cells g.cells 32) rfl) (.cells #[.int .i64 d1, .int .i64 d2, .int .i64 d3, .int .i64 d4] 62))
  have X1 := Lib.hid (al_at (w.alloc (.cells g.cells 32)) (.cells #[.int .i64 d1, .int .i64 d2, .int .i64 d3, .int .i64 d4] 62) (k := w.heap.size + 1) (by simp))
  obtain ⟨w1, hw1⟩ : ∃ w1, w1 = (w.alloc (.cells g.cells 32)).alloc (.cells #[.int .i64 d1, .int .i64 d2, .int .i64 d3, .int .i64 d4] 62) := ⟨_, rfl⟩
  rw [← hw1] at BA X0 X1
  have HW1 := Lib.hid hw1
  have HCC : Hid (g.cells = #[.int .i64 g.N, .slice g.ea g.em g.ec, .slice g.ta g.tn g.tc, .slice g.na g.nn g.nc, .int .i64 g.h]) := Lib.hid rfl
  rw [HCC.out] at X0 HW1 ⊢
  clear hw1
  have ND := Lib.hid (fun w' => node62 g.N d1 (.slice g.ea g.em g.ec) w' rfl)
  have n0 := cell_kept (Below.refl w1.heap.size w1) (cell_at X0.out 0)
  have n1 := cell_kept (Below.refl w1.heap.size w1) (cell_at X0.out 1)
  have n2 := cell_kept (Below.refl w1.heap.size w1) (cell_at X0.out 2)
  have n3 := cell_kept (Below.refl w1.heap.size w1) (cell_at X0.out 3)
  have n4 := cell_kept (Below.refl w1.heap.size w1) (cell_at X0.out 4)
  try dsimp only at n0 n1 n2 n3 n4
  have zn := szs (cell_lt n0)
  dsimp only at zn
  have k0 := cell_at X1.out 0
  have zk := szs (block_lt X1.out)
  obtain ⟨q, hq⟩ : ∃ q, q = nodeB g.N d1 := ⟨_, rfl⟩
  rw [← hq] at ND HX
  clear hq
  go_enter Tryz.func120, Tryz.ntmps120
  go_wp2_with fail
  rw [← HW1.out]
  go_wp2_with fail
  refine (ND.out _).mono ?_
  rintro e w2 ⟨rfl, b2⟩
  have BN := Lib.hid (BA.out.trans (b2.mono BA.out.size))
  clear n0 n1 n2 n3 n4 zn k0 zk ND
  have k1 := cell_kept b2 (cell_at X1.out 1)
  have k2 := cell_kept b2 (cell_at X1.out 2)
  have k3 := cell_kept b2 (cell_at X1.out 3)
  try dsimp only at k1 k2 k3
  have zk := szs (cell_lt k1)
  dsimp only at zk
  clear b2
  cases q with
  | false =>
    rw [if_pos rfl] at HX
    go_wp2_with fail
    go_returns
    exact ⟨by rw [HX.out]; rfl, BN.out⟩
  | true =>
    rw [if_neg (by simp)] at HX
    by_cases h1 : d2 < 1
    · have t1 : decide (d2 < 1) = true := decide_eq_true h1
      rw [if_pos (by omega)] at HX
      go_wp2_with fail
      go_returns
      exact ⟨by rw [HX.out]; rfl, BN.out⟩
    have t1 : decide (d2 < 1) = false := decide_eq_false h1
    by_cases h2 : 32 < d2
    · have t2 : decide (32 < d2) = true := decide_eq_true h2
      rw [if_pos (by omega)] at HX
      go_wp2_with fail
      go_returns
      exact ⟨by rw [HX.out]; rfl, BN.out⟩
    have t2 : decide (32 < d2) = false := decide_eq_false h2
    by_cases h3 : d3 < 0
    · have t3 : decide (d3 < 0) = true := decide_eq_true h3
      rw [if_pos (by omega)] at HX
      go_wp2_with fail
      go_returns
      exact ⟨by rw [HX.out]; rfl, BN.out⟩
    have t3 : decide (d3 < 0) = false := decide_eq_false h3
    by_cases h4 : d4 < d3
    · have t4 : decide (d4 < d3) = true := decide_eq_true h4
      rw [if_pos (by omega)] at HX
      go_wp2_with fail
      go_returns
      exact ⟨by rw [HX.out]; rfl, BN.out⟩
    have t4 : decide (d4 < d3) = false := decide_eq_false h4
    by_cases h5 : 86400 < d4
    · have t5 : decide (86400 < d4) = true := decide_eq_true h5
      rw [if_pos (by omega)] at HX
      go_wp2_with fail
      go_returns
      exact ⟨by rw [HX.out]; rfl, BN.out⟩
    have t5 : decide (86400 < d4) = false := decide_eq_false h5
    rw [if_neg (by omega)] at HX
    go_wp2_with fail
    go_returns
    exact ⟨by rw [HX.out]; rfl, BN.out⟩
set_option maxHeartbeats 4000000 in
theorem need121 (g : Ng) (t : Nd) (w : World) : Calls Tryz.prog 121 #[.agg g.cells, .agg (ndC t)] w fun e w' => e = .returned (.int .i64 (needE g.N t)) ∧ Below w.heap.size w w' := by
  obtain ⟨x, hx⟩ : ∃ x, x = needE g.N t := ⟨_, rfl⟩
  rw [← hx]
  unfold needE at hx
  obtain ⟨d1, d2⟩ := t
  unfold ndC
  dsimp only at hx ⊢
  have HX := Lib.hid hx
  clear hx
  have BA : Hid (Below w.heap.size w ((w.alloc (.cells g.cells 32)).alloc (.cells #[.int .i64 d1, .int .i64 d2] 58))) := Lib.hid (by (repeat' (first | (with_reducible exact Below.refl _ _) | (with_reducible assumption) | (with_reducible refine Below.drew ?_) | (with_reducible refine below_drewN ?_ _) | (with_reducible refine Below.alloc ?_ ?_ _) | (with_reducible refine Below.setCell ?_ ?_ _) | go_size)))
  have X0 := Lib.hid (al_keep (al_at w (.cells g.cells 32) rfl) (.cells #[.int .i64 d1, .int .i64 d2] 58))
  have X1 := Lib.hid (al_at (w.alloc (.cells g.cells 32)) (.cells #[.int .i64 d1, .int .i64 d2] 58) (k := w.heap.size + 1) (by simp))
  obtain ⟨w1, hw1⟩ : ∃ w1, w1 = (w.alloc (.cells g.cells 32)).alloc (.cells #[.int .i64 d1, .int .i64 d2] 58) := ⟨_, rfl⟩
  rw [← hw1] at BA X0 X1
  have HW1 := Lib.hid hw1
  have HCC : Hid (g.cells = #[.int .i64 g.N, .slice g.ea g.em g.ec, .slice g.ta g.tn g.tc, .slice g.na g.nn g.nc, .int .i64 g.h]) := Lib.hid rfl
  rw [HCC.out] at X0 HW1 ⊢
  clear hw1
  have ND := Lib.hid (fun w' => node62 g.N d1 (.slice g.ea g.em g.ec) w' rfl)
  have n0 := cell_kept (Below.refl w1.heap.size w1) (cell_at X0.out 0)
  have n1 := cell_kept (Below.refl w1.heap.size w1) (cell_at X0.out 1)
  have n2 := cell_kept (Below.refl w1.heap.size w1) (cell_at X0.out 2)
  have n3 := cell_kept (Below.refl w1.heap.size w1) (cell_at X0.out 3)
  have n4 := cell_kept (Below.refl w1.heap.size w1) (cell_at X0.out 4)
  try dsimp only at n0 n1 n2 n3 n4
  have zn := szs (cell_lt n0)
  dsimp only at zn
  have k0 := cell_at X1.out 0
  have zk := szs (block_lt X1.out)
  obtain ⟨q, hq⟩ : ∃ q, q = nodeB g.N d1 := ⟨_, rfl⟩
  rw [← hq] at ND HX
  clear hq
  go_enter Tryz.func121, Tryz.ntmps121
  go_wp2_with fail
  rw [← HW1.out]
  go_wp2_with fail
  refine (ND.out _).mono ?_
  rintro e w2 ⟨rfl, b2⟩
  have BN := Lib.hid (BA.out.trans (b2.mono BA.out.size))
  clear n0 n1 n2 n3 n4 zn k0 zk ND
  have k1 := cell_kept b2 (cell_at X1.out 1)
  try dsimp only at k1
  have zk := szs (cell_lt k1)
  dsimp only at zk
  clear b2
  cases q with
  | false =>
    rw [if_pos rfl] at HX
    go_wp2_with fail
    go_returns
    exact ⟨by rw [HX.out]; rfl, BN.out⟩
  | true =>
    rw [if_neg (by simp)] at HX
    by_cases h1 : d2 = 0
    · rw [if_pos (by omega)] at HX
      subst h1
      go_wp2_with fail
      go_returns
      exact ⟨by rw [HX.out]; rfl, BN.out⟩
    have t1 : (d2 == 0) = false := by simpa using h1
    by_cases h2 : d2 < -32
    · have t2 : decide (d2 < -32) = true := decide_eq_true h2
      rw [if_pos (by omega)] at HX
      go_wp2_with fail
      go_returns
      exact ⟨by rw [HX.out]; rfl, BN.out⟩
    have t2 : decide (d2 < -32) = false := decide_eq_false h2
    by_cases h3 : 32 < d2
    · have t3 : decide (32 < d2) = true := decide_eq_true h3
      rw [if_pos (by omega)] at HX
      go_wp2_with fail
      go_returns
      exact ⟨by rw [HX.out]; rfl, BN.out⟩
    have t3 : decide (32 < d2) = false := decide_eq_false h3
    rw [if_neg (by omega)] at HX
    clear h1
    go_wp2_with fail
    go_returns
    exact ⟨by rw [HX.out]; rfl, BN.out⟩
set_option maxHeartbeats 4000000 in
theorem twice122 (ao : Option Addr) (m c : Nat) (F : Nat → Int) (w : World) (h : Sl w 1 ao m c (nf F)) (hm : m ≤ 1000) : Calls Tryz.prog 122 #[.slice ao m c] w fun e w' => e = .returned (.bool (twiB F m)) ∧ Below w.heap.size w w' := by
  have hmc := h.hm
  have hcc := h.hc
  have HS := Lib.hid h
  clear h
  unfold twiB
  go_enter Tryz.func122, Tryz.ntmps122
  go_wp2_with fail
  go_loopw [3] (fun i wr => ∃ j : Nat, i = .int .i64 j ∧ j ≤ m ∧ Hid (anyN (fun i => anyN (fun j => decide (F j = F i)) i) j = false ∧ Below w.heap.size w wr)) (fun i _ => m - (intOf i).toNat)
  case atStart => exact ⟨0, rfl, by omega, Lib.hid ⟨rfl, Below.refl _ _⟩⟩
  case round =>
    obtain ⟨j, rfl, hj, hrel⟩ := hrel
    have HR := hrel
    clear hrel
    by_cases hlt : j < m
    · have tj : (j : Int) < (m : Int) := by omega
      have HRO := HR
      have hlo := hlt
      clear HR
      go_wp2_with fail
      go_loopw [4] (fun s4 w2 => ∃ k : Nat, s4 = .int .i64 k ∧ k ≤ j ∧ Hid (anyN (fun k => decide (F k = F j)) k = false ∧ Below w.heap.size w w2)) (fun s4 _ => j - (intOf s4).toNat)
      case atStart => exact ⟨0, rfl, by omega, Lib.hid ⟨rfl, HRO.out.2⟩⟩
      case round =>
        obtain ⟨k, rfl, hk, hrel⟩ := hrel
        have HR := hrel
        clear hrel
        by_cases hkl : k < j
        · have tk : (k : Int) < (j : Int) := by omega
          obtain ⟨g, o, rfl, hg, e0⟩ := (HS.out.below HR.out.2).num (i := k) (by omega)
          obtain ⟨_, _, e9, _, e1⟩ := (HS.out.below HR.out.2).num (i := j) hlt
          cases e9
          have zg := szs hg
          have tk2 : (k : Int) < (m : Int) := by omega
          obtain ⟨x, hx⟩ : ∃ x, x = F k := ⟨_, rfl⟩
          obtain ⟨y, hy⟩ : ∃ y, y = F j := ⟨_, rfl⟩
          rw [← hx] at e0
          rw [← hy] at e1
          have HX := Lib.hid hx
          have HY := Lib.hid hy
          clear hx hy
          by_cases hv : x = y
          · subst hv
            have tv : (x == x) = true := by simp
            have HA : Hid (anyN (fun i => anyN (fun j => decide (F j = F i)) i) m = true) := Lib.hid (anyN_yes hlt (anyN_yes (p := fun k => decide (F k = F j)) hkl (by simp [← HX.out, ← HY.out])))
            go_wp2_with fail
            (refine region_all (fun i : Nat => World.drewN _ i) mixed (by kernel_rfl) ⟨1, rfl⟩ ?_; (repeat (any_goals (first | go_big_quiet_step (fail) | quiet_step (fail) | (refine wpQuiet_step (fun K hK => ?_); go_simp; split <;> (refine hK _ ?_; clear hK K))))); (all_goals (refine wpQuiet_nil (fun nq => ?_))))
            go_wp2_with fail
            go_returns
            exact ⟨by rw [HA.out]; rfl, below_drewN HR.out.2 _⟩
          · have tv : (x == y) = false := by simpa using hv
            have HA : Hid (anyN (fun k => decide (F k = F j)) (k + 1) = false) := Lib.hid (by unfold anyN; rw [HR.out.1, ← HX.out, ← HY.out]; simp; exact hv)
            go_wp2_with fail
            (refine region_all (fun i : Nat => World.drewN _ i) mixed (by kernel_rfl) ⟨1, rfl⟩ ?_; (repeat (any_goals (first | go_big_quiet_step (fail) | quiet_step (fail) | (refine wpQuiet_step (fun K hK => ?_); go_simp; split <;> (refine hK _ ?_; clear hK K))))); (all_goals (refine wpQuiet_nil (fun nq => ?_))))
            go_wp2_with fail
            go_roundw
            case rel => exact ⟨k + 1, by go_num, by omega, Lib.hid ⟨HA.out, below_drewN HR.out.2 _⟩⟩
            case measure => simp [intOf]; omega
        · obtain rfl : k = j := by omega
          have HA : Hid (anyN (fun i => anyN (fun j => decide (F j = F i)) i) (k + 1) = false) := Lib.hid (by rw [anyN, HRO.out.1, HR.out.1]; rfl)
          go_wp2_with fail
          go_roundw
          case rel => exact ⟨k + 1, by go_num, by omega, Lib.hid ⟨HA.out, HR.out.2⟩⟩
          case measure => simp [intOf]; omega
    · obtain rfl : j = m := by omega
      go_wp2_with fail
      go_returns
      exact ⟨by rw [HR.out.1]; rfl, HR.out.2⟩
end Go.Proofs.YtlnfhlmgnppcbaaGreat

/- The reference's trucks: the error of a night, of a route's numbers. -/
namespace Go.Proofs.YtlnfhlmgnppcbaaGreat
open Go.RowKit Go.ChangeShapes Go.WideShapes Go.Deep
set_option linter.unusedVariables false
set_option linter.unusedSimpArgs false
set_option maxRecDepth 8000
set_option maxHeartbeats 8000000 in
theorem names92 (g : Ng) (r : Int) (R : Nat → Int) (k : Nat) (ra : Option Addr) (rc : Nat) (w : World) (hg : g.In w) (hR : Sl w 1 ra k rc (nf R)) (hk : k ≤ 1000) :
    Calls Tryz.prog 92 #[.agg g.cells, .agg #[.int .i64 r, .slice ra k rc]] w fun e w' => e = .returned (.int .i64 (namesE g r R k)) ∧ Below w.heap.size w w' := by
  have BA : Hid (Below w.heap.size w ((w.alloc (.cells g.cells 32)).alloc (.cells #[.int .i64 r, .slice ra k rc] 51))) := Lib.hid (by (repeat' (first | (with_reducible exact Below.refl _ _) | (with_reducible assumption) | (with_reducible refine Below.drew ?_) | (with_reducible refine below_drewN ?_ _) | (with_reducible refine Below.alloc ?_ ?_ _) | (with_reducible refine Below.setCell ?_ ?_ _) | go_size)))
  have X0 := Lib.hid (al_keep (al_at w (.cells g.cells 32) rfl) (.cells #[.int .i64 r, .slice ra k rc] 51))
  have X1 := Lib.hid (al_at (w.alloc (.cells g.cells 32)) (.cells #[.int .i64 r, .slice ra k rc] 51) (k := w.heap.size + 1) (by simp))
  obtain ⟨w1, hw1⟩ : ∃ w1, w1 = (w.alloc (.cells g.cells 32)).alloc (.cells #[.int .i64 r, .slice ra k rc] 51) := ⟨_, rfl⟩
  rw [← hw1] at BA X0 X1
  have HW1 := Lib.hid hw1
  have HCC : Hid (g.cells = #[.int .i64 g.N, .slice g.ea g.em g.ec, .slice g.ta g.tn g.tc, .slice g.na g.nn g.nc, .int .i64 g.h]) := Lib.hid rfl
  rw [HCC.out] at X0 HW1 ⊢
  have HR := Lib.hid (hR.below BA.out)
  have hrm := hR.hm
  have hrc := hR.hc
  have htm := hg.trucks.hm
  have htc := hg.trucks.hc
  have hnm := hg.needs.hm
  have hnc := hg.needs.hc
  have TW := Lib.hid (fun w' (hb : Below w1.heap.size w1 w') => twice122 ra k rc R w' (HR.out.below hb) hk)
  obtain ⟨x, hx⟩ : ∃ x, x = namesE g r R k := ⟨_, rfl⟩
  rw [← hx]
  unfold namesE at hx
  have HX := Lib.hid hx
  clear hw1 hg hR hx
  by_cases h1 : r < 0
  · have t1 : decide (r < 0) = true := decide_eq_true h1
    rw [if_pos (.inl h1)] at HX
    go_enter Tryz.func92, Tryz.ntmps92
    go_wp2_with fail
    rw [← HW1.out]
    go_returns
    exact ⟨by rw [HX.out]; rfl, BA.out⟩
  have t1 : decide (r < 0) = false := decide_eq_false h1
  by_cases h2 : (g.tn : Int) ≤ r
  · have t2 : decide ((g.tn : Int) ≤ r) = true := decide_eq_true h2
    rw [if_pos (.inr h2)] at HX
    go_enter Tryz.func92, Tryz.ntmps92
    go_wp2_with fail
    rw [← HW1.out]
    go_returns
    exact ⟨by rw [HX.out]; rfl, BA.out⟩
  have t2 : decide ((g.tn : Int) ≤ r) = false := decide_eq_false h2
  rw [if_neg (by omega)] at HX
  clear h1 h2
  go_enter Tryz.func92, Tryz.ntmps92
  go_wp2_with fail
  rw [← HW1.out]
  go_loopw [5] (fun s5 wr => ∃ j : Nat, s5 = .int .i64 j ∧ j ≤ k ∧ Hid (anyN (fun i => outB g.nn (R i)) j = false) ∧ Hid (Below w1.heap.size w1 wr)) (fun s5 _ => k - (intOf s5).toNat)
  case atStart => exact ⟨0, rfl, by omega, Lib.hid rfl, Lib.hid (Below.refl _ _)⟩
  case round =>
    obtain ⟨j, rfl, hj, han, hbw⟩ := hrel
    have AN := han
    have BW := hbw
    clear han hbw
    have BE := Lib.hid (BA.out.trans (BW.out.mono BA.out.size))
    have n0 := cell_kept BW.out (cell_at X0.out 0)
    have n1 := cell_kept BW.out (cell_at X0.out 1)
    have n2 := cell_kept BW.out (cell_at X0.out 2)
    have n3 := cell_kept BW.out (cell_at X0.out 3)
    have n4 := cell_kept BW.out (cell_at X0.out 4)
    try dsimp only at n0 n1 n2 n3 n4
    have zn := szs (cell_lt n0)
    dsimp only at zn
    have r0 := cell_kept BW.out (cell_at X1.out 0)
    have r1 := cell_kept BW.out (cell_at X1.out 1)
    try dsimp only at r0 r1
    have zr := szs (cell_lt r0)
    dsimp only at zr
    by_cases hlt : j < k
    · have tj : (j : Int) < (k : Int) := by omega
      obtain ⟨q, o, rfl, hg, e0⟩ := (HR.out.below BW.out).num hlt
      have zg := szs hg
      have HHIT := Lib.hid (fun (h : outB g.nn (R j) = true) => anyN_yes (p := fun i => outB g.nn (R i)) hlt h)
      have HNX : Hid (outB g.nn (R j) = false → anyN (fun i => outB g.nn (R i)) (j + 1) = false) := Lib.hid (fun h => by rw [anyN, AN.out, h]; rfl)
      generalize hy : R j = y at *
      have HY := Lib.hid hy
      clear hy
      by_cases h3 : y < 0
      · have t3 : decide (y < 0) = true := decide_eq_true h3
        have ho : outB g.nn y = true := by
          cases hh : outB g.nn y
          · rw [outB_iff] at hh; omega
          · rfl
        rw [if_pos (HHIT.out ho)] at HX
        clear HHIT HNX ho
        go_wp2_with fail
        (refine region_all (fun i : Nat => World.drewN _ i) mixed (by kernel_rfl) ⟨1, rfl⟩ ?_; (repeat (any_goals (first | go_big_quiet_step (fail) | quiet_step (fail) | (refine wpQuiet_step (fun K hK => ?_); go_simp; split <;> (refine hK _ ?_; clear hK K))))); (all_goals (refine wpQuiet_nil (fun nq => ?_))))
        go_wp2_with fail
        go_returns
        exact ⟨by rw [HX.out]; rfl, below_drewN BE.out _⟩
      have t3 : decide (y < 0) = false := decide_eq_false h3
      by_cases h4 : (g.nn : Int) ≤ y
      · have t4 : decide ((g.nn : Int) ≤ y) = true := decide_eq_true h4
        have ho : outB g.nn y = true := by
          cases hh : outB g.nn y
          · rw [outB_iff] at hh; omega
          · rfl
        rw [if_pos (HHIT.out ho)] at HX
        clear HHIT HNX ho
        go_wp2_with fail
        (refine region_all (fun i : Nat => World.drewN _ i) mixed (by kernel_rfl) ⟨1, rfl⟩ ?_; (repeat (any_goals (first | go_big_quiet_step (fail) | quiet_step (fail) | (refine wpQuiet_step (fun K hK => ?_); go_simp; split <;> (refine hK _ ?_; clear hK K))))); (all_goals (refine wpQuiet_nil (fun nq => ?_))))
        go_wp2_with fail
        go_returns
        exact ⟨by rw [HX.out]; rfl, below_drewN BE.out _⟩
      have t4 : decide ((g.nn : Int) ≤ y) = false := decide_eq_false h4
      have HN := Lib.hid (HNX.out (outB_iff.2 ⟨by omega, by omega⟩))
      clear HHIT HNX h3 h4
      go_wp2_with fail
      (refine region_all (fun i : Nat => World.drewN _ i) mixed (by kernel_rfl) ⟨1, rfl⟩ ?_; (repeat (any_goals (first | go_big_quiet_step (fail) | quiet_step (fail) | (refine wpQuiet_step (fun K hK => ?_); go_simp; split <;> (refine hK _ ?_; clear hK K))))); (all_goals (refine wpQuiet_nil (fun nq => ?_))))
      go_wp2_with fail
      go_roundw
      case rel => exact ⟨j + 1, by go_num, by omega, HN, Lib.hid (below_drewN BW.out _)⟩
      case measure => simp [intOf]; omega
    · obtain rfl : j = k := by omega
      rw [if_neg (by rw [AN.out]; simp)] at HX
      have TW1 := TW.out wr BW.out
      obtain ⟨z, hz⟩ : ∃ z, z = twiB R j := ⟨_, rfl⟩
      rw [← hz] at TW1 HX
      replace TW1 := Lib.hid TW1
      clear hz
      go_wp2_with fail
      refine TW1.out.mono ?_
      rintro e w4 ⟨rfl, b4⟩
      have BZ := Lib.hid (BE.out.trans (b4.mono BE.out.size))
      clear TW1 b4
      cases z with
      | true =>
        rw [if_pos rfl] at HX
        go_wp2_with fail
        go_returns
        exact ⟨by rw [HX.out]; rfl, BZ.out⟩
      | false =>
        rw [if_neg (by simp)] at HX
        go_wp2_with fail
        go_returns
        exact ⟨by rw [HX.out]; rfl, BZ.out⟩
end Go.Proofs.YtlnfhlmgnppcbaaGreat

/- The reference's trucks: the error of a night. -/
namespace Go.Proofs.YtlnfhlmgnppcbaaGreat
open Go.RowKit Go.ChangeShapes Go.WideShapes Go.Deep
set_option linter.unusedVariables false
set_option linter.unusedSimpArgs false
set_option maxRecDepth 8000
set_option maxHeartbeats 16000000 in
theorem check91 (g : Ng) (w : World) (h : g.In w) : Calls Tryz.prog 91 #[.agg g.cells] w fun e w' => e = .returned (.int .i64 (nightE g)) ∧ Below w.heap.size w w' := by
  have B0 : Hid (Below w.heap.size w (w.alloc (.cells g.cells 32))) := Lib.hid (by (repeat' (first | (with_reducible exact Below.refl _ _) | (with_reducible assumption) | (with_reducible refine Below.drew ?_) | (with_reducible refine below_drewN ?_ _) | (with_reducible refine Below.alloc ?_ ?_ _) | (with_reducible refine Below.setCell ?_ ?_ _) | go_size)))
  obtain ⟨w1, hw1⟩ : ∃ w1, w1 = w.alloc (.cells g.cells 32) := ⟨_, rfl⟩
  rw [← hw1] at B0
  have HW1 := Lib.hid hw1
  have X0 : w1.heap[w.heap.size]? = some (.cells g.cells 32 (0, 0)) := by rw [hw1]; exact heap_alloc_new w _
  have HG := Lib.hid (h.below B0.out)
  have RC := Lib.hid (check61 g.N g.ea g.em g.ec g.E w1 HG.out.net)
  have ht1 := h.trucks.hm
  have ht2 := h.trucks.hc
  have hn1 := h.needs.hm
  have hn2 := h.needs.hc
  obtain ⟨r, hr⟩ : ∃ r, r = nightE g := ⟨_, rfl⟩
  rw [← hr]
  unfold nightE at hr
  obtain ⟨x, hx⟩ : ∃ x, x = roadE g.N g.em g.E := ⟨_, rfl⟩
  rw [← hx] at RC hr
  have HV := Lib.hid hr
  have TR := Lib.hid (fun t w' => truck120 g t w')
  have NE := Lib.hid (fun t w' => need121 g t w')
  have HCC : Hid (g.cells = #[.int .i64 g.N, .slice g.ea g.em g.ec, .slice g.ta g.tn g.tc, .slice g.na g.nn g.nc, .int .i64 g.h]) := Lib.hid rfl
  rw [HCC.out] at X0 HW1 ⊢
  have x0 := cell_at X0 0
  have x1 := cell_at X0 1
  have x2 := cell_at X0 2
  have x3 := cell_at X0 3
  have x4 := cell_at X0 4
  have zx := szs (block_lt X0)
  clear hw1 h X0 hr hx
  go_enter Tryz.func91, Tryz.ntmps91
  go_wp2_with fail
  rw [← HW1.out]
  refine RC.out.mono ?_
  rintro e w2 ⟨rfl, b2⟩
  have B2 := Lib.hid b2
  clear RC b2 zx
  by_cases h0 : x = 0
  · subst h0
    rw [if_neg (by simp)] at HV
    have n0 := cell_kept B2.out x0
    have n1 := cell_kept B2.out x1
    have n2 := cell_kept B2.out x2
    have n3 := cell_kept B2.out x3
    have n4 := cell_kept B2.out x4
    have zn := szs (cell_lt n0)
    dsimp only at zn
    by_cases h8 : 8 < g.tn
    · have t8 : decide ((8 : Int) < (g.tn : Int)) = true := decide_eq_true (by omega)
      have HRV : Hid (r = 8) := Lib.hid (by rw [HV.out, if_pos (.inl h8)])
      clear HV
      go_wp2_with fail
      go_returns
      exact ⟨by rw [HRV.out]; rfl, B0.out.trans (B2.out.mono B0.out.size)⟩
    have t8 : decide ((8 : Int) < (g.tn : Int)) = false := decide_eq_false (by omega)
    by_cases h16 : 16 < g.nn
    · have t16 : decide ((16 : Int) < (g.nn : Int)) = true := decide_eq_true (by omega)
      have HRV : Hid (r = 8) := Lib.hid (by rw [HV.out, if_pos (.inr h16)])
      clear HV
      go_wp2_with fail
      go_returns
      exact ⟨by rw [HRV.out]; rfl, B0.out.trans (B2.out.mono B0.out.size)⟩
    have t16 : decide ((16 : Int) < (g.nn : Int)) = false := decide_eq_false (by omega)
    rw [if_neg (by omega)] at HV
    have hn16 : g.nn ≤ 16 := by omega
    clear h8 h16
    go_wp2_with fail
    go_loopw [4] (fun s4 wr => ∃ k : Nat, s4 = .int .i64 k ∧ k ≤ g.tn ∧ Hid (scan (fun i => truckE g.N (g.T i)) k = 0 ∧ Below w1.heap.size w1 wr)) (fun s4 _ => g.tn - (intOf s4).toNat)
    case atStart => exact ⟨0, rfl, by omega, Lib.hid ⟨rfl, B2.out⟩⟩
    case round =>
      obtain ⟨k, rfl, hk, hrel⟩ := hrel
      have HR := hrel
      clear hrel n0 n1 n2 n3 n4 zn
      have n0 := cell_kept HR.out.2 x0
      have n1 := cell_kept HR.out.2 x1
      have n2 := cell_kept HR.out.2 x2
      have n3 := cell_kept HR.out.2 x3
      have n4 := cell_kept HR.out.2 x4
      have zn := szs (cell_lt n0)
      dsimp only at zn
      by_cases hlt : k < g.tn
      · have tk : (k : Int) < (g.tn : Int) := by omega
        obtain ⟨q, o, hta, hg, p0, p1, p2, p3⟩ := (HG.out.trucks.below HR.out.2).tk hlt
        have zg := szs hg
        have HHIT := Lib.hid (fun (hx : truckE g.N (g.T k) ≠ 0) => scan_hit (f := fun i => truckE g.N (g.T i)) HR.out.1 hx hlt)
        have HNEXT := Lib.hid (fun (hx : truckE g.N (g.T k) = 0) => scan_next (f := fun i => truckE g.N (g.T i)) HR.out.1 hx)
        have C1 := TR.out (g.T k)
        obtain ⟨z, hz⟩ : ∃ z, z = truckE g.N (g.T k) := ⟨_, rfl⟩
        rw [← hz] at HHIT HNEXT
        simp only [← hz] at C1
        clear hz
        rw [hta] at n2
        have HCT : Hid (g.cells = #[.int .i64 g.N, .slice g.ea g.em g.ec, .slice (some ⟨q, o, none⟩) g.tn g.tc, .slice g.na g.nn g.nc, .int .i64 g.h]) := Lib.hid (by rw [HCC.out, hta])
        rw [HCT.out] at C1
        clear hta
        generalize g.T k = y at *
        obtain ⟨y1, y2, y3, y4⟩ := y
        unfold tkC at C1
        dsimp only at p0 p1 p2 p3 C1
        replace C1 := Lib.hid C1
        go_wp2_with fail
        (refine region_order (fun i : Nat => World.drewN _ i) [] [0, 1, 2, 3, 4, 5] 6 [7] mixed (by kernel_rfl) ⟨1, rfl⟩ ?_; simp only [List.map_cons, List.map_nil, Array.getD_eq_getD_getElem?, List.getElem?_toArray, List.getElem?_cons_zero, List.getElem?_cons_succ, Option.getD_some]; (repeat (refine wpPure_cons _ rfl (fun w' => by go_simp; try rfl) ?_; dsimp only [Act.put])); refine wpPure_nil ?_; (repeat (any_goals (first | go_big_quiet_step (fail) | quiet_step (fail) | (refine wpQuiet_step (fun K hK => ?_); go_simp; split <;> (refine hK _ ?_; clear hK K))))); (all_goals (refine wpQuiet_nil (fun nq => ?_))))
        have b3 : Below w1.heap.size w1 (wr.drewN nq) := below_drewN HR.out.2 nq
        go_wp2_with fail
        refine (C1.out _).mono ?_
        rintro e w5 ⟨rfl, b5⟩
        have B5 := Lib.hid (b3.trans (b5.mono b3.size))
        clear C1 b3 b5 p0 p1 p2 p3 zg n0 n1 n2 n3 n4 zn
        by_cases hz : z = 0
        · subst hz
          have HN1 := Lib.hid (HNEXT.out rfl)
          clear HHIT HNEXT
          go_wp2_with fail
          refine onlyN_intro ?_
          go_wp2_with fail
          go_roundw
          case rel => exact ⟨k + 1, by go_num, by omega, Lib.hid ⟨HN1.out, B5.out⟩⟩
          case measure => simp [intOf]; omega
        · have tz : (z != 0) = true := by simpa using hz
          have HRV : Hid (r = z) := Lib.hid (by rw [HV.out, HHIT.out hz, if_pos hz])
          clear HV HHIT HNEXT
          go_wp2_with fail
          refine onlyN_intro ?_
          go_wp2_with fail
          go_returns
          exact ⟨by rw [HRV.out]; rfl, B0.out.trans (B5.out.mono B0.out.size)⟩
      · obtain rfl : k = g.tn := by omega
        rw [if_neg (by rw [HR.out.1]; simp)] at HV
        have BT := Lib.hid HR.out.2
        clear HR
        have tk : decide ((g.tn : Int) < (g.tn : Int)) = false := by simp
        go_wp2_with fail
        clear n0 n1 n2 n3 n4 zn
        go_loopw [6] (fun s6 wr => ∃ k : Nat, s6 = .int .i64 k ∧ k ≤ g.nn ∧ Hid (scan (fun i => needE g.N (g.D i)) k = 0 ∧ Below w1.heap.size w1 wr)) (fun s6 _ => g.nn - (intOf s6).toNat)
        case atStart => exact ⟨0, rfl, by omega, Lib.hid ⟨rfl, BT.out⟩⟩
        case round =>
          obtain ⟨k, rfl, hk, hrel⟩ := hrel
          have HR := hrel
          clear hrel BT
          have n0 := cell_kept HR.out.2 x0
          have n1 := cell_kept HR.out.2 x1
          have n2 := cell_kept HR.out.2 x2
          have n3 := cell_kept HR.out.2 x3
          have n4 := cell_kept HR.out.2 x4
          have zn := szs (cell_lt n0)
          dsimp only at zn
          by_cases hlt : k < g.nn
          · have tk : (k : Int) < (g.nn : Int) := by omega
            obtain ⟨q, o, hta, hg, p0, p1⟩ := (HG.out.needs.below HR.out.2).nd hlt
            have zg := szs hg
            have HHIT := Lib.hid (fun (hx : needE g.N (g.D k) ≠ 0) => scan_hit (f := fun i => needE g.N (g.D i)) HR.out.1 hx hlt)
            have HNEXT := Lib.hid (fun (hx : needE g.N (g.D k) = 0) => scan_next (f := fun i => needE g.N (g.D i)) HR.out.1 hx)
            have C1 := NE.out (g.D k)
            obtain ⟨z, hz⟩ : ∃ z, z = needE g.N (g.D k) := ⟨_, rfl⟩
            rw [← hz] at HHIT HNEXT
            simp only [← hz] at C1
            clear hz
            rw [hta] at n3
            have HCT : Hid (g.cells = #[.int .i64 g.N, .slice g.ea g.em g.ec, .slice g.ta g.tn g.tc, .slice (some ⟨q, o, none⟩) g.nn g.nc, .int .i64 g.h]) := Lib.hid (by rw [HCC.out, hta])
            rw [HCT.out] at C1
            clear hta
            generalize g.D k = y at *
            obtain ⟨y1, y2⟩ := y
            unfold ndC at C1
            dsimp only at p0 p1 C1
            replace C1 := Lib.hid C1
            go_wp2_with fail
            (refine region_order (fun i : Nat => World.drewN _ i) [] [0, 1, 2, 3, 4, 5] 6 [7] mixed (by kernel_rfl) ⟨1, rfl⟩ ?_; simp only [List.map_cons, List.map_nil, Array.getD_eq_getD_getElem?, List.getElem?_toArray, List.getElem?_cons_zero, List.getElem?_cons_succ, Option.getD_some]; (repeat (refine wpPure_cons _ rfl (fun w' => by go_simp; try rfl) ?_; dsimp only [Act.put])); refine wpPure_nil ?_; (repeat (any_goals (first | go_big_quiet_step (fail) | quiet_step (fail) | (refine wpQuiet_step (fun K hK => ?_); go_simp; split <;> (refine hK _ ?_; clear hK K))))); (all_goals (refine wpQuiet_nil (fun nq => ?_))))
            have b3 : Below w1.heap.size w1 (wr.drewN nq) := below_drewN HR.out.2 nq
            go_wp2_with fail
            refine (C1.out _).mono ?_
            rintro e w5 ⟨rfl, b5⟩
            have B5 := Lib.hid (b3.trans (b5.mono b3.size))
            clear C1 b3 b5 p0 p1 zg n0 n1 n2 n3 n4 zn
            by_cases hz : z = 0
            · subst hz
              have HN1 := Lib.hid (HNEXT.out rfl)
              clear HHIT HNEXT
              go_wp2_with fail
              refine onlyN_intro ?_
              go_wp2_with fail
              go_roundw
              case rel => exact ⟨k + 1, by go_num, by omega, Lib.hid ⟨HN1.out, B5.out⟩⟩
              case measure => simp [intOf]; omega
            · have tz : (z != 0) = true := by simpa using hz
              have HRV : Hid (r = z) := Lib.hid (by rw [HV.out, HHIT.out hz, if_pos hz])
              clear HV HHIT HNEXT
              go_wp2_with fail
              refine onlyN_intro ?_
              go_wp2_with fail
              go_returns
              exact ⟨by rw [HRV.out]; rfl, B0.out.trans (B5.out.mono B0.out.size)⟩
          · obtain rfl : k = g.nn := by omega
            rw [if_neg (by rw [HR.out.1]; simp)] at HV
            have BT := Lib.hid HR.out.2
            clear HR
            have tk : decide ((g.nn : Int) < (g.nn : Int)) = false := by simp
            go_wp2_with fail
            go_loopw [8] (fun s8 wr => ∃ j : Nat, s8 = .int .i64 j ∧ j ≤ g.nn ∧ Hid (anyN (dupB g.D) j = false ∧ Below w1.heap.size w1 wr)) (fun s8 _ => g.nn - (intOf s8).toNat)
            case atStart => exact ⟨0, rfl, by omega, Lib.hid ⟨rfl, BT.out⟩⟩
            case round =>
              obtain ⟨j, rfl, hj, hrel⟩ := hrel
              have HRO := hrel
              clear hrel BT n0 n1 n2 n3 n4 zn
              have n0 := cell_kept HRO.out.2 x0
              have n1 := cell_kept HRO.out.2 x1
              have n2 := cell_kept HRO.out.2 x2
              have n3 := cell_kept HRO.out.2 x3
              have n4 := cell_kept HRO.out.2 x4
              have zn := szs (cell_lt n0)
              dsimp only at zn
              by_cases hlt2 : j < g.nn
              · have tj : (j : Int) < (g.nn : Int) := by omega
                go_wp2_with fail
                go_loopw [9] (fun s9 w2 => ∃ k : Nat, s9 = .int .i64 k ∧ k ≤ j ∧ Hid (anyN (fun k => decide ((g.D k).node = (g.D j).node)) k = false ∧ Below w1.heap.size w1 w2)) (fun s9 _ => j - (intOf s9).toNat)
                case atStart => exact ⟨0, rfl, by omega, Lib.hid ⟨rfl, HRO.out.2⟩⟩
                case round =>
                  obtain ⟨k, rfl, hk, hrel⟩ := hrel
                  have HR := hrel
                  clear hrel n0 n1 n2 n3 n4 zn
                  have n0 := cell_kept HR.out.2 x0
                  have n1 := cell_kept HR.out.2 x1
                  have n2 := cell_kept HR.out.2 x2
                  have n3 := cell_kept HR.out.2 x3
                  have n4 := cell_kept HR.out.2 x4
                  have zn := szs (cell_lt n0)
                  dsimp only at zn
                  by_cases hkl : k < j
                  · have tk : (k : Int) < (j : Int) := by omega
                    have tk2 : (k : Int) < (g.nn : Int) := by omega
                    obtain ⟨q, o, hta, hg, p0, p1⟩ := (HG.out.needs.below HR.out.2).nd (i := k) (by omega)
                    obtain ⟨q', o', hta', _, s0, s1⟩ := (HG.out.needs.below HR.out.2).nd (i := j) hlt2
                    rw [hta] at hta'
                    cases hta'
                    have zg := szs hg
                    rw [hta] at n3
                    obtain ⟨y, hy⟩ : ∃ y, y = (g.D k).node := ⟨_, rfl⟩
                    obtain ⟨z, hz⟩ : ∃ z, z = (g.D j).node := ⟨_, rfl⟩
                    rw [← hy] at p0
                    rw [← hz] at s0
                    have HY := Lib.hid hy
                    have HZ := Lib.hid hz
                    clear hy hz hta
                    by_cases hv : y = z
                    · subst hv
                      have tv : (y == y) = true := by simp
                      have HA : Hid (r = 6) := Lib.hid (by
                        rw [HV.out, if_pos]
                        exact anyN_yes hlt2 (by unfold dupB; exact anyN_yes (p := fun k => decide ((g.D k).node = (g.D j).node)) hkl (by simp [← HY.out, ← HZ.out])))
                      have BE := Lib.hid (B0.out.trans (HR.out.2.mono B0.out.size))
                      go_wp2_with fail
                      (refine region_all (fun i : Nat => World.drewN _ i) mixed (by kernel_rfl) ⟨1, rfl⟩ ?_; (repeat (any_goals (first | go_big_quiet_step (fail) | quiet_step (fail) | (refine wpQuiet_step (fun K hK => ?_); go_simp; split <;> (refine hK _ ?_; clear hK K))))); (all_goals (refine wpQuiet_nil (fun nq => ?_))))
                      go_wp2_with fail
                      go_returns
                      exact ⟨by rw [HA.out]; rfl, below_drewN BE.out _⟩
                    · have tv : (y == z) = false := by simpa using hv
                      have HA : Hid (anyN (fun k => decide ((g.D k).node = (g.D j).node)) (k + 1) = false) := Lib.hid (by unfold anyN; rw [HR.out.1, ← HY.out, ← HZ.out]; simp; exact hv)
                      go_wp2_with fail
                      (refine region_all (fun i : Nat => World.drewN _ i) mixed (by kernel_rfl) ⟨1, rfl⟩ ?_; (repeat (any_goals (first | go_big_quiet_step (fail) | quiet_step (fail) | (refine wpQuiet_step (fun K hK => ?_); go_simp; split <;> (refine hK _ ?_; clear hK K))))); (all_goals (refine wpQuiet_nil (fun nq => ?_))))
                      go_wp2_with fail
                      go_roundw
                      case rel => exact ⟨k + 1, by go_num, by omega, Lib.hid ⟨HA.out, below_drewN HR.out.2 _⟩⟩
                      case measure => simp [intOf]; omega
                  · obtain rfl : k = j := by omega
                    have HA : Hid (anyN (dupB g.D) (k + 1) = false) := Lib.hid (by rw [anyN, HRO.out.1]; unfold dupB; rw [HR.out.1]; rfl)
                    go_wp2_with fail
                    go_roundw
                    case rel => exact ⟨k + 1, by go_num, by omega, Lib.hid ⟨HA.out, HR.out.2⟩⟩
                    case measure => simp [intOf]; omega
              · obtain rfl : j = g.nn := by omega
                rw [if_neg (by rw [HRO.out.1]; simp)] at HV
                have BE := Lib.hid (B0.out.trans (HRO.out.2.mono B0.out.size))
                clear HRO
                generalize g.h = hh at *
                by_cases h5 : hh < 0
                · have t5 : decide (hh < 0) = true := decide_eq_true h5
                  rw [if_pos (.inl h5)] at HV
                  go_wp2_with fail
                  go_returns
                  exact ⟨by rw [HV.out]; rfl, BE.out⟩
                have t5 : decide (hh < 0) = false := decide_eq_false h5
                by_cases h6 : 3600 < hh
                · have t6 : decide (3600 < hh) = true := decide_eq_true h6
                  rw [if_pos (.inr h6)] at HV
                  go_wp2_with fail
                  go_returns
                  exact ⟨by rw [HV.out]; rfl, BE.out⟩
                have t6 : decide (3600 < hh) = false := decide_eq_false h6
                rw [if_neg (by omega)] at HV
                go_wp2_with fail
                go_returns
                exact ⟨by rw [HV.out]; rfl, BE.out⟩
  · have tx : (x != 0) = true := by simpa using h0
    have HRV : Hid (r = x) := Lib.hid (by rw [HV.out, if_pos h0])
    clear HV
    go_wp2_with fail
    go_returns
    exact ⟨by rw [HRV.out]; rfl, B0.out.trans (B2.out.mono B0.out.size)⟩
end Go.Proofs.YtlnfhlmgnppcbaaGreat

/- The reference's trucks: a route is followed. -/
namespace Go.Proofs.YtlnfhlmgnppcbaaGreat
open Go.RowKit Go.ChangeShapes Go.WideShapes Go.Deep
set_option linter.unusedVariables false
set_option linter.unusedSimpArgs false
set_option maxRecDepth 8000
open Rd
theorem timesR_ok {g : Ng} {n : Nat} (h : NOk g n) (hr : roadE g.N g.em g.E = 0) (w : World) (hg : Net w g.ea g.em g.ec g.E) {a : Int} (ha : 0 ≤ a ∧ a < n) :
    Calls Tryz.prog 31 #[.agg #[.int .i64 g.N, .slice g.ea g.em g.ec], .int .i64 a] w fun e w' => ∃ b, e = .returned (.tuple #[.slice (some ⟨b, 0, none⟩) n n, .int .i64 0]) ∧ Nums w' w.heap.size b n (g.S a) ∧ Below w.heap.size w w' := by
  refine (times31 g.N g.ea g.em g.ec g.E a w hg).mono ?_
  rintro e w' ⟨hb, ⟨h1, _⟩ | ⟨_, h2, _⟩ | ⟨n', s, b, _, hn, hs, hsn, hR, he, hN⟩⟩
  · exact absurd hr h1
  · exfalso
    have : nodeB g.N a = true := nodeB_iff.2 (by rw [h.hN]; exact ha)
    rw [h2] at this; cases this
  · have h3 := h.hN
    rw [hn] at h3
    obtain rfl : n' = n := by omega
    refine ⟨b, he, ?_, hb⟩
    have e1 : g.S a = sec (gr Ed.frm Ed.til n' g.em g.E) a := by
      funext v
      unfold Ng.S
      rw [hn, Int.toNat_natCast]
    rw [e1]; first | exact hN | (rw [hs]; exact hN)
/-- What following a route gives. -/
def FollowW (g : Ng) (r : Int) (R : Nat → Int) (k : Nat) (w : World) (e : Ending) (w' : World) : Prop :=
  Below w.heap.size w w' ∧ ((walkE g r R k ≠ 0 ∧ e = .returned (.tuple #[.slice none 0 0, .int .i64 0, .int .i64 0, .int .i64 (walkE g r R k)])) ∨
    (walkE g r R k = 0 ∧ ∃ (v : Value) (dr : Int), e = .returned (.tuple #[v, .int .i64 (backK g (g.T r.toNat) R k), .int .i64 dr, .int .i64 0]) ∧ ViRow w' w.heap.size v k (visK g (g.T r.toNat) R)))
set_option maxHeartbeats 16000000 in
theorem follow60 (g : Ng) (r : Int) (R : Nat → Int) (k : Nat) (ra : Option Addr) (rc : Nat) (w : World) (hg : g.In w) (hR : Sl w 1 ra k rc (nf R)) (hk : k ≤ 1000) :
    Calls Tryz.prog 60 #[.agg g.cells, .agg #[.int .i64 r, .slice ra k rc]] w (FollowW g r R k w) := by
  have BB : Hid (Below w.heap.size w ((w.alloc (.cells g.cells 32)).alloc (.cells #[.int .i64 r, .slice ra k rc] 51))) := Lib.hid (by (repeat' (first | (with_reducible exact Below.refl _ _) | (with_reducible assumption) | (with_reducible refine Below.drew ?_) | (with_reducible refine below_drewN ?_ _) | (with_reducible refine Below.alloc ?_ ?_ _) | (with_reducible refine Below.setCell ?_ ?_ _) | go_size)))
  have X0 := Lib.hid (al_keep (al_at w (.cells g.cells 32) rfl) (.cells #[.int .i64 r, .slice ra k rc] 51))
  have X1 := Lib.hid (al_at (w.alloc (.cells g.cells 32)) (.cells #[.int .i64 r, .slice ra k rc] 51) (k := w.heap.size + 1) (by simp))
  obtain ⟨w1, hw1⟩ : ∃ w1, w1 = (w.alloc (.cells g.cells 32)).alloc (.cells #[.int .i64 r, .slice ra k rc] 51) := ⟨_, rfl⟩
  rw [← hw1] at BB X0 X1
  have HW1 := Lib.hid hw1
  have HCC : Hid (g.cells = #[.int .i64 g.N, .slice g.ea g.em g.ec, .slice g.ta g.tn g.tc, .slice g.na g.nn g.nc, .int .i64 g.h]) := Lib.hid rfl
  have CK := Lib.hid (check91 g w1 (hg.below BB.out))
  have NM := Lib.hid (fun w' (hb : Below w1.heap.size w1 w') => names92 g r R k ra rc w' ((hg.below BB.out).below hb) ((hR.below BB.out).below hb) hk)
  rw [HCC.out] at X0 HW1 CK NM ⊢
  have HR := Lib.hid (hR.below BB.out)
  have HG1 := Lib.hid (hg.below BB.out)
  have hrm := hR.hm
  have hrc := hR.hc
  have htm := hg.trucks.hm
  have htc := hg.trucks.hc
  have hnm := hg.needs.hm
  have hnc := hg.needs.hc
  obtain ⟨x, hx⟩ : ∃ x, x = nightE g := ⟨_, rfl⟩
  rw [← hx] at CK
  have HX := Lib.hid hx
  obtain ⟨y, hy⟩ : ∃ y, y = namesE g r R k := ⟨_, rfl⟩
  simp only [← hy] at NM
  have HY := Lib.hid hy
  replace NM := Lib.hid NM.out
  clear hw1 hg hR hx hy
  go_enter Tryz.func60, Tryz.ntmps60
  go_wp2_with fail
  rw [← HW1.out]
  refine CK.out.mono ?_
  rintro e w2 ⟨rfl, b2⟩
  have B2 := Lib.hid b2
  clear b2 CK
  by_cases h0 : x = 0
  · subst h0
    obtain ⟨n, hok, hroad⟩ := nok_of HX.out.symm
    have HOK := Lib.hid hok
    have HRO := Lib.hid hroad
    have hn16 := hok.nn
    have ht8 := hok.tn
    clear hok hroad
    have n0 := cell_kept B2.out (cell_at X0.out 0)
    have n1 := cell_kept B2.out (cell_at X0.out 1)
    have n2 := cell_kept B2.out (cell_at X0.out 2)
    have n3 := cell_kept B2.out (cell_at X0.out 3)
    have n4 := cell_kept B2.out (cell_at X0.out 4)
    have r0 := cell_kept B2.out (cell_at X1.out 0)
    have r1 := cell_kept B2.out (cell_at X1.out 1)
    try dsimp only at n0 n1 n2 n3 n4 r0 r1
    have zn := szs (cell_lt n0)
    have zr := szs (cell_lt r0)
    dsimp only at zn zr
    go_wp2_with fail
    refine (NM.out w2 B2.out).mono ?_
    rintro e w3 ⟨rfl, b3⟩
    have B3 := Lib.hid (B2.out.trans (b3.mono B2.out.size))
    clear b3 NM B2
    clear n0 n1 n2 n3 n4 r0 r1 zn zr
    by_cases hy0 : y = 0
    · subst hy0
      have HRK : Hid (ROk g n r R k) := Lib.hid (by
        obtain ⟨a, b, c, d⟩ := names_ok HY.out.symm
        exact ⟨HOK.out, a, b, c, d, Nat.le_trans (inj_le c d) HOK.out.nn⟩)
      have HWK : Hid (walkE g r R k = if scan (stepK g (g.T r.toNat) R) k ≠ 0 then scan (stepK g (g.T r.toNat) R) k else homeK g (g.T r.toNat) R k) := Lib.hid (by
        unfold walkE; rw [if_neg (by rw [← HX.out]; simp), if_neg (by rw [← HY.out]; simp)])
      have hr0 := HRK.out.r0
      have hr1 := HRK.out.r1
      obtain ⟨q, hq0⟩ := Int.eq_ofNat_of_zero_le hr0
      have hq : q < g.tn := by omega
      have tq : (q : Int) < (g.tn : Int) := by omega
      obtain ⟨tk, htk⟩ : ∃ tk, tk = g.T r.toNat := ⟨_, rfl⟩
      have HTK : Hid (g.T r.toNat = tk) := Lib.hid htk.symm
      rw [HTK.out] at HWK
      obtain ⟨tb, to, htb, hg4, p0, p1, p2, p3⟩ := (HG1.out.trucks.below B3.out).tk hq
      have e5 : g.T q = tk := by rw [htk, hq0]; rfl
      rw [e5] at p0 p1 p2 p3
      have zt := szs hg4
      have HQ0 := Lib.hid hq0
      have hk16 := HRK.out.k16
      have htkb := HRK.out.tk
      rw [HTK.out] at htkb
      obtain ⟨d1, d2, d3, d4⟩ := tk
      dsimp only at p0 p1 p2 p3 htkb
      rw [htb] at X0 HW1
      rw [hq0] at X1
      have n0 := cell_kept B3.out (cell_at X0.out 0)
      have n1 := cell_kept B3.out (cell_at X0.out 1)
      have n2 := cell_kept B3.out (cell_at X0.out 2)
      have n3 := cell_kept B3.out (cell_at X0.out 3)
      have n4 := cell_kept B3.out (cell_at X0.out 4)
      have r0 := cell_kept B3.out (cell_at X1.out 0)
      have r1 := cell_kept B3.out (cell_at X1.out 1)
      try dsimp only at n0 n1 n2 n3 n4 r0 r1
      have zn := szs (cell_lt n0)
      have zr := szs (cell_lt r0)
      dsimp only at zn zr
      have XT := Lib.hid (al_at w3 (.cells #[.int .i64 d1, .int .i64 d2, .int .i64 d3, .int .i64 d4] 62) rfl)
      have b4 : Below w3.heap.size w3 (w3.alloc (.cells #[.int .i64 d1, .int .i64 d2, .int .i64 d3, .int .i64 d4] 62)) := by (repeat' (first | (with_reducible exact Below.refl _ _) | (with_reducible assumption) | (with_reducible refine Below.drew ?_) | (with_reducible refine below_drewN ?_ _) | (with_reducible refine Below.alloc ?_ ?_ _) | (with_reducible refine Below.setCell ?_ ?_ _) | go_size))
      have B4 := Lib.hid (B3.out.trans (b4.mono B3.out.size))
      clear htk e5 b4 hr0 hr1 hq0 htb
      go_wp2_with fail
      clear p0 p1 p2 p3 zt
      clear n0 n1 n2 n3 n4 r0 r1 zn zr
      have HSZ : Hid ((w3.alloc (.cells #[.int .i64 d1, .int .i64 d2, .int .i64 d3, .int .i64 d4] 62)).heap.size = w3.heap.size + 1) := Lib.hid (by simp)
      generalize w3.alloc (.cells #[.int .i64 d1, .int .i64 d2, .int .i64 d3, .int .i64 d4] 62) = w4 at *
      have HLB : Hid (w1.heap.size ≤ w3.heap.size) := Lib.hid B3.out.size
      generalize w3.heap.size = bt at *
      have X04 := Lib.hid ((B4.out.block _ (block_lt X0.out)).trans X0.out)
      have X14 := Lib.hid ((B4.out.block _ (block_lt X1.out)).trans X1.out)
      clear X0 X1
      have X0 := X04
      have X1 := X14
      clear X04 X14
      have HGW := Lib.hid (HG1.out.below B4.out)
      have HRW := Lib.hid (HR.out.below B4.out)
      have HTM := Lib.hid (fun w' (hb : Below w4.heap.size w4 w') (i : Nat) (hi : i ≤ k) => timesR_ok HOK.out HRO.out w' (HGW.out.below hb).net (by have := HRK.out.at hi; rw [HTK.out] at this; exact this : 0 ≤ atK g ⟨d1, d2, d3, d4⟩ R i ∧ atK g ⟨d1, d2, d3, d4⟩ R i < n))
      have HBD := Lib.hid (fun (i : Nat) (hi : i ≤ k) => And.intro (HRK.out.now hi) (And.intro (HRK.out.load hi) (And.intro (HRK.out.drv hi) (HRK.out.at hi))))
      rw [HTK.out] at HBD
      clear HG1 HR B3 HW1
      have k0 := cell_kept (Below.refl w4.heap.size w4) (cell_at XT.out 0)
      have k1 := cell_kept (Below.refl w4.heap.size w4) (cell_at XT.out 1)
      have k2 := cell_kept (Below.refl w4.heap.size w4) (cell_at XT.out 2)
      have k3 := cell_kept (Below.refl w4.heap.size w4) (cell_at XT.out 3)
      try dsimp only at k0 k1 k2 k3
      have zk := szs (cell_lt k0)
      dsimp only at zk
      go_wp2_with fail
      (refine region_all (fun i : Nat => World.drewN _ i) mixed (by kernel_rfl) ⟨1, rfl⟩ ?_; (repeat (any_goals (first | go_big_quiet_step (fail) | quiet_step (fail) | (refine wpQuiet_step (fun K hK => ?_); go_simp; split <;> (refine hK _ ?_; clear hK K))))); (all_goals (refine wpQuiet_nil (fun nq => ?_))))
      have b5 : Below w4.heap.size w4 (w4.drewN nq) := below_drewN (Below.refl _ _) nq
      clear k0 k1 k2 k3 zk
      generalize hw5 : w4.drewN nq = w5 at *
      clear hw5
      have n0 := cell_kept b5 (cell_at X0.out 0)
      have n1 := cell_kept b5 (cell_at X0.out 1)
      have n2 := cell_kept b5 (cell_at X0.out 2)
      have n3 := cell_kept b5 (cell_at X0.out 3)
      have n4 := cell_kept b5 (cell_at X0.out 4)
      have r0 := cell_kept b5 (cell_at X1.out 0)
      have r1 := cell_kept b5 (cell_at X1.out 1)
      try dsimp only at n0 n1 n2 n3 n4 r0 r1
      have zn := szs (cell_lt n0)
      have zr := szs (cell_lt r0)
      dsimp only at zn zr
      have B5 := Lib.hid b5
      clear b5
      go_wp2_with fail
      clear n0 n1 n2 n3 n4 r0 r1 zn zr
      go_loopw [11, 12, 13, 14, 15, 16] (fun s11 s12 s13 s14 s15 s16 wr => ∃ (i : Nat) (v : Value), s16 = .int .i64 i ∧ i ≤ k ∧ s11 = .int .i64 (atK g ⟨d1, d2, d3, d4⟩ R i) ∧ s12 = .int .i64 (nowK g ⟨d1, d2, d3, d4⟩ R i) ∧ s13 = .int .i64 (loadK g R i) ∧ s14 = .int .i64 (drvK g ⟨d1, d2, d3, d4⟩ R i) ∧ s15 = v ∧
        Hid (scan (stepK g ⟨d1, d2, d3, d4⟩ R) i = 0) ∧ Hid (ViRow wr (bt + 1) v i (visK g ⟨d1, d2, d3, d4⟩ R)) ∧ Hid (Below w4.heap.size w4 wr)) (fun _ _ _ _ _ s16 _ => k - (intOf s16).toNat)
      case atStart => exact ⟨0, _, rfl, by omega, rfl, rfl, rfl, rfl, rfl, Lib.hid rfl, Lib.hid (vi_none _ _ _), B5⟩
      case round =>
        obtain ⟨i, v, rfl, hi, rfl, rfl, rfl, rfl, rfl, hsc, hvr, hbw⟩ := hrel
        have SC := hsc
        have VR := hvr
        have BW := hbw
        clear hsc hvr hbw B5
        have n0 := cell_kept BW.out (cell_at X0.out 0)
        have n1 := cell_kept BW.out (cell_at X0.out 1)
        have n2 := cell_kept BW.out (cell_at X0.out 2)
        have n3 := cell_kept BW.out (cell_at X0.out 3)
        have n4 := cell_kept BW.out (cell_at X0.out 4)
        have r0 := cell_kept BW.out (cell_at X1.out 0)
        have r1 := cell_kept BW.out (cell_at X1.out 1)
        try dsimp only at n0 n1 n2 n3 n4 r0 r1
        have zn := szs (cell_lt n0)
        have zr := szs (cell_lt r0)
        dsimp only at zn zr
        obtain ⟨⟨hb1, hb2⟩, ⟨hb3, hb4⟩, ⟨hb5, hb6⟩, hb7, hb8⟩ := HBD.out i hi
        by_cases hlt : i < k
        · have ti : (i : Int) < (k : Int) := by omega
          have hneed := HRK.out.needs i hlt
          have hND := HRK.out.nd hlt
          have hWK := HRK.out.work hlt
          have hSB := HOK.out.S_bd (show 0 ≤ atK g ⟨d1, d2, d3, d4⟩ R i ∧ atK g ⟨d1, d2, d3, d4⟩ R i < n from ⟨hb7, hb8⟩) (g.nd (R i)).node
          have C1 := fun w' (hb : Below w4.heap.size w4 w') => HTM.out w' hb i hi
          have HHIT := Lib.hid (fun (hx : stepK g ⟨d1, d2, d3, d4⟩ R i ≠ 0) => scan_hit (f := stepK g ⟨d1, d2, d3, d4⟩ R) SC.out hx hlt)
          have HNXT := Lib.hid (fun (hx : stepK g ⟨d1, d2, d3, d4⟩ R i = 0) => scan_next (f := stepK g ⟨d1, d2, d3, d4⟩ R) SC.out hx)
          have HST : Hid (stepK g ⟨d1, d2, d3, d4⟩ R i = if g.S (atK g ⟨d1, d2, d3, d4⟩ R i) (g.nd (R i)).node < 0 then 15 else if loadK g R i + (g.nd (R i)).mv < 0 ∨ d2 < loadK g R i + (g.nd (R i)).mv then 24 else 0) := Lib.hid rfl
          have HN1 : Hid (atK g ⟨d1, d2, d3, d4⟩ R (i + 1) = (g.nd (R i)).node ∧ nowK g ⟨d1, d2, d3, d4⟩ R (i + 1) = nowK g ⟨d1, d2, d3, d4⟩ R i + g.S (atK g ⟨d1, d2, d3, d4⟩ R i) (g.nd (R i)).node + max (g.nd (R i)).mv (-(g.nd (R i)).mv) * g.h ∧ loadK g R (i + 1) = loadK g R i + (g.nd (R i)).mv ∧ drvK g ⟨d1, d2, d3, d4⟩ R (i + 1) = drvK g ⟨d1, d2, d3, d4⟩ R i + g.S (atK g ⟨d1, d2, d3, d4⟩ R i) (g.nd (R i)).node) := Lib.hid ⟨rfl, rfl, rfl, rfl⟩
          have HVI : Hid (visK g ⟨d1, d2, d3, d4⟩ R i = ⟨R i, nowK g ⟨d1, d2, d3, d4⟩ R i + g.S (atK g ⟨d1, d2, d3, d4⟩ R i) (g.nd (R i)).node, nowK g ⟨d1, d2, d3, d4⟩ R i + g.S (atK g ⟨d1, d2, d3, d4⟩ R i) (g.nd (R i)).node + max (g.nd (R i)).mv (-(g.nd (R i)).mv) * g.h, loadK g R i + (g.nd (R i)).mv⟩) := Lib.hid rfl
          unfold Ng.work at hWK
          obtain ⟨m, hm⟩ := Int.eq_ofNat_of_zero_le hneed.1
          have hmn : m < g.nn := by omega
          have tmn : (m : Int) < (g.nn : Int) := by omega
          obtain ⟨rb, ro, rfl, hgr, e0⟩ := (HRW.out.below BW.out).num hlt
          have zg := szs hgr
          obtain ⟨nb, no, hna, hgn, q0, q1⟩ := ((HGW.out.below BW.out).needs).nd hmn
          have zq := szs hgn
          have end' : g.nd (R i) = g.D m := by unfold Ng.nd; rw [hm, Int.toNat_natCast]
          rw [end'] at hND hWK hSB HST HN1 HVI
          rw [hm] at e0 HVI
          rw [hna] at n3
          obtain ⟨pa, hpa⟩ : ∃ pa, pa = atK g ⟨d1, d2, d3, d4⟩ R i := ⟨_, rfl⟩
          obtain ⟨fn, hfn⟩ : ∃ fn, fn = g.S (atK g ⟨d1, d2, d3, d4⟩ R i) := ⟨_, rfl⟩
          rw [← hfn] at hSB HST HN1 HVI
          simp only [← hfn] at C1
          rw [← hpa] at hb7 hb8 ⊢
          simp only [← hpa] at C1
          generalize nowK g ⟨d1, d2, d3, d4⟩ R i = nw at *
          generalize loadK g R i = ld at *
          generalize drvK g ⟨d1, d2, d3, d4⟩ R i = dr at *
          generalize g.D m = xm at *
          obtain ⟨nd, mv⟩ := xm
          dsimp only at hND hWK hSB HST HN1 HVI q0 q1
          obtain ⟨nd, rfl⟩ := Int.eq_ofNat_of_zero_le hND.1.1
          have hndn : nd < n := by omega
          have tndn : (nd : Int) < (n : Int) := by omega
          have hn64 := HOK.out.right.n2
          obtain ⟨yv, hyv⟩ : ∃ yv, yv = fn nd := ⟨_, rfl⟩
          rw [← hyv] at hSB HST HN1 HVI
          have HYV := Lib.hid hyv
          replace C1 := Lib.hid C1
          have HRI := Lib.hid hm
          clear hneed hm end' hna hpa hfn hyv
          go_wp2_with fail
          (obtain ⟨ι, hne, Fw, fb, hF⟩ := grow_family wr); have hF : ∀ w', (sPlan wr (fun _ => False) [] [(9, fun b => .pointer (some ⟨b, 0, none⟩), .cells #[.int .i64 0, .int .i64 0] 58)] [(10, 9)]).D [] w' → ∃ i, w' = Fw i := hF
          have fn3 := fun i => cell_kept (fb i) n3
          have fr1 := fun i => cell_kept (fb i) r1
          have fe0 := fun i => cell_kept (fb i) e0
          have fq0 := fun i => cell_kept (fb i) q0
          have fq1 := fun i => cell_kept (fb i) q1
          clear n0 n1 n2 n3 n4 r0 r1 zn zr
          clear e0 q0 q1 zg zq
          (refine region_chainO (sPlan wr (fun _ => False) [] [(9, fun b => .pointer (some ⟨b, 0, none⟩), .cells #[.int .i64 0, .int .i64 0] 58)] [(10, 9)]) [] [] [0, 1, 2, 3, 4, 5, 6, 7, 8, 9, 10] [] mixed (by kernel_rfl) (by kernel_rfl) (fun _ _ h => nomatch h) (sPlan_ok (by simp) (by simp)) sPlan_start ?_; refine wpPure_nil ?_; simp only [List.map_cons, List.map_nil, Array.getD_eq_getD_getElem?, List.getElem?_toArray, List.getElem?_cons_zero, List.getElem?_cons_succ, Option.getD_some])
          (repeat (first | (refine wpChainO_skip rfl ?_; simp only [Act.put, List.setIfInBounds_toArray, List.set_cons_succ, List.set_cons_zero]) | (refine wpChainO_quiet hF rfl rfl rfl ?_; intro K hK; go_big_quiet_op; go_big_quiet_on) | (refine wpChainO_pure _ rfl rfl (fun w' _ => by go_simp; try rfl) ?_; simp only [Act.put, List.setIfInBounds_toArray, List.set_cons_succ, List.set_cons_zero])))
          (refine wpChainO_alloc _ _ rfl (List.mem_cons_self ..) rfl (fun w' => by go_simp) (fun b17 hb17 => ?_); simp only [Act.put, List.setIfInBounds_toArray, List.set_cons_succ, List.set_cons_zero])
          (refine wpChainO_store 9 b17 (.cells #[.int .i64 0, .int .i64 0] 58) (.cells #[.int .i64 (nd : Int), .int .i64 mv] 58) rfl (by simp [sPlan]) (by simp [setB]) (by simp [setB]) rfl (fun w' hw' => by have c0 := cell_at hw' 0; have c1 := cell_at hw' 1; have g0 := free_at hw'; have hlt := block_lt hw'; go_simp; rw [setCell_at hw', setAt_setCell hlt]; rfl) ?_; simp only [Act.put, List.setIfInBounds_toArray, List.set_cons_succ, List.set_cons_zero])
          (repeat (first | (refine wpChainO_skip rfl ?_; simp only [Act.put, List.setIfInBounds_toArray, List.set_cons_succ, List.set_cons_zero]) | (refine wpChainO_quiet hF rfl rfl rfl ?_; intro K hK; go_big_quiet_op; go_big_quiet_on) | (refine wpChainO_pure _ rfl rfl (fun w' _ => by go_simp; try rfl) ?_; simp only [Act.put, List.setIfInBounds_toArray, List.set_cons_succ, List.set_cons_zero])))
          refine wpChainO_nil (fun w6 hb6 hl6 => ?_)
          have b6 : Below wr.heap.size wr w6 := hb6
          have X17 := Lib.hid (hl6.1.2 (9, b17, .cells #[.int .i64 (nd : Int), .int .i64 mv] 58) (by simp [setB])).2
          have BW6 := Lib.hid (BW.out.trans (b6.mono BW.out.size))
          have VR6 := Lib.hid (Row.off (X := fun _ => False) VR.out (Off.of_below b6) (fun _ _ h => h))
          clear hb6 hl6 hF fb hne b6 fn3 fr1 fe0 fq0 fq1 BW VR
          refine onlyN_intro ?_
          have n0 := cell_kept BW6.out (cell_at X0.out 0)
          have n1 := cell_kept BW6.out (cell_at X0.out 1)
          have n2 := cell_kept BW6.out (cell_at X0.out 2)
          have n3 := cell_kept BW6.out (cell_at X0.out 3)
          have n4 := cell_kept BW6.out (cell_at X0.out 4)
          have r0 := cell_kept BW6.out (cell_at X1.out 0)
          have r1 := cell_kept BW6.out (cell_at X1.out 1)
          try dsimp only at n0 n1 n2 n3 n4 r0 r1
          have zn := szs (cell_lt n0)
          have zr := szs (cell_lt r0)
          dsimp only at zn zr
          go_wp2_with fail
          refine (C1.out w6 BW6.out).mono ?_
          rintro e w7 ⟨b20, rfl, hN, b7⟩
          have tc := hN.cell hndn
          rw [← HYV.out] at tc
          have ht := hN.lt
          have zq := szs ht.2
          have BW7 := Lib.hid (BW6.out.trans (b7.mono BW6.out.size))
          have VR7 := Lib.hid (Row.off (X := fun _ => False) VR6.out (Off.of_below b7) (fun _ _ h => h))
          have X7 := (b7.block _ (block_lt X17.out)).trans X17.out
          have x0 := cell_at X7 0
          have x1 := cell_at X7 1
          have zx := szs (block_lt X7)
          have BE := Lib.hid (BB.out.trans ((B4.out.trans (BW7.out.mono B4.out.size)).mono BB.out.size))
          clear n0 n1 n2 n3 n4 r0 r1 zn zr
          clear C1 hN b7 ht BW6 VR6 X7 X17
          have n0 := cell_kept BW7.out (cell_at X0.out 0)
          have n1 := cell_kept BW7.out (cell_at X0.out 1)
          have n2 := cell_kept BW7.out (cell_at X0.out 2)
          have n3 := cell_kept BW7.out (cell_at X0.out 3)
          have n4 := cell_kept BW7.out (cell_at X0.out 4)
          have r0 := cell_kept BW7.out (cell_at X1.out 0)
          have r1 := cell_kept BW7.out (cell_at X1.out 1)
          try dsimp only at n0 n1 n2 n3 n4 r0 r1
          have zn := szs (cell_lt n0)
          have zr := szs (cell_lt r0)
          dsimp only at zn zr
          have k0 := cell_kept BW7.out (cell_at XT.out 0)
          have k1 := cell_kept BW7.out (cell_at XT.out 1)
          have k2 := cell_kept BW7.out (cell_at XT.out 2)
          have k3 := cell_kept BW7.out (cell_at XT.out 3)
          try dsimp only at k0 k1 k2 k3
          have zk := szs (cell_lt k0)
          dsimp only at zk
          by_cases h15 : yv < 0
          · have t15 : decide (yv < 0) = true := decide_eq_true h15
            rw [if_pos h15] at HST
            have HW : Hid (walkE g r R k = 15) := Lib.hid (by rw [HWK.out, if_pos (by rw [HHIT.out (by rw [HST.out]; decide), HST.out]; decide), HHIT.out (by rw [HST.out]; decide), HST.out])
            clear HHIT HNXT
            go_wp2_with fail
            go_returns
            exact ⟨BE.out, .inl ⟨by rw [HW.out]; decide, by rw [HW.out]⟩⟩
          have t15 : decide (yv < 0) = false := decide_eq_false h15
          rw [if_neg h15] at HST
          by_cases h24 : ld + mv < 0
          · have t24 : decide (ld + mv < 0) = true := decide_eq_true h24
            rw [if_pos (.inl h24)] at HST
            have HW : Hid (walkE g r R k = 24) := Lib.hid (by rw [HWK.out, if_pos (by rw [HHIT.out (by rw [HST.out]; decide), HST.out]; decide), HHIT.out (by rw [HST.out]; decide), HST.out])
            clear HHIT HNXT
            go_wp2_with fail
            go_returns
            exact ⟨BE.out, .inl ⟨by rw [HW.out]; decide, by rw [HW.out]⟩⟩
          have t24 : decide (ld + mv < 0) = false := decide_eq_false h24
          by_cases h25 : d2 < ld + mv
          · have t25 : decide (d2 < ld + mv) = true := decide_eq_true h25
            rw [if_pos (.inr h25)] at HST
            have HW : Hid (walkE g r R k = 24) := Lib.hid (by rw [HWK.out, if_pos (by rw [HHIT.out (by rw [HST.out]; decide), HST.out]; decide), HHIT.out (by rw [HST.out]; decide), HST.out])
            clear HHIT HNXT
            go_wp2_with fail
            go_returns
            exact ⟨BE.out, .inl ⟨by rw [HW.out]; decide, by rw [HW.out]⟩⟩
          have t25 : decide (d2 < ld + mv) = false := decide_eq_false h25
          rw [if_neg (by omega)] at HST
          have HSN := Lib.hid (HNXT.out HST.out)
          clear HHIT HNXT
          go_wp2_with fail
          (refine region_all (fun i : Nat => World.drewN _ i) mixed (by kernel_rfl) ⟨1, rfl⟩ ?_; (repeat (any_goals (first | go_big_quiet_step (fail) | quiet_step (fail) | (refine wpQuiet_step (fun K hK => ?_); go_simp; split <;> (refine hK _ ?_; clear hK K))))); (all_goals (refine wpQuiet_nil (fun nq => ?_))))
          have b8 : Below w7.heap.size w7 (w7.drewN nq) := below_drewN (Below.refl _ _) nq
          have BW8 := Lib.hid (BW7.out.trans (b8.mono BW7.out.size))
          have VR8 := Lib.hid (Row.off (X := fun _ => False) VR7.out (Off.of_below b8) (fun _ _ h => h))
          clear n0 n1 n2 n3 n4 r0 r1 zn zr
          clear k0 k1 k2 k3 zk
          clear tc zq x0 x1 zx BW7 VR7 BE b8
          generalize w7.drewN nq = w8 at *
          have n0 := cell_kept BW8.out (cell_at X0.out 0)
          have n1 := cell_kept BW8.out (cell_at X0.out 1)
          have n2 := cell_kept BW8.out (cell_at X0.out 2)
          have n3 := cell_kept BW8.out (cell_at X0.out 3)
          have n4 := cell_kept BW8.out (cell_at X0.out 4)
          have r0 := cell_kept BW8.out (cell_at X1.out 0)
          have r1 := cell_kept BW8.out (cell_at X1.out 1)
          try dsimp only at n0 n1 n2 n3 n4 r0 r1
          have zn := szs (cell_lt n0)
          have zr := szs (cell_lt r0)
          dsimp only at zn zr
          obtain ⟨_, _, e9, hgr, e0⟩ := (HRW.out.below BW8.out).num hlt
          cases e9
          rw [HRI.out] at e0
          have zg := szs hgr
          have hb1 := al_at w8 (.cells #[.int .i64 (m : Int), .int .i64 (nw + yv), .int .i64 (nw + yv + max mv (-mv) * g.h), .int .i64 (ld + mv)] 56) rfl
          have HB1 := Lib.hid hb1
          have BA : Hid (Below w8.heap.size w8 (w8.alloc (.cells #[.int .i64 (m : Int), .int .i64 (nw + yv), .int .i64 (nw + yv + max mv (-mv) * g.h), .int .i64 (ld + mv)] 56))) := Lib.hid (by (repeat' (first | (with_reducible exact Below.refl _ _) | (with_reducible assumption) | (with_reducible refine Below.drew ?_) | (with_reducible refine below_drewN ?_ _) | (with_reducible refine Below.alloc ?_ ?_ _) | (with_reducible refine Below.setCell ?_ ?_ _) | go_size)))
          have hle : bt + 1 ≤ (w8.alloc (.cells #[.int .i64 (m : Int), .int .i64 (nw + yv), .int .i64 (nw + yv + max mv (-mv) * g.h), .int .i64 (ld + mv)] 56)).heap.size := by
            have h1 := block_lt XT.out
            have h2 := BW8.out.size
            have h3 := BA.out.size
            omega
          clear hb1
          go_wp2_with (at_builtin; go_loud (refine wpList_append_Vi _ rfl (.tmp 113) (.tmp 123) rfl (bt + 1) _ i (visK g ⟨d1, d2, d3, d4⟩ R) rfl (Row.off (X := fun _ => False) VR8.out (Off.of_below BA.out) (fun _ _ h => h)) w8.heap.size ⟨(m : Int), nw + yv, nw + yv + max mv (-mv) * g.h, ld + mv⟩ rfl 56 (0, 0) HB1.out (by omega) hle ?_))
          intro v' w9 r9 o9
          have VR9 : Hid (ViRow w9 (bt + 1) v' (i + 1) (visK g ⟨d1, d2, d3, d4⟩ R)) := Lib.hid (by
            rw [show visK g ⟨d1, d2, d3, d4⟩ R = upd (visK g ⟨d1, d2, d3, d4⟩ R) i ⟨(m : Int), nw + yv, nw + yv + max mv (-mv) * g.h, ld + mv⟩ from by
              funext j
              by_cases e : j = i
              · subst e; rw [upd_same, HVI.out]
              · rw [upd_ne e]]
            exact r9)
          have BW9 : Hid (Below w4.heap.size w4 w9) := Lib.hid ((BW8.out.trans (BA.out.mono BW8.out.size)).trans (o9.toBelow (Nat.le_trans BW8.out.size BA.out.size) (fun q hq h => by have h : bt + 1 ≤ q := h; have := HSZ.out; omega)))
          clear r9 o9 hle
          clear n0 n1 n2 n3 n4 r0 r1 zn zr
          clear e0 zg hgr
          go_wp2_with fail
          go_roundw
          case rel => exact ⟨i + 1, v', by go_num, by omega, by rw [HN1.out.1], by rw [HN1.out.2.1], by rw [HN1.out.2.2.1], by rw [HN1.out.2.2.2], rfl, HSN, VR9, BW9⟩
          case measure => simp [intOf]; omega
        · obtain rfl : i = k := by omega
          have hSB := HOK.out.S_bd (show 0 ≤ atK g ⟨d1, d2, d3, d4⟩ R i ∧ atK g ⟨d1, d2, d3, d4⟩ R i < n from ⟨hb7, hb8⟩) d1
          have C1 := fun w' (hb : Below w4.heap.size w4 w') => HTM.out w' hb i hi
          rw [if_neg (by rw [SC.out]; simp)] at HWK
          have hlh := HRK.out.loadh (by rw [HTK.out]; exact fun j hj => scan_zero SC.out j hj)
          have HHM : Hid (homeK g ⟨d1, d2, d3, d4⟩ R i = if g.S (atK g ⟨d1, d2, d3, d4⟩ R i) d1 < 0 then 15 else if d4 < nowK g ⟨d1, d2, d3, d4⟩ R i + g.S (atK g ⟨d1, d2, d3, d4⟩ R i) d1 + loadK g R i * g.h then 25 else 0) := Lib.hid rfl
          have HBK : Hid (backK g ⟨d1, d2, d3, d4⟩ R i = nowK g ⟨d1, d2, d3, d4⟩ R i + g.S (atK g ⟨d1, d2, d3, d4⟩ R i) d1 + loadK g R i * g.h) := Lib.hid rfl
          have hlh2 : -200000 ≤ loadK g R i * g.h ∧ loadK g R i * g.h ≤ 200000 := hlh
          have HFV : Hid (visK g (g.T r.toNat) R = visK g ⟨d1, d2, d3, d4⟩ R) := Lib.hid (by rw [HTK.out])
          have HFB : Hid (backK g (g.T r.toNat) R i = backK g ⟨d1, d2, d3, d4⟩ R i) := Lib.hid (by rw [HTK.out])
          obtain ⟨EH, hEH⟩ : ∃ EH, EH = homeK g ⟨d1, d2, d3, d4⟩ R i := ⟨_, rfl⟩
          rw [← hEH] at HHM HWK
          obtain ⟨bkv, hbkv⟩ : ∃ b, b = backK g ⟨d1, d2, d3, d4⟩ R i := ⟨_, rfl⟩
          rw [← hbkv] at HBK HFB
          clear hEH hbkv
          obtain ⟨pa, hpa⟩ : ∃ pa, pa = atK g ⟨d1, d2, d3, d4⟩ R i := ⟨_, rfl⟩
          obtain ⟨fn, hfn⟩ : ∃ fn, fn = g.S (atK g ⟨d1, d2, d3, d4⟩ R i) := ⟨_, rfl⟩
          rw [← hfn] at hSB HHM HBK
          simp only [← hfn] at C1
          rw [← hpa] at hb7 hb8 ⊢
          simp only [← hpa] at C1
          generalize nowK g ⟨d1, d2, d3, d4⟩ R i = nw at *
          generalize loadK g R i = ld at *
          generalize drvK g ⟨d1, d2, d3, d4⟩ R i = dr at *
          obtain ⟨nd, hndd⟩ := Int.eq_ofNat_of_zero_le htkb.1.1
          have hndn : nd < n := by omega
          have tndn : (nd : Int) < (n : Int) := by omega
          have hn64 := HOK.out.right.n2
          obtain ⟨yv, hyv⟩ : ∃ yv, yv = fn nd := ⟨_, rfl⟩
          rw [hndd] at hSB HHM HBK
          rw [← hyv] at hSB HHM HBK
          have HYV := Lib.hid hyv
          replace C1 := Lib.hid C1
          have HND := Lib.hid hndd
          clear hpa hfn hyv hlh hndd
          go_wp2_with fail
          refine (C1.out wr BW.out).mono ?_
          rintro e w7 ⟨b20, rfl, hN, b7⟩
          have tc := hN.cell hndn
          rw [← HYV.out] at tc
          have ht := hN.lt
          have zq := szs ht.2
          have BW7 := Lib.hid (BW.out.trans (b7.mono BW.out.size))
          have VR7 := Lib.hid (Row.off (X := fun _ => False) VR.out (Off.of_below b7) (fun _ _ h => h))
          have BE := Lib.hid (BB.out.trans ((B4.out.trans (BW7.out.mono B4.out.size)).mono BB.out.size))
          clear n0 n1 n2 n3 n4 r0 r1 zn zr
          clear C1 hN b7 ht BW VR
          have n0 := cell_kept BW7.out (cell_at X0.out 0)
          have n1 := cell_kept BW7.out (cell_at X0.out 1)
          have n2 := cell_kept BW7.out (cell_at X0.out 2)
          have n3 := cell_kept BW7.out (cell_at X0.out 3)
          have n4 := cell_kept BW7.out (cell_at X0.out 4)
          have r0 := cell_kept BW7.out (cell_at X1.out 0)
          have r1 := cell_kept BW7.out (cell_at X1.out 1)
          try dsimp only at n0 n1 n2 n3 n4 r0 r1
          have zn := szs (cell_lt n0)
          have zr := szs (cell_lt r0)
          dsimp only at zn zr
          have k0 := cell_kept BW7.out (cell_at XT.out 0)
          have k1 := cell_kept BW7.out (cell_at XT.out 1)
          have k2 := cell_kept BW7.out (cell_at XT.out 2)
          have k3 := cell_kept BW7.out (cell_at XT.out 3)
          try dsimp only at k0 k1 k2 k3
          have zk := szs (cell_lt k0)
          dsimp only at zk
          rw [HND.out] at k0
          by_cases h15 : yv < 0
          · have t15 : decide (yv < 0) = true := decide_eq_true h15
            rw [if_pos h15] at HHM
            rw [HHM.out] at HWK
            go_wp2_with fail
            go_returns
            exact ⟨BE.out, .inl ⟨by rw [HWK.out]; decide, by rw [HWK.out]⟩⟩
          have t15 : decide (yv < 0) = false := decide_eq_false h15
          rw [if_neg h15] at HHM
          go_wp2_with fail
          (refine region_all (fun i : Nat => World.drewN _ i) mixed (by kernel_rfl) ⟨1, rfl⟩ ?_; (repeat (any_goals (first | go_big_quiet_step (fail) | quiet_step (fail) | (refine wpQuiet_step (fun K hK => ?_); go_simp; split <;> (refine hK _ ?_; clear hK K))))); (all_goals (refine wpQuiet_nil (fun nq => ?_))))
          have b8 : Below w7.heap.size w7 (w7.drewN nq) := below_drewN (Below.refl _ _) nq
          have BE8 := Lib.hid (BE.out.trans (b8.mono BE.out.size))
          have VR8 := Lib.hid (Row.off (X := fun _ => False) VR7.out (Off.of_below b8) (fun _ _ h => h))
          have BW8 := BW7.out.trans (b8.mono BW7.out.size)
          clear n0 n1 n2 n3 n4 r0 r1 zn zr
          clear k0 k1 k2 k3 zk
          generalize w7.drewN nq = w8 at *
          have k0 := cell_kept BW8 (cell_at XT.out 0)
          have k1 := cell_kept BW8 (cell_at XT.out 1)
          have k2 := cell_kept BW8 (cell_at XT.out 2)
          have k3 := cell_kept BW8 (cell_at XT.out 3)
          try dsimp only at k0 k1 k2 k3
          have zk := szs (cell_lt k0)
          dsimp only at zk
          clear b8 BW8 tc zq BE BW7
          by_cases h25 : d4 < nw + yv + ld * g.h
          · have t25 : decide (d4 < nw + yv + ld * g.h) = true := decide_eq_true h25
            rw [if_pos h25] at HHM
            rw [HHM.out] at HWK
            go_wp2_with fail
            go_returns
            exact ⟨BE8.out, .inl ⟨by rw [HWK.out]; decide, by rw [HWK.out]⟩⟩
          · have t25 : decide (d4 < nw + yv + ld * g.h) = false := decide_eq_false h25
            rw [if_neg h25] at HHM
            rw [HHM.out] at HWK
            go_wp2_with fail
            go_returns
            refine ⟨BE8.out, .inr ⟨HWK.out, _, _, by rw [HFB.out, HBK.out], ?_⟩⟩
            rw [HFV.out]
            exact Row.base_mono VR8.out (by have := HLB.out; have := BB.out.size; omega)
    · have ty : (y != 0) = true := by simpa using hy0
      have HW : Hid (walkE g r R k = y) := Lib.hid (by
        unfold walkE; rw [if_neg (by rw [← HX.out]; simp), if_pos (by rw [← HY.out]; exact hy0)]; exact HY.out.symm)
      have HY0 := Lib.hid hy0
      clear hy0
      go_wp2_with fail
      go_returns
      exact ⟨BB.out.trans (B3.out.mono BB.out.size), .inl ⟨by rw [HW.out]; exact HY0.out, by rw [HW.out]⟩⟩
  · have tx : (x != 0) = true := by simpa using h0
    have HW : Hid (walkE g r R k = x) := Lib.hid (by unfold walkE; rw [if_pos (by rw [← HX.out]; exact h0)]; exact HX.out.symm)
    go_wp2_with fail
    go_returns
    exact ⟨BB.out.trans (B2.out.mono BB.out.size), .inl ⟨by rw [HW.out]; exact h0, by rw [HW.out]⟩⟩
end Go.Proofs.YtlnfhlmgnppcbaaGreat

/- The reference's trucks: the visits of a route; crew's reference: how far a truck is. -/
namespace Go.Proofs.YtlnfhlmgnppcbaaGreat
open Go.RowKit Go.ChangeShapes Go.WideShapes Go.Deep
set_option linter.unusedVariables false
set_option linter.unusedSimpArgs false
set_option maxRecDepth 8000
open Rd
set_option maxHeartbeats 8000000 in
theorem walkR28 (g : Ng) (r : Int) (R : Nat → Int) (k : Nat) (ra : Option Addr) (rc : Nat) (w : World) (hg : g.In w) (hR : Sl w 1 ra k rc (nf R)) (hk : k ≤ 1000) :
    Calls Tryz.prog 28 #[.agg g.cells, .agg #[.int .i64 r, .slice ra k rc]] w (WalkW g r R k w) := by
  have BB : Hid (Below w.heap.size w ((w.alloc (.cells g.cells 32)).alloc (.cells #[.int .i64 r, .slice ra k rc] 51))) := Lib.hid (by (repeat' (first | (with_reducible exact Below.refl _ _) | (with_reducible assumption) | (with_reducible refine Below.drew ?_) | (with_reducible refine below_drewN ?_ _) | (with_reducible refine Below.alloc ?_ ?_ _) | (with_reducible refine Below.setCell ?_ ?_ _) | go_size)))
  have XG := Lib.hid (al_keep (al_at w (.cells g.cells 32) rfl) (.cells #[.int .i64 r, .slice ra k rc] 51))
  have XR := Lib.hid (al_at (w.alloc (.cells g.cells 32)) (.cells #[.int .i64 r, .slice ra k rc] 51) (k := w.heap.size + 1) (by simp))
  obtain ⟨w1, hw1⟩ : ∃ w1, w1 = (w.alloc (.cells g.cells 32)).alloc (.cells #[.int .i64 r, .slice ra k rc] 51) := ⟨_, rfl⟩
  rw [← hw1] at BB XG XR
  have HW1 := Lib.hid hw1
  have HCC : Hid (g.cells = #[.int .i64 g.N, .slice g.ea g.em g.ec, .slice g.ta g.tn g.tc, .slice g.na g.nn g.nc, .int .i64 g.h]) := Lib.hid rfl
  rw [HCC.out] at XG HW1 ⊢
  have WK := Lib.hid (follow60 g r R k ra rc w1 (hg.below BB.out) (hR.below BB.out) hk)
  rw [HCC.out] at WK
  obtain ⟨E, hE⟩ : ∃ E, E = walkE g r R k := ⟨_, rfl⟩
  have HE := Lib.hid hE
  clear hw1 hg hR hE
  go_enter Tryz.func28, Tryz.ntmps28
  go_wp2_with fail
  rw [← HW1.out]
  have g0 := cell_kept (Below.refl w1.heap.size w1) (cell_at XG.out 0)
  have g1 := cell_kept (Below.refl w1.heap.size w1) (cell_at XG.out 1)
  have g2 := cell_kept (Below.refl w1.heap.size w1) (cell_at XG.out 2)
  have g3 := cell_kept (Below.refl w1.heap.size w1) (cell_at XG.out 3)
  have g4 := cell_kept (Below.refl w1.heap.size w1) (cell_at XG.out 4)
  have r0 := cell_kept (Below.refl w1.heap.size w1) (cell_at XR.out 0)
  have r1 := cell_kept (Below.refl w1.heap.size w1) (cell_at XR.out 1)
  try dsimp only at g0 g1 g2 g3 g4 r0 r1
  have zg := szs (cell_lt g0)
  have zr := szs (cell_lt r0)
  dsimp only at zg zr
  go_wp2_with fail
  refine WK.out.mono ?_
  rintro e w2 ⟨b2, ⟨hne, rfl⟩ | ⟨hz, v, dr, rfl, hV⟩⟩
  · have B2 := Lib.hid (BB.out.trans (b2.mono BB.out.size))
    rw [← HE.out] at hne
    rw [← HE.out]
    have HN := Lib.hid hne
    clear WK hne b2
    go_wp2_with fail
    go_returns
    exact ⟨B2.out, .inl ⟨by rw [← HE.out]; exact HN.out, by rw [← HE.out]; rfl⟩⟩
  · have B2 := Lib.hid (BB.out.trans (b2.mono BB.out.size))
    have HZ := Lib.hid hz
    have HV := Lib.hid (Row.base_mono hV BB.out.size)
    clear WK hz b2 hV
    go_wp2_with fail
    go_returns
    exact ⟨B2.out, .inr ⟨HZ.out, v, rfl, HV.out⟩⟩
set_option maxHeartbeats 4000000 in
theorem few18 (g : Ng) (w : World) (hg : g.In w) : Calls Tryz.prog 18 #[.agg g.cells] w fun e w' => e = .returned (.bool (decide (g.em ≤ 600) && decide (g.tn ≤ 20) && decide (g.nn ≤ 30))) ∧ Below w.heap.size w w' := by
  have B0 : Hid (Below w.heap.size w (w.alloc (.cells g.cells 32))) := Lib.hid (by (repeat' (first | (with_reducible exact Below.refl _ _) | (with_reducible assumption) | (with_reducible refine Below.drew ?_) | (with_reducible refine below_drewN ?_ _) | (with_reducible refine Below.alloc ?_ ?_ _) | (with_reducible refine Below.setCell ?_ ?_ _) | go_size)))
  have h1 := hg.net.hm
  have h2 := hg.net.hc
  have h3 := hg.trucks.hm
  have h4 := hg.trucks.hc
  have h5 := hg.needs.hm
  have h6 := hg.needs.hc
  clear hg
  have HCC : Hid (g.cells = #[.int .i64 g.N, .slice g.ea g.em g.ec, .slice g.ta g.tn g.tc, .slice g.na g.nn g.nc, .int .i64 g.h]) := Lib.hid rfl
  rw [HCC.out] at B0 ⊢
  generalize g.em = em at *
  generalize g.tn = tn at *
  generalize g.nn = nn at *
  by_cases c1 : em ≤ 600
  · have t1 : decide ((em : Int) ≤ 600) = true := decide_eq_true (by omega)
    by_cases c2 : tn ≤ 20
    · have t2 : decide ((tn : Int) ≤ 20) = true := decide_eq_true (by omega)
      by_cases c3 : nn ≤ 30
      · have t3 : decide ((nn : Int) ≤ 30) = true := decide_eq_true (by omega)
        have HQ : Hid ((decide (em ≤ 600) && decide (tn ≤ 20) && decide (nn ≤ 30)) = true) := Lib.hid (by simp [c1, c2, c3])
        rw [HQ.out]
        go_enter Tryz.func18, Tryz.ntmps18
        go_wp2_with fail
        go_returns
        exact ⟨rfl, B0.out⟩
      · have t3 : decide ((nn : Int) ≤ 30) = false := decide_eq_false (by omega)
        have HQ : Hid ((decide (em ≤ 600) && decide (tn ≤ 20) && decide (nn ≤ 30)) = false) := Lib.hid (by simp [c3])
        rw [HQ.out]
        go_enter Tryz.func18, Tryz.ntmps18
        go_wp2_with fail
        go_returns
        exact ⟨rfl, B0.out⟩
    · have t2 : decide ((tn : Int) ≤ 20) = false := decide_eq_false (by omega)
      have HQ : Hid ((decide (em ≤ 600) && decide (tn ≤ 20) && decide (nn ≤ 30)) = false) := Lib.hid (by simp [c2])
      rw [HQ.out]
      go_enter Tryz.func18, Tryz.ntmps18
      go_wp2_with fail
      go_returns
      exact ⟨rfl, B0.out⟩
  · have t1 : decide ((em : Int) ≤ 600) = false := decide_eq_false (by omega)
    have HQ : Hid ((decide (em ≤ 600) && decide (tn ≤ 20) && decide (nn ≤ 30)) = false) := Lib.hid (by simp [c1])
    rw [HQ.out]
    go_enter Tryz.func18, Tryz.ntmps18
    go_wp2_with fail
    go_returns
    exact ⟨rfl, B0.out⟩
/-- What begun gives. -/
def BegunW (g : Ng) (r : Int) (R : Nat → Int) (k : Nat) (done now : Int) (w : World) (e : Ending) (w' : World) : Prop :=
  Below w.heap.size w w' ∧ ((lateE g r R k done now ≠ 0 ∧ e = .returned (.tuple #[.int .i64 0, .int .i64 0, .int .i64 0, .int .i64 (lateE g r R k done now)])) ∨
    (lateE g r R k done now = 0 ∧ e = .returned (.tuple #[.int .i64 (atK g (g.T r.toNat) R done.toNat), .int .i64 (loadK g R done.toNat), .int .i64 (nowK g (g.T r.toNat) R done.toNat), .int .i64 0])))
set_option maxHeartbeats 8000000 in
theorem begun51 (g : Ng) (r : Int) (R : Nat → Int) (k : Nat) (ra : Option Addr) (rc : Nat) (done now : Int) (w : World) (hg : g.In w) (hR : Sl w 1 ra k rc (nf R)) (hk : k ≤ 1000) :
    Calls Tryz.prog 51 #[.agg g.cells, .agg #[.int .i64 r, .slice ra k rc], .int .i64 done, .int .i64 now] w (BegunW g r R k done now w) := by
  have BB : Hid (Below w.heap.size w ((w.alloc (.cells g.cells 32)).alloc (.cells #[.int .i64 r, .slice ra k rc] 51))) := Lib.hid (by (repeat' (first | (with_reducible exact Below.refl _ _) | (with_reducible assumption) | (with_reducible refine Below.drew ?_) | (with_reducible refine below_drewN ?_ _) | (with_reducible refine Below.alloc ?_ ?_ _) | (with_reducible refine Below.setCell ?_ ?_ _) | go_size)))
  have XG := Lib.hid (al_keep (al_at w (.cells g.cells 32) rfl) (.cells #[.int .i64 r, .slice ra k rc] 51))
  have XR := Lib.hid (al_at (w.alloc (.cells g.cells 32)) (.cells #[.int .i64 r, .slice ra k rc] 51) (k := w.heap.size + 1) (by simp))
  obtain ⟨w1, hw1⟩ : ∃ w1, w1 = (w.alloc (.cells g.cells 32)).alloc (.cells #[.int .i64 r, .slice ra k rc] 51) := ⟨_, rfl⟩
  rw [← hw1] at BB XG XR
  have HW1 := Lib.hid hw1
  have HCC : Hid (g.cells = #[.int .i64 g.N, .slice g.ea g.em g.ec, .slice g.ta g.tn g.tc, .slice g.na g.nn g.nc, .int .i64 g.h]) := Lib.hid rfl
  rw [HCC.out] at XG HW1 ⊢
  have WK := Lib.hid (walkR28 g r R k ra rc w1 (hg.below BB.out) (hR.below BB.out) hk)
  rw [HCC.out] at WK
  have HG1 := Lib.hid (hg.below BB.out)
  have HR := Lib.hid (hR.below BB.out)
  have htm := hg.trucks.hm
  have htc := hg.trucks.hc
  have hnm := hg.needs.hm
  have hnc := hg.needs.hc
  have hrm := hR.hm
  have hrc := hR.hc
  obtain ⟨E, hE⟩ : ∃ E, E = walkE g r R k := ⟨_, rfl⟩
  have HE := Lib.hid hE
  have HL : Hid (lateE g r R k done now = if E ≠ 0 then E else if done < 0 ∨ (k : Int) < done ∨ now < 0 ∨ 86400 < now then 1 else if now < nowK g (g.T r.toNat) R done.toNat then 18 else 0) := Lib.hid (by rw [hE]; rfl)
  clear hw1 hg hR hE
  go_enter Tryz.func51, Tryz.ntmps51
  go_wp2_with fail
  rw [← HW1.out]
  have g0 := cell_kept (Below.refl w1.heap.size w1) (cell_at XG.out 0)
  have g1 := cell_kept (Below.refl w1.heap.size w1) (cell_at XG.out 1)
  have g2 := cell_kept (Below.refl w1.heap.size w1) (cell_at XG.out 2)
  have g3 := cell_kept (Below.refl w1.heap.size w1) (cell_at XG.out 3)
  have g4 := cell_kept (Below.refl w1.heap.size w1) (cell_at XG.out 4)
  have r0 := cell_kept (Below.refl w1.heap.size w1) (cell_at XR.out 0)
  have r1 := cell_kept (Below.refl w1.heap.size w1) (cell_at XR.out 1)
  try dsimp only at g0 g1 g2 g3 g4 r0 r1
  have zg := szs (cell_lt g0)
  have zr := szs (cell_lt r0)
  dsimp only at zg zr
  go_wp2_with fail
  refine WK.out.mono ?_
  rintro e w2 ⟨b2, ⟨hne, rfl⟩ | ⟨hz, v, rfl, hV⟩⟩
  · have B2 := Lib.hid (BB.out.trans (b2.mono BB.out.size))
    rw [← HE.out] at hne
    rw [← HE.out]
    have te : (E != 0) = true := by simpa using hne
    rw [if_pos hne] at HL
    have HN := Lib.hid hne
    clear WK hne b2
    go_wp2_with fail
    go_returns
    exact ⟨B2.out, .inl ⟨by rw [HL.out]; exact HN.out, by rw [HL.out]⟩⟩
  · have B2 := Lib.hid (BB.out.trans (b2.mono BB.out.size))
    rw [if_neg (by rw [HE.out]; simp [hz])] at HL
    obtain ⟨n, hw⟩ := wok_of hz
    have HWO := Lib.hid hw
    have HGN := Lib.hid (HG1.out.below b2)
    have HRN := Lib.hid (HR.out.below b2)
    obtain ⟨av, cv, rfl, sv⟩ := hV.toSl
    have hvm := sv.hm
    have hvc := sv.hc
    have SV := Lib.hid sv
    have hk16 := hw.ro.k16
    have hr0 := hw.ro.r0
    have hr1 := hw.ro.r1
    clear g0 g1 g2 g3 g4 r0 r1 zg zr
    have g0 := cell_kept b2 (cell_at XG.out 0)
    have g1 := cell_kept b2 (cell_at XG.out 1)
    have g2 := cell_kept b2 (cell_at XG.out 2)
    have g3 := cell_kept b2 (cell_at XG.out 3)
    have g4 := cell_kept b2 (cell_at XG.out 4)
    have r0 := cell_kept b2 (cell_at XR.out 0)
    have r1 := cell_kept b2 (cell_at XR.out 1)
    try dsimp only at g0 g1 g2 g3 g4 r0 r1
    have zg := szs (cell_lt g0)
    have zr := szs (cell_lt r0)
    dsimp only at zg zr
    clear WK hz hV sv hw
    by_cases h1 : done < 0
    · have t1 : decide (done < 0) = true := decide_eq_true h1
      rw [if_pos (.inl h1)] at HL
      go_wp2_with fail
      go_returns
      exact ⟨B2.out, .inl ⟨by rw [HL.out]; decide, by rw [HL.out]⟩⟩
    have t1 : decide (done < 0) = false := decide_eq_false h1
    obtain ⟨d, rfl⟩ := Int.eq_ofNat_of_zero_le (show 0 ≤ done by omega)
    by_cases h2 : (k : Int) < d
    · have t2 : decide ((k : Int) < (d : Int)) = true := decide_eq_true h2
      rw [if_pos (.inr (.inl h2))] at HL
      go_wp2_with fail
      go_returns
      exact ⟨B2.out, .inl ⟨by rw [HL.out]; decide, by rw [HL.out]⟩⟩
    have t2 : decide ((k : Int) < (d : Int)) = false := decide_eq_false h2
    by_cases h3 : now < 0
    · have t3 : decide (now < 0) = true := decide_eq_true h3
      rw [if_pos (.inr (.inr (.inl h3)))] at HL
      go_wp2_with fail
      go_returns
      exact ⟨B2.out, .inl ⟨by rw [HL.out]; decide, by rw [HL.out]⟩⟩
    have t3 : decide (now < 0) = false := decide_eq_false h3
    by_cases h4 : 86400 < now
    · have t4 : decide (86400 < now) = true := decide_eq_true h4
      rw [if_pos (.inr (.inr (.inr h4)))] at HL
      go_wp2_with fail
      go_returns
      exact ⟨B2.out, .inl ⟨by rw [HL.out]; decide, by rw [HL.out]⟩⟩
    have t4 : decide (86400 < now) = false := decide_eq_false h4
    have hdk : d ≤ k := by omega
    rw [if_neg (by omega), Int.toNat_natCast] at HL
    obtain ⟨q, rfl⟩ := Int.eq_ofNat_of_zero_le hr0
    have hq : q < g.tn := by omega
    have tq : (q : Int) < (g.tn : Int) := by omega
    obtain ⟨tb, to, htb, hg4, p0, p1, p2, p3⟩ := HGN.out.trucks.tk hq
    have zt := szs hg4
    have HTQ : Hid (g.T ((q : Int)).toNat = g.T q) := Lib.hid rfl
    obtain ⟨pa, hpa⟩ : ∃ pa, pa = atK g (g.T ((q : Int)).toNat) R d := ⟨_, rfl⟩
    obtain ⟨ld, hld⟩ : ∃ ld, ld = loadK g R d := ⟨_, rfl⟩
    obtain ⟨pl, hpl⟩ : ∃ pl, pl = nowK g (g.T ((q : Int)).toNat) R d := ⟨_, rfl⟩
    have HPA := Lib.hid hpa
    have HLD := Lib.hid hld
    have HPL := Lib.hid hpl
    rw [← hpl] at HL
    have HEND : Hid (Ending.returned (.tuple #[.int .i64 (atK g (g.T ((q : Int)).toNat) R ((d : Int)).toNat), .int .i64 (loadK g R ((d : Int)).toNat), .int .i64 (nowK g (g.T ((q : Int)).toNat) R ((d : Int)).toNat), .int .i64 0]) = Ending.returned (.tuple #[.int .i64 pa, .int .i64 ld, .int .i64 pl, .int .i64 0])) := Lib.hid (by rw [hpa, hld, hpl]; rfl)
    rw [htb] at XG HW1 HCC g2
    have XT := Lib.hid (al_at w2 (.cells #[.int .i64 (g.T q).dep, .int .i64 (g.T q).cap, .int .i64 (g.T q).frm, .int .i64 (g.T q).til] 62) rfl)
    have b3 : Below w2.heap.size w2 (w2.alloc (.cells #[.int .i64 (g.T q).dep, .int .i64 (g.T q).cap, .int .i64 (g.T q).frm, .int .i64 (g.T q).til] 62)) := by (repeat' (first | (with_reducible exact Below.refl _ _) | (with_reducible assumption) | (with_reducible refine Below.drew ?_) | (with_reducible refine below_drewN ?_ _) | (with_reducible refine Below.alloc ?_ ?_ _) | (with_reducible refine Below.setCell ?_ ?_ _) | go_size))
    clear h1 h2 hr0 hr1 hpa hld hpl
    go_wp2_with fail
    clear p0 p1 p2 p3 zt
    clear g0 g1 g2 g3 g4 r0 r1 zg zr
    generalize w2.alloc (.cells #[.int .i64 (g.T q).dep, .int .i64 (g.T q).cap, .int .i64 (g.T q).frm, .int .i64 (g.T q).til] 62) = w3 at *
    have k0 := cell_at XT.out 0
    have k2 := cell_at XT.out 2
    have zk := szs (block_lt XT.out)
    (refine region_all (fun i : Nat => World.drewN _ i) mixed (by kernel_rfl) ⟨1, rfl⟩ ?_; (repeat (any_goals (first | go_big_quiet_step (fail) | quiet_step (fail) | (refine wpQuiet_step (fun K hK => ?_); go_simp; split <;> (refine hK _ ?_; clear hK K))))); (all_goals (refine wpQuiet_nil (fun nq => ?_))))
    have b4 : Below w2.heap.size w2 (w3.drewN nq) := below_drewN b3 nq
    generalize w3.drewN nq = w4 at *
    replace B2 := Lib.hid (B2.out.trans (b4.mono B2.out.size))
    have b24 := b2.trans (b4.mono b2.size)
    clear k0 k2 zk
    have g0 := cell_kept b24 (cell_at XG.out 0)
    have g1 := cell_kept b24 (cell_at XG.out 1)
    have g2 := cell_kept b24 (cell_at XG.out 2)
    have g3 := cell_kept b24 (cell_at XG.out 3)
    have g4 := cell_kept b24 (cell_at XG.out 4)
    have r0 := cell_kept b24 (cell_at XR.out 0)
    have r1 := cell_kept b24 (cell_at XR.out 1)
    try dsimp only at g0 g1 g2 g3 g4 r0 r1
    have zg := szs (cell_lt g0)
    have zr := szs (cell_lt r0)
    dsimp only at zg zr
    by_cases hd0 : d = 0
    · subst hd0
      have tp : decide ((0 : Int) < ((0 : Nat) : Int)) = false := by simp
      have e1 : (g.T q).dep = pa := by rw [HPA.out]; rfl
      have e2 : (g.T q).frm = pl := by rw [HPL.out]; rfl
      have e3 : (0 : Int) = ld := by rw [HLD.out]; rfl
      rw [e1, e2]
      by_cases hnp : now < pl
      · have tn : decide (now < pl) = true := decide_eq_true hnp
        rw [if_pos hnp] at HL
        clear e1 e2 e3
        go_wp2_with fail
        go_returns
        exact ⟨B2.out, .inl ⟨by rw [HL.out]; decide, by rw [HL.out]⟩⟩
      · have tn : decide (now < pl) = false := decide_eq_false hnp
        rw [if_neg hnp] at HL
        have HE3 := Lib.hid e3
        clear e1 e2 e3
        go_wp2_with fail
        go_returns
        exact ⟨B2.out, .inr ⟨HL.out, by rw [← HE3.out] at HEND; exact HEND.out.symm⟩⟩
    · obtain ⟨m, rfl⟩ : ∃ m, d = m + 1 := ⟨d - 1, by omega⟩
      have ed : ((m + 1 : Nat) : Int) = (m : Int) + 1 := rfl
      have tp : decide ((0 : Int) < (m : Int) + 1) = true := decide_eq_true (by omega)
      have tm : (m : Int) < (k : Int) := by omega
      have hmk : m < k := by omega
      have hneed := HWO.out.ro.needs m hmk
      obtain ⟨mi, hmi⟩ := Int.eq_ofNat_of_zero_le hneed.1
      have hmn : mi < g.nn := by omega
      have tmn : (mi : Int) < (g.nn : Int) := by omega
      obtain ⟨rb, ro, rfl, hgr, e0⟩ := ((HRN.out.below b4)).num hmk
      rw [hmi] at e0
      have zg' := szs hgr
      obtain ⟨nb, no, hna, hgn, q0, q1⟩ := ((HGN.out.below b4).needs).nd hmn
      have zb := szs hgn
      obtain ⟨vb, vo, rfl, hg6, v0, v1, v2, v3⟩ := (SV.out.below b4).vi hmk
      have zv := szs hg6
      have e1 : (g.D mi).node = pa := by rw [HPA.out]; show _ = (g.D (R m).toNat).node; rw [hmi, Int.toNat_natCast]
      have e2 : (visK g (g.T ((q : Int)).toNat) R m).lea = pl := by rw [HPL.out]; rfl
      have e3 : (visK g (g.T ((q : Int)).toNat) R m).load = ld := by rw [HLD.out]; rfl
      rw [e1] at q0
      rw [e2] at v2
      rw [e3] at v3
      rw [hna] at g3
      rw [ed] at t1 t2 ⊢
      clear e1 e2 e3
      by_cases hnp : now < pl
      · have tn : decide (now < pl) = true := decide_eq_true hnp
        rw [if_pos hnp] at HL
        go_wp2_with fail
        (refine region_all (fun i : Nat => World.drewN _ i) mixed (by kernel_rfl) ⟨1, rfl⟩ ?_; (repeat (any_goals (first | go_big_quiet_step (fail) | quiet_step (fail) | (refine wpQuiet_step (fun K hK => ?_); go_simp; split <;> (refine hK _ ?_; clear hK K))))); (all_goals (refine wpQuiet_nil (fun nq => ?_))))
        go_wp2_with fail
        go_returns
        exact ⟨below_drewN B2.out _, .inl ⟨by rw [HL.out]; decide, by rw [HL.out]⟩⟩
      · have tn : decide (now < pl) = false := decide_eq_false hnp
        rw [if_neg hnp] at HL
        go_wp2_with fail
        (refine region_all (fun i : Nat => World.drewN _ i) mixed (by kernel_rfl) ⟨1, rfl⟩ ?_; (repeat (any_goals (first | go_big_quiet_step (fail) | quiet_step (fail) | (refine wpQuiet_step (fun K hK => ?_); go_simp; split <;> (refine hK _ ?_; clear hK K))))); (all_goals (refine wpQuiet_nil (fun nq => ?_))))
        go_wp2_with fail
        go_returns
        exact ⟨below_drewN B2.out _, .inr ⟨HL.out, HEND.out.symm⟩⟩
end Go.Proofs.YtlnfhlmgnppcbaaGreat

/- Crew's reference: what remains of a route. -/
namespace Go.Proofs.YtlnfhlmgnppcbaaGreat
open Go.RowKit Go.ChangeShapes Go.WideShapes Go.Deep
set_option linter.unusedVariables false
set_option linter.unusedSimpArgs false
set_option maxRecDepth 8000
open Rd
set_option maxHeartbeats 16000000 in
theorem restR21 (g : Ng) (r : Int) (R : Nat → Int) (k : Nat) (ra : Option Addr) (rc : Nat) (done now : Int) (w : World) (hg : g.In w) (hR : Sl w 1 ra k rc (nf R)) (hk : k ≤ 1000) :
    Calls Tryz.prog 21 #[.agg g.cells, .agg #[.int .i64 r, .slice ra k rc], .int .i64 done, .int .i64 now] w (RestW g r R k done now w) := by
  have BB : Hid (Below w.heap.size w ((w.alloc (.cells g.cells 32)).alloc (.cells #[.int .i64 r, .slice ra k rc] 51))) := Lib.hid (by (repeat' (first | (with_reducible exact Below.refl _ _) | (with_reducible assumption) | (with_reducible refine Below.drew ?_) | (with_reducible refine below_drewN ?_ _) | (with_reducible refine Below.alloc ?_ ?_ _) | (with_reducible refine Below.setCell ?_ ?_ _) | go_size)))
  have XG := Lib.hid (al_keep (al_at w (.cells g.cells 32) rfl) (.cells #[.int .i64 r, .slice ra k rc] 51))
  have XR := Lib.hid (al_at (w.alloc (.cells g.cells 32)) (.cells #[.int .i64 r, .slice ra k rc] 51) (k := w.heap.size + 1) (by simp))
  obtain ⟨w1, hw1⟩ : ∃ w1, w1 = (w.alloc (.cells g.cells 32)).alloc (.cells #[.int .i64 r, .slice ra k rc] 51) := ⟨_, rfl⟩
  rw [← hw1] at BB XG XR
  have HW1 := Lib.hid hw1
  have HCC : Hid (g.cells = #[.int .i64 g.N, .slice g.ea g.em g.ec, .slice g.ta g.tn g.tc, .slice g.na g.nn g.nc, .int .i64 g.h]) := Lib.hid rfl
  rw [HCC.out] at XG HW1 ⊢
  have WK := Lib.hid (begun51 g r R k ra rc done now w1 (hg.below BB.out) (hR.below BB.out) hk)
  have WV := Lib.hid (fun w' (hb : Below w1.heap.size w1 w') => walkR28 g r R k ra rc w' ((hg.below BB.out).below hb) ((hR.below BB.out).below hb) hk)
  rw [HCC.out] at WK WV
  have HG1 := Lib.hid (hg.below BB.out)
  have htm := hg.trucks.hm
  have htc := hg.trucks.hc
  obtain ⟨E, hE⟩ : ∃ E, E = lateE g r R k done now := ⟨_, rfl⟩
  have HE := Lib.hid hE
  have HL : Hid (restE g r R k done now = if E ≠ 0 then E else if (g.T r.toNat).til < backK g (g.T r.toNat) R k + delayK g r R done now then 25 else 0) := Lib.hid (by rw [hE]; rfl)
  clear hw1 hg hR hE
  go_enter Tryz.func21, Tryz.ntmps21
  go_wp2_with fail
  rw [← HW1.out]
  have g0 := cell_kept (Below.refl w1.heap.size w1) (cell_at XG.out 0)
  have g1 := cell_kept (Below.refl w1.heap.size w1) (cell_at XG.out 1)
  have g2 := cell_kept (Below.refl w1.heap.size w1) (cell_at XG.out 2)
  have g3 := cell_kept (Below.refl w1.heap.size w1) (cell_at XG.out 3)
  have g4 := cell_kept (Below.refl w1.heap.size w1) (cell_at XG.out 4)
  have r0 := cell_kept (Below.refl w1.heap.size w1) (cell_at XR.out 0)
  have r1 := cell_kept (Below.refl w1.heap.size w1) (cell_at XR.out 1)
  try dsimp only at g0 g1 g2 g3 g4 r0 r1
  have zg := szs (cell_lt g0)
  have zr := szs (cell_lt r0)
  dsimp only at zg zr
  go_wp2_with fail
  refine WK.out.mono ?_
  rintro e w2 ⟨b2, ⟨hne, rfl⟩ | ⟨hz, rfl⟩⟩
  · have B2 := Lib.hid (BB.out.trans (b2.mono BB.out.size))
    rw [← HE.out] at hne
    rw [← HE.out]
    have te : (E != 0) = true := by simpa using hne
    rw [if_pos hne] at HL
    have HN := Lib.hid hne
    clear WK hne b2
    go_wp2_with fail
    go_returns
    exact ⟨B2.out, .inl ⟨by rw [HL.out]; exact HN.out, by rw [HL.out]; rfl⟩⟩
  · rw [if_neg (by rw [HE.out]; simp [hz])] at HL
    obtain ⟨n, d, hw, hwz, rfl, hdk, hn0, hn1, hpn⟩ := late_ok hz
    have HWO := Lib.hid hw
    have HWZ := Lib.hid hwz
    have HB2 := Lib.hid b2
    have hk16 := hw.ro.k16
    have hr0 := hw.ro.r0
    have hr1 := hw.ro.r1
    have hbk0 : backK g (g.T r.toNat) R k ≤ 86400 := by have := hw.back; have := hw.ro.tk; omega
    have hbk1 : 0 ≤ backK g (g.T r.toNat) R k := by have := hw.back_le 0 (Nat.zero_le _) (Nat.le_refl _); have h2 := hw.home_all (i := 0) (Nat.zero_le _); have h3 := (hw.now (i := 0) (Nat.zero_le _)).1; have h4 : backK g (g.T r.toNat) R 0 = nowK g (g.T r.toNat) R 0 + g.S (atK g (g.T r.toNat) R 0) (g.T r.toNat).dep + 0 * g.h := rfl; omega
    have hnd := hw.now hdk
    have HVB : Hid (∀ i, i < k → (0 ≤ (visK g (g.T r.toNat) R i).arr ∧ (visK g (g.T r.toNat) R i).arr ≤ 86400) ∧ 0 ≤ (visK g (g.T r.toNat) R i).lea ∧ (visK g (g.T r.toNat) R i).lea ≤ 86400) := Lib.hid (fun i hi => by
      have h1 := hw.now (i := i) (by omega)
      have h2 := hw.now (i := i + 1) (by omega)
      have h3 := (hw.step i hi).1
      have h4 := (hw.ro.work hi).1
      have e1 : nowK g (g.T r.toNat) R (i + 1) = nowK g (g.T r.toNat) R i + g.S (atK g (g.T r.toNat) R i) (g.nd (R i)).node + g.work (R i) := rfl
      unfold visK
      dsimp only
      omega)
    rw [Int.toNat_natCast]
    obtain ⟨pl, hpl⟩ : ∃ pl, pl = nowK g (g.T r.toNat) R d := ⟨_, rfl⟩
    rw [← hpl] at hnd hpn ⊢
    have hdl0 : delayK g r R (d : Int) now = now - pl := by rw [hpl]; rfl
    rw [hdl0] at HL
    have HDL := Lib.hid hdl0
    obtain ⟨bk, hbk⟩ : ∃ bk, bk = backK g (g.T r.toNat) R k := ⟨_, rfl⟩
    have HBK := Lib.hid hbk
    rw [← hbk] at hbk0 hbk1 HL
    obtain ⟨V, hV⟩ : ∃ V, V = visK g (g.T r.toNat) R := ⟨_, rfl⟩
    have HVV := Lib.hid hV
    rw [← hV] at HVB
    clear g0 g1 g2 g3 g4 r0 r1 zg zr
    have g0 := cell_kept b2 (cell_at XG.out 0)
    have g1 := cell_kept b2 (cell_at XG.out 1)
    have g2 := cell_kept b2 (cell_at XG.out 2)
    have g3 := cell_kept b2 (cell_at XG.out 3)
    have g4 := cell_kept b2 (cell_at XG.out 4)
    have r0 := cell_kept b2 (cell_at XR.out 0)
    have r1 := cell_kept b2 (cell_at XR.out 1)
    try dsimp only at g0 g1 g2 g3 g4 r0 r1
    have zg := szs (cell_lt g0)
    have zr := szs (cell_lt r0)
    dsimp only at zg zr
    have W2 := Lib.hid (WV.out w2 b2)
    clear WK WV hz b2 hw hwz hdl0 hpl hbk hV
    go_wp2_with fail
    refine W2.out.mono ?_
    rintro e w3 ⟨b3, ⟨hne, _⟩ | ⟨_, v, rfl, hv⟩⟩
    · exact absurd HWZ.out hne
    rw [← HBK.out]
    rw [← HVV.out] at hv
    have b23 := HB2.out.trans (b3.mono HB2.out.size)
    have B3 := Lib.hid (BB.out.trans (b23.mono BB.out.size))
    obtain ⟨av, cv, rfl, sv⟩ := hv.toSl
    have hvm := sv.hm
    have hvc := sv.hc
    have SV := Lib.hid sv
    have HGN := Lib.hid (HG1.out.below b23)
    obtain ⟨q, rfl⟩ := Int.eq_ofNat_of_zero_le hr0
    have hq : q < g.tn := by omega
    have tq : (q : Int) < (g.tn : Int) := by omega
    obtain ⟨tb, to, htb, hg4, p0, p1, p2, p3⟩ := HGN.out.trucks.tk hq
    have zt := szs hg4
    have e5 : g.T ((q : Int)).toNat = g.T q := rfl
    rw [e5] at HL
    obtain ⟨til, htil⟩ : ∃ til, til = (g.T q).til := ⟨_, rfl⟩
    rw [← htil] at p3 HL
    clear g0 g1 g2 g3 g4 r0 r1 zg zr
    rw [htb] at XG HW1
    have g0 := cell_kept b23 (cell_at XG.out 0)
    have g1 := cell_kept b23 (cell_at XG.out 1)
    have g2 := cell_kept b23 (cell_at XG.out 2)
    have g3 := cell_kept b23 (cell_at XG.out 3)
    have g4 := cell_kept b23 (cell_at XG.out 4)
    have r0 := cell_kept b23 (cell_at XR.out 0)
    have r1 := cell_kept b23 (cell_at XR.out 1)
    try dsimp only at g0 g1 g2 g3 g4 r0 r1
    have zg := szs (cell_lt g0)
    have zr := szs (cell_lt r0)
    dsimp only at zg zr
    clear W2 sv hv b23 hr0 hr1 htb htil e5
    by_cases hlt : til < bk + (now - pl)
    · have tl : decide (til < bk + (now - pl)) = true := decide_eq_true hlt
      rw [if_pos hlt] at HL
      go_wp2_with fail
      go_returns
      exact ⟨B3.out, .inl ⟨by rw [HL.out]; decide, by rw [HL.out]; rfl⟩⟩
    · have tl : decide (til < bk + (now - pl)) = false := decide_eq_false hlt
      rw [if_neg hlt] at HL
      go_wp2_with fail
      clear g0 g1 g2 g3 g4 r0 r1 zg zr
      clear p0 p1 p2 p3 zt
      go_loopw [19, 20] (fun s19 s20 wr => ∃ (i : Nat) (v' : Value), s20 = .int .i64 ((d + i : Nat) : Int) ∧ d + i ≤ k ∧ s19 = v' ∧ Hid (ViRow wr w3.heap.size v' i (fun j => lateV (now - pl) (V (d + j)))) ∧ Hid (Below w3.heap.size w3 wr)) (fun _ s20 _ => k - (intOf s20).toNat)
      case atStart => exact ⟨0, _, rfl, by omega, rfl, Lib.hid (vi_none _ _ _), Lib.hid (Below.refl _ _)⟩
      case round =>
        obtain ⟨i, v', rfl, hi, rfl, hvr, hbw⟩ := hrel
        have VR := hvr
        have BW := hbw
        clear hvr hbw
        generalize hjj : d + i = jj at *
        have HJJ := Lib.hid hjj
        clear hjj
        by_cases hlt2 : jj < k
        · have tj : (jj : Int) < (k : Int) := by omega
          obtain ⟨vb, vo, rfl, hg6, v0, v1, v2, v3⟩ := (SV.out.below BW.out).vi hlt2
          have zv := szs hg6
          have hbd := HVB.out jj hlt2
          have HUP : Hid (∀ j, upd (fun j => lateV (now - pl) (V (d + j))) i (lateV (now - pl) (V jj)) j = lateV (now - pl) (V (d + j))) := Lib.hid (fun j => by
            by_cases e : j = i
            · subst e; rw [upd_same, HJJ.out]
            · rw [upd_ne e])
          generalize hvi : V jj = vi at *
          clear hvi
          obtain ⟨y1, y2, y3, y4⟩ := vi
          dsimp only at v0 v1 v2 v3 hbd
          go_wp2_with fail
          (refine region_order (fun i : Nat => World.drewN _ i) [0] [1, 2, 3, 4, 5, 6, 7, 8, 9, 10, 11, 12, 13, 14, 15, 16, 17, 18, 19, 20, 21, 22, 23, 24, 25] 26 [27, 28] mixed (by kernel_rfl) ⟨1, rfl⟩ ?_; simp only [List.map_cons, List.map_nil, Array.getD_eq_getD_getElem?, List.getElem?_toArray, List.getElem?_cons_zero, List.getElem?_cons_succ, Option.getD_some]; (repeat (refine wpPure_cons _ rfl (fun w' => by go_simp; try rfl) ?_; dsimp only [Act.put])); refine wpPure_nil ?_; (repeat (any_goals (first | go_big_quiet_step (fail) | quiet_step (fail) | (refine wpQuiet_step (fun K hK => ?_); go_simp; split <;> (refine hK _ ?_; clear hK K))))); (all_goals (refine wpQuiet_nil (fun nq => ?_))))
          have b4 : Below w3.heap.size w3 (wr.drewN nq) := below_drewN BW.out nq
          have VR4 := Lib.hid (Row.off (X := fun _ => False) VR.out (Off.of_below (below_drewN (Below.refl _ _) nq)) (fun _ _ h => h))
          clear v0 v1 v2 v3 zv
          generalize wr.drewN nq = w4 at *
          have hb1 := al_at w4 (.cells #[.int .i64 y1, .int .i64 (y2 + (now - pl)), .int .i64 (y3 + (now - pl)), .int .i64 y4] 56) rfl
          have HB1 := Lib.hid hb1
          have BA : Hid (Below w4.heap.size w4 (w4.alloc (.cells #[.int .i64 y1, .int .i64 (y2 + (now - pl)), .int .i64 (y3 + (now - pl)), .int .i64 y4] 56))) := Lib.hid (by (repeat' (first | (with_reducible exact Below.refl _ _) | (with_reducible assumption) | (with_reducible refine Below.drew ?_) | (with_reducible refine below_drewN ?_ _) | (with_reducible refine Below.alloc ?_ ?_ _) | (with_reducible refine Below.setCell ?_ ?_ _) | go_size)))
          have hle : w3.heap.size ≤ (w4.alloc (.cells #[.int .i64 y1, .int .i64 (y2 + (now - pl)), .int .i64 (y3 + (now - pl)), .int .i64 y4] 56)).heap.size := Nat.le_trans b4.size BA.out.size
          have B34 := Lib.hid b4
          clear hb1 b4
          go_wp2_with (at_builtin; go_loud (refine wpList_append_Vi _ rfl (.tmp 63) (.tmp 89) rfl w3.heap.size _ i (fun j => lateV (now - pl) (V (d + j))) rfl (Row.off (X := fun _ => False) VR4.out (Off.of_below BA.out) (fun _ _ h => h)) w4.heap.size ⟨y1, y2 + (now - pl), y3 + (now - pl), y4⟩ rfl 56 (0, 0) HB1.out (by have := HJJ.out; omega) hle ?_))
          intro v9 w9 r9 o9
          have VR9 : Hid (ViRow w9 w3.heap.size v9 (i + 1) (fun j => lateV (now - pl) (V (d + j)))) := Lib.hid (Row.congr r9 (fun j _ => congrArg (fun x : Vi => ([Value.int .i64 x.need, .int .i64 x.arr, .int .i64 x.lea, .int .i64 x.load] : List Value)) (HUP.out j)))
          have BW9 : Hid (Below w3.heap.size w3 w9) := Lib.hid ((B34.out.trans (BA.out.mono B34.out.size)).trans (o9.toBelow (Nat.le_trans B34.out.size BA.out.size) (fun q hq h => by have h : w3.heap.size ≤ q := h; omega)))
          clear r9 o9 hle HUP
          go_wp2_with fail
          refine onlyN_intro ?_
          go_wp2_with fail
          go_roundw
          case rel => exact ⟨i + 1, v9, by rw [← Nat.add_assoc, HJJ.out]; rfl, by have := HJJ.out; omega, rfl, VR9, BW9⟩
          case measure => simp [intOf]; omega
        · obtain rfl : jj = k := by omega
          go_wp2_with fail
          go_returns
          refine ⟨B3.out.trans (BW.out.mono B3.out.size), .inr ⟨HL.out, _, by rw [← HBK.out, HDL.out]; rfl, ?_⟩⟩
          have h1 := Row.base_mono VR.out B3.out.size
          rw [Int.toNat_natCast, ← HVV.out, HDL.out, show jj - d = i by have := HJJ.out; omega]
          exact h1
end Go.Proofs.YtlnfhlmgnppcbaaGreat
