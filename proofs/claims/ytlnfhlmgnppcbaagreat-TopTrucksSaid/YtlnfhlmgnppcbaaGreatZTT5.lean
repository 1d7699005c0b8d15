/- The checks of a truck and a set of needs. -/
import Derived.Test.YtlnfhlmgnppcbaaGreatZTT4
import Derived.BigQuiet
import Derived.BigRegion
namespace Go.Proofs.YtlnfhlmgnppcbaaGreat
open Go.RowKit Go.ChangeShapes Go.WideShapes Go.Deep
set_option linter.unusedVariables false
set_option linter.unusedSimpArgs false
open Rd
set_option maxRecDepth 8000 in
set_option maxHeartbeats 8000000 in
theorem check116 (g : Ng) (r : Int) (V : Nat → Int) (n : Nat) (a : Option Addr) (c : Nat) (w : World) (hg : g.In w) (hs : Sl w 1 a n c (nf V)) (hn : n ≤ 1000) :
    Calls Tryz.prog 116 #[.agg g.cells, .int .i64 r, .slice a n c] w fun e w' => ∃ x : Int, e = .returned (.int .i64 x) ∧ Below w.heap.size w w' ∧ (x = 0 → n ≤ 6 ∧ ∀ i, i < n → 0 ≤ V i ∧ V i < g.nn) := by
  have BB : Hid (Below w.heap.size w (w.alloc (.cells g.cells 32))) := Lib.hid (by (repeat' (first | (with_reducible exact Below.refl _ _) | (with_reducible assumption) | (with_reducible refine Below.drew ?_) | (with_reducible refine below_drewN ?_ _) | (with_reducible refine Below.alloc ?_ ?_ _) | (with_reducible refine Below.setCell ?_ ?_ _) | go_size)))
  have XN := Lib.hid (al_at w (.cells g.cells 32) rfl)
  obtain ⟨w1, hw1⟩ : ∃ w1, w1 = w.alloc (.cells g.cells 32) := ⟨_, rfl⟩
  rw [← hw1] at BB XN
  have HW1 := Lib.hid hw1
  have CK := Lib.hid (check41 g w1 (hg.below BB.out))
  have HCC : Hid (g.cells = #[.int .i64 g.N, .slice g.ea g.em g.ec, .slice g.ta g.tn g.tc, .slice g.na g.nn g.nc, .int .i64 g.h]) := Lib.hid rfl
  have HS := Lib.hid (hs.below BB.out)
  have hmc := hs.hm
  have hcc := hs.hc
  have hnm := hg.needs.hm
  have hnc := hg.needs.hc
  have htm := hg.trucks.hm
  have htc := hg.trucks.hc
  have HNK := Lib.hid (fun h : nightE g = 0 => nok_of h)
  obtain ⟨E, hE⟩ : ∃ E, E = nightE g := ⟨_, rfl⟩
  rw [← hE] at CK HNK
  rw [HCC.out] at CK HW1 XN ⊢
  clear hw1 hg hs hE
  go_enter Tryz.func116, Tryz.ntmps116
  go_wp2_with fail
  rw [← HW1.out]
  have x0 := cell_at XN.out 0
  have x1 := cell_at XN.out 1
  have x2 := cell_at XN.out 2
  have x3 := cell_at XN.out 3
  have x4 := cell_at XN.out 4
  have zx := szs (block_lt XN.out)
  go_wp2_with fail
  refine CK.out.mono ?_
  rintro e w2 ⟨rfl, b2⟩
  have B2 := Lib.hid (BB.out.trans (b2.mono BB.out.size))
  have XN2 := Lib.hid ((b2.block _ (block_lt XN.out)).trans XN.out)
  have S2 := Lib.hid (HS.out.below b2)
  clear x0 x1 x2 x3 x4 zx CK b2 XN HS HW1
  by_cases hE0 : E = 0
  · subst hE0
    obtain ⟨n', hN, _⟩ := HNK.out rfl
    have hnn := hN.nn
    clear hN HNK
    have x2 := cell_at XN2.out 2
    have x3 : w2.cell? ⟨w.heap.size, 3, none⟩ = some (.slice g.na g.nn g.nc) := cell_at XN2.out 3
    have zx := szs (block_lt XN2.out)
    by_cases h0 : r < 0
    · have t0 : decide (r < 0) = true := decide_eq_true h0
      go_wp2_with fail
      go_returns
      exact ⟨7, rfl, B2.out, fun h => by cases h⟩
    have t0 : decide (r < 0) = false := decide_eq_false h0
    by_cases h1 : (g.tn : Int) ≤ r
    · have t1 : decide ((g.tn : Int) ≤ r) = true := decide_eq_true h1
      go_wp2_with fail
      go_returns
      exact ⟨7, rfl, B2.out, fun h => by cases h⟩
    have t1 : decide ((g.tn : Int) ≤ r) = false := decide_eq_false h1
    have AO := Lib.hid (anyOut133 a n c V w.heap.size g.nn g.na g.nc w2 x3 (by omega) S2.out hn)
    obtain ⟨y, hy⟩ : ∃ y, y = anyN (fun j => outB g.nn (V j)) n := ⟨_, rfl⟩
    rw [← hy] at AO
    have HY := Lib.hid hy
    clear hy
    go_wp2_with fail
    refine AO.out.mono ?_
    rintro e w3 ⟨rfl, b3⟩
    have B3 := Lib.hid (B2.out.trans (b3.mono B2.out.size))
    have S3 := Lib.hid (S2.out.below b3)
    clear x2 x3 zx AO b3 S2 XN2
    cases y with
    | true =>
      go_wp2_with fail
      go_returns
      exact ⟨7, rfl, B3.out, fun h => by cases h⟩
    | false =>
      have HIN : Hid (∀ i, i < n → 0 ≤ V i ∧ V i < g.nn) := Lib.hid (fun i hi => outB_iff.1 (anyN_false HY.out.symm hi))
      have C1 := values135 a n c w3
      have ba : Below w3.heap.size w3 (w3.alloc (.cells #[.slice a n c] 22)) := by (repeat' (first | (with_reducible exact Below.refl _ _) | (with_reducible assumption) | (with_reducible refine Below.drew ?_) | (with_reducible refine below_drewN ?_ _) | (with_reducible refine Below.alloc ?_ ?_ _) | (with_reducible refine Below.setCell ?_ ?_ _) | go_size))
      have XV := heap_alloc_new w3 (.cells #[.slice a n c] 22)
      obtain ⟨w4, hw4⟩ : ∃ w4, w4 = w3.alloc (.cells #[.slice a n c] 22) := ⟨_, rfl⟩
      rw [← hw4] at C1 ba XV
      have C1 := Lib.hid C1
      have B4 := Lib.hid (B3.out.trans (ba.mono B3.out.size))
      have S4 := Lib.hid (S3.out.below ba)
      have C2 := Lib.hid (sorted134 w3.heap.size n c a V w4 hn S4.out (cell_at XV 0))
      clear hw4 ba XV
      go_wp2_with fail
      refine C1.out.mono ?_
      rintro e w' ⟨rfl, rfl⟩
      clear C1
      go_wp2_with fail
      refine C2.out.mono ?_
      rintro e w5 ⟨v, ss, rfl, hss, hrow, hnil, b5⟩
      have B5 := Lib.hid (B4.out.trans (b5.mono B4.out.size))
      have hl : ss.length = n := by rw [hss, ents_len]
      have hTl : (ss.mergeSort fun x y => decide (x ≤ y)).length = n := by rw [List.length_mergeSort, hl]
      generalize (ss.mergeSort fun x y => decide (x ≤ y)) = T at *
      rw [hl, ← hTl] at hrow
      have R5 := numR_of hrow
      rw [hTl] at R5
      have CP := Lib.hid (compact136 _ v n _ w5 R5 hn)
      have HOW := Lib.hid (fun k (h : v.ownBlock = some k) => (World.ownsRow.lt R5 k h).1)
      have HB4 := Lib.hid B4.out.size
      clear hss hl hTl hrow hnil R5 C2 b5 S4
      go_wp2_with fail
      refine CP.out.mono ?_
      rintro e w6 ⟨⟨a6, m6, c6, rfl⟩, o6⟩
      have B6 : Hid (Below w.heap.size w w6) := Lib.hid (B5.out.trans (o6.toBelow B5.out.size (fun q hq h => by have h1 := HOW.out q h; have h2 := HB4.out; omega)))
      clear CP o6 HOW
      by_cases hm : m6 = n
      · have tm : ((m6 : Int) != (n : Int)) = false := by subst hm; simp
        by_cases h6 : 6 < n
        · have t6 : decide ((6 : Int) < (n : Int)) = true := decide_eq_true (by omega)
          go_wp2_with fail
          go_returns
          exact ⟨8, rfl, B6.out, fun h => by cases h⟩
        · have t6 : decide ((6 : Int) < (n : Int)) = false := decide_eq_false (by omega)
          have hn6 : n ≤ 6 := by omega
          clear hm
          go_wp2_with fail
          go_returns
          exact ⟨0, rfl, B6.out, fun _ => ⟨hn6, HIN.out⟩⟩
      · have tm : ((m6 : Int) != (n : Int)) = true := by simp; omega
        go_wp2_with fail
        go_returns
        exact ⟨6, rfl, B6.out, fun h => by cases h⟩
  · have te : (E != 0) = true := by simpa using hE0
    have HE0 := Lib.hid hE0
    clear hE0
    go_wp2_with fail
    go_returns
    exact ⟨E, rfl, B2.out, fun h => absurd h HE0.out⟩
end Go.Proofs.YtlnfhlmgnppcbaaGreat
