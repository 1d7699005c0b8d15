/- The error of a network, by the program. -/
import Derived.Test.YtlnfhlmgnppcbaaR8A
namespace Go.Proofs.Ytlnfhlmgnppcbaa
open Go.RowKit
set_option linter.unusedVariables false
set_option linter.unusedSimpArgs false
set_option maxRecDepth 8000
set_option maxHeartbeats 2000000 in
theorem check121 (N : Int) (ao : Option Addr) (m c : Nat) (E : Nat → Ed) (w : World) (h : Net w ao m c E) :
    Calls Try.prog 121 #[.agg #[.int .i64 N, .slice ao m c]] w fun e w' => e = .returned (.int .i64 (roadE N m E)) ∧ Below w.heap.size w w' := by
  by_cases h1 : N < 1
  · rw [show roadE N m E = 1 by simp [roadE, h1]]
    clear h
    go_enter Try.func121, Try.ntmps121
    go_wp2_with fail
    go_returns
    exact ⟨rfl, by (repeat' (first | (with_reducible exact Below.refl _ _) | (with_reducible assumption) | (with_reducible refine Below.drew ?_) | (with_reducible refine below_drewN ?_ _) | (with_reducible refine Below.alloc ?_ ?_ _) | (with_reducible refine Below.setCell ?_ ?_ _) | go_size))⟩
  by_cases h2 : 64 < N
  · rw [show roadE N m E = 1 by simp [roadE, h1, h2]]
    have h1' : 1 ≤ N := by omega
    clear h h1
    go_enter Try.func121, Try.ntmps121
    go_wp2_with fail
    go_returns
    exact ⟨rfl, by (repeat' (first | (with_reducible exact Below.refl _ _) | (with_reducible assumption) | (with_reducible refine Below.drew ?_) | (with_reducible refine below_drewN ?_ _) | (with_reducible refine Below.alloc ?_ ?_ _) | (with_reducible refine Below.setCell ?_ ?_ _) | go_size))⟩
  have h1' : 1 ≤ N := by omega
  have h2' : N ≤ 64 := by omega
  by_cases h3 : 512 < m
  · have h3' : (512 : Int) < (m : Int) := by omega
    rw [show roadE N m E = 8 by simp [roadE, h1, h2, h3]]
    clear h h1 h2 h3
    go_enter Try.func121, Try.ntmps121
    go_wp2_with fail
    go_returns
    exact ⟨rfl, by (repeat' (first | (with_reducible exact Below.refl _ _) | (with_reducible assumption) | (with_reducible refine Below.drew ?_) | (with_reducible refine below_drewN ?_ _) | (with_reducible refine Below.alloc ?_ ?_ _) | (with_reducible refine Below.setCell ?_ ?_ _) | go_size))⟩
  have h3' : (m : Int) ≤ 512 := by omega
  have hE : roadE N m E = scan (fun i => badE N (E i)) m := by simp [roadE, h1, h2, h3]
  rw [hE]
  clear h1 h2 h3 hE
  obtain ⟨w0, hw0⟩ : ∃ w0, w0 = w.alloc (.cells #[.int .i64 N, .slice ao m c] 77) := ⟨_, rfl⟩
  have b0 : Below w.heap.size w w0 := by rw [hw0]; exact (Below.refl _ _).alloc (Nat.le_refl _) _
  have x0 : w0.heap[w.heap.size]? = some (.cells #[.int .i64 N, .slice ao m c] 77) := by rw [hw0]; exact heap_alloc_new w _
  have n0 := Lib.hid (h.below b0)
  have r0 : w0.cell? ⟨w.heap.size, 0, none⟩ = some (.int .i64 N) := cell_at x0 0
  have r1 : w0.cell? ⟨w.heap.size, 1, none⟩ = some (.slice ao m c) := cell_at x0 1
  have B0 := Lib.hid b0
  have HW := Lib.hid hw0
  clear h b0 x0 hw0
  go_enter Try.func121, Try.ntmps121
  go_wp2_with fail
  rw [← HW.out]
  clear HW
  go_loopw [20] (fun i wr => ∃ k : Nat, i = .int .i64 k ∧ k ≤ m ∧ Hid (scan (fun i => badE N (E i)) k = 0 ∧ Below w0.heap.size w0 wr)) (fun i _ => m - (intOf i).toNat)
  case atStart => exact ⟨0, rfl, by omega, rfl, Below.refl _ _⟩
  case round =>
    obtain ⟨k, rfl, hk, hrel⟩ := hrel
    have c0 := cell_kept hrel.out.2 r0
    have c1 := cell_kept hrel.out.2 r1
    have zb := szs (cell_lt c0)
    dsimp only at zb
    have B1 := Lib.hid (B0.out.trans (hrel.out.2.mono B0.out.size))
    by_cases hlt : k < m
    · obtain ⟨g, o, rfl, hg, x0, x1, x2⟩ := (n0.out.below hrel.out.2).cells hlt
      have zg := szs hg
      have t1 : (k : Int) < (m : Int) := by omega
      obtain ⟨f, hf⟩ : ∃ f, f = E k := ⟨_, rfl⟩
      rw [← hf] at x0 x1 x2
      have HF := Lib.hid hf
      obtain ⟨f0, f1, f2⟩ := f
      dsimp only at x0 x1 x2
      have C0 := fun w' => node122 N f0 (.slice (some ⟨g, o, none⟩) m c) w' rfl
      have C1 := fun w' => node122 N f1 (.slice (some ⟨g, o, none⟩) m c) w' rfl
      obtain ⟨p0, hp0⟩ : ∃ p, p = nodeB N f0 := ⟨_, rfl⟩
      obtain ⟨p1, hp1⟩ : ∃ p, p = nodeB N f1 := ⟨_, rfl⟩
      rw [← hp0] at C0
      rw [← hp1] at C1
      have HC0 := Lib.hid C0
      have HC1 := Lib.hid C1
      have HP : Hid (badE N (E k) = if p0 = false then 7 else if p1 = false then 7 else if f2 < 1 then 1 else if 1000 < f2 then 1 else 0) := Lib.hid (by rw [← HF.out, hp0, hp1]; rfl)
      have b2 : Below w0.heap.size w0 (wr.alloc (.cells #[.int .i64 f0, .int .i64 f1, .int .i64 f2] 113)) := hrel.out.2.alloc hrel.out.2.size _
      have B2 := Lib.hid b2
      have X2 := Lib.hid (heap_alloc_new wr (.cells #[.int .i64 f0, .int .i64 f1, .int .i64 f2] 113))
      have HZ := Lib.hid hrel.out.2.size
      clear C0 C1 hp0 hp1 b2 hf
      go_wp2_with fail
      refine (HC0.out _).mono ?_
      rintro e w1 ⟨rfl, b1⟩
      have B3 := Lib.hid (B2.out.trans (b1.mono B2.out.size))
      have x3 := (b1.block _ (block_lt X2.out)).trans X2.out
      have d0 := cell_kept B3.out r0
      have d1 := cell_kept B3.out r1
      have d2 : w1.cell? ⟨wr.heap.size, 0, none⟩ = some (.int .i64 f0) := cell_at x3 0
      have d3 : w1.cell? ⟨wr.heap.size, 1, none⟩ = some (.int .i64 f1) := cell_at x3 1
      have d4 : w1.cell? ⟨wr.heap.size, 2, none⟩ = some (.int .i64 f2) := cell_at x3 2
      have zd := szs (block_lt x3)
      have ze := szs (cell_lt d0)
      dsimp only at ze
      have X3 := Lib.hid x3
      clear b1 x3 c0 c1 x0 x1 x2
      cases p0
      · go_wp2_with fail
        go_returns
        exact ⟨by rw [scan_hit hrel.out.1 (by rw [HP.out]; simp) hlt, HP.out]; rfl, B0.out.trans (B3.out.mono B0.out.size)⟩
      · go_wp2_with fail
        refine (HC1.out _).mono ?_
        rintro e w2 ⟨rfl, b1⟩
        have B4 := Lib.hid (B3.out.trans (b1.mono B3.out.size))
        have x4 := (b1.block _ (block_lt X3.out)).trans X3.out
        have e0 := cell_kept B4.out r0
        have e1 := cell_kept B4.out r1
        have e4 : w2.cell? ⟨wr.heap.size, 2, none⟩ = some (.int .i64 f2) := cell_at x4 2
        have ye := szs (cell_lt e0)
        dsimp only at ye
        have yd := szs (block_lt x4)
        clear b1 x4 d0 d1 d2 d3 d4
        cases p1
        · go_wp2_with fail
          go_returns
          exact ⟨by rw [scan_hit hrel.out.1 (by rw [HP.out]; simp) hlt, HP.out]; rfl, B0.out.trans (B4.out.mono B0.out.size)⟩
        · by_cases s1 : f2 < 1
          · go_wp2_with fail
            go_returns
            exact ⟨by rw [scan_hit hrel.out.1 (by rw [HP.out]; simp [s1]) hlt, HP.out]; simp [s1], B0.out.trans (B4.out.mono B0.out.size)⟩
          · have s1' : 1 ≤ f2 := by omega
            by_cases s2 : 1000 < f2
            · have HS := Lib.hid s1
              clear s1
              go_wp2_with fail
              go_returns
              exact ⟨by have s1 := HS.out; rw [scan_hit hrel.out.1 (by rw [HP.out]; simp [s1, s2]) hlt, HP.out]; simp [s1, s2], B0.out.trans (B4.out.mono B0.out.size)⟩
            · have s2' : f2 ≤ 1000 := by omega
              have H0 := Lib.hid (scan_next (f := fun i => badE N (E i)) hrel.out.1 (by show badE N (E k) = 0; rw [HP.out]; simp [s1, s2]))
              clear s1 s2
              go_wp2_with fail
              go_roundw
              case rel => exact ⟨k + 1, by go_num, by omega, H0.out, B4.out⟩
              case measure => simp [intOf]; omega
    · obtain rfl : k = m := by omega
      go_wp2_with fail
      go_returns
      exact ⟨by rw [hrel.out.1]; rfl, B1.out⟩
end Go.Proofs.Ytlnfhlmgnppcbaa
