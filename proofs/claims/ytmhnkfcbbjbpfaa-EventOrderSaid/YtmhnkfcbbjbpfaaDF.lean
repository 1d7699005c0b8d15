/- Contract: the reference's Bounds of layer drift. -/
import Derived.Test.YtmhnkfcbbjbpfaaDD
import Derived.Test.YtmhnkfcbbjbpfaaDE
import Derived.BigRegion
namespace Go.Proofs.Ytmhnkfcbbjbpfaa
open Go.RowKit
set_option linter.unusedVariables false
set_option linter.unusedSimpArgs false

theorem ite_max (a b : Int) : (if a < b then b else a) = max a b := by omega
theorem ite_min (a b : Int) : (if b < a then b else a) = min a b := by omega
set_option maxHeartbeats 2000000 in
theorem bounds55 (a : Option Addr) (len cap : Nat) (L : Nat → Sy) (p t : Int) (w : World) (hl : len ≤ cap) (hm : cap ≤ 9223372036854775807) (hS : SySl w a len L) :
    Calls Try.prog 55 #[.slice a len cap, .int .i64 p, .int .i64 t] w fun e w' => e = .returned (boundsV len L p t) ∧ Below w.heap.size w w' := by
  by_cases c0 : syncE len L = 0
  rotate_left
  · have E : boundsV len L p t = .tuple #[.agg #[.int .i64 0, .int .i64 0], .int .i64 (syncE len L)] := by rw [boundsV, if_pos c0]
    rw [E]
    have c0' : (syncE len L == 0) = false := by simpa using c0
    have hS2 : ∀ o, SySl (w.alloc o) a len L := fun o => hS.kept ((Below.refl _ _).alloc (Nat.le_refl _) _)
    have H2 := Lib.hid hS2
    clear hS hS2
    go_enter Try.func55, Try.ntmps55
    go_wp2_with (go_at_call 67; refine (check67 a len cap L _ hl hm (H2.out _)).mono ?_; rintro e w1 ⟨rfl, hb⟩; have hk := bcell hb)
    refine bodyPost_ret (v := .tuple #[.agg #[.int .i64 0, .int .i64 0], .int .i64 (syncE len L)]) (by simp [results, Try.results55, go_sem, hk]) rfl ⟨rfl, ?_⟩
    have hb2 := (((Below.refl w.heap.size w).alloc (Nat.le_refl _) _)).trans (hb.mono (by go_size))
    (repeat' (first | (with_reducible exact Below.refl _ _) | (with_reducible assumption) | (with_reducible refine Below.drew ?_) | (with_reducible refine below_drewN ?_ _) | (with_reducible refine Below.alloc ?_ ?_ _) | (with_reducible refine Below.setCell ?_ ?_ _) | go_size))
  have hSA : ∀ w1, Below (w.alloc (.cells #[.int .i64 0, .int .i64 0] 69)).heap.size (w.alloc (.cells #[.int .i64 0, .int .i64 0] 69)) w1 → Below w.heap.size w w1 := fun w1 hb => (((Below.refl w.heap.size w).alloc (Nat.le_refl _) _)).trans (hb.mono (by go_size))
  have hS2 : ∀ o, SySl (w.alloc o) a len L := fun o => hS.kept ((Below.refl _ _).alloc (Nat.le_refl _) _)
  have H2 := Lib.hid hS2
  have HA := Lib.hid hSA
  clear hS2 hSA
  by_cases c1 : isRate p = true ∧ isMom t = true
  rotate_left
  · have E : boundsV len L p t = .tuple #[.agg #[.int .i64 0, .int .i64 0], .int .i64 1] := by rw [boundsV, if_neg (by simpa using c0), if_pos c1]
    rw [E]
    have C := fun w h => (check67 a len cap L w hl hm h)
    rw [c0] at C
    clear c0 E
    have c1' : p < 0 ∨ (¬ p < 0 ∧ 100000 < p) ∨ (¬ p < 0 ∧ ¬ 100000 < p ∧ t < 0) ∨ (¬ p < 0 ∧ ¬ 100000 < p ∧ ¬ t < 0 ∧ 4294943999 < t) := by
      rw [isRate_iff, isMom_iff] at c1; omega
    clear c1
    rcases c1' with g1 | ⟨g1, g2⟩ | ⟨g1, g2, g3⟩ | ⟨g1, g2, g3, g4⟩
    all_goals
      go_enter Try.func55, Try.ntmps55
      go_wp2_with (first
        | (go_at_call 67; refine (C _ (H2.out _)).mono ?_; rintro e w1 ⟨rfl, hb⟩; have hk := bcell hb)
        | (go_at_call 63; refine (rate63 _ _).mono ?_; rintro e w' ⟨rfl, rfl⟩)
        | (go_at_call 64; refine (moment64 _ _).mono ?_; rintro e w' ⟨rfl, rfl⟩))
      refine bodyPost_ret (v := .tuple #[.agg #[.int .i64 0, .int .i64 0], .int .i64 1]) (by simp [results, Try.results55, go_sem, hk]) rfl ⟨rfl, ?_⟩
      have hb2 := HA.out _ hb
      (repeat' (first | (with_reducible exact Below.refl _ _) | (with_reducible assumption) | (with_reducible refine Below.drew ?_) | (with_reducible refine below_drewN ?_ _) | (with_reducible refine Below.alloc ?_ ?_ _) | (with_reducible refine Below.setCell ?_ ?_ _) | go_size))
  obtain ⟨g1, g2⟩ := c1
  obtain ⟨p0, p1⟩ := isRate_iff.1 g1
  obtain ⟨t0, t1⟩ := isMom_iff.1 g2
  obtain ⟨n0, n1, hok, hord⟩ := check_okS c0
  have E : boundsV len L p t = if bHi L p t len < bLo L p t len then .tuple #[.agg #[.int .i64 0, .int .i64 0], .int .i64 10] else .tuple #[.agg #[.int .i64 (bLo L p t len), .int .i64 (bHi L p t len)], .int .i64 0] := by
    rw [boundsV, if_neg (by simpa using c0), if_neg (by simp [g1, g2])]
  rw [E]
  have C := fun w h => (check67 a len cap L w hl hm h)
  rw [c0] at C
  clear c0 E
  obtain ⟨b, off, rfl, hcc⟩ := hS.all (by omega)
  have HS := Lib.hid hcc
  have HO := Lib.hid hok
  clear hS hcc hok hord
  have b0 : decide (p < 0) = false := by simp; omega
  have b1 : decide (100000 < p) = false := by simp; omega
  have b2 : decide (t < 0) = false := by simp; omega
  have b3 : decide (4294943999 < t) = false := by simp; omega
  go_enter Try.func55, Try.ntmps55
  go_wp2_with (first
        | (go_at_call 67; refine (C _ (H2.out _)).mono ?_; rintro e w1 ⟨rfl, hb⟩; have hk := bcell hb)
        | (go_at_call 63; refine (rate63 _ _).mono ?_; rintro e w' ⟨rfl, rfl⟩)
        | (go_at_call 64; refine (moment64 _ _).mono ?_; rintro e w' ⟨rfl, rfl⟩))
  have hR : w.heap.size < w1.heap.size := by have := hb.size; simp at this; omega
  have zR := szs hR
  have hW := HA.out _ hb
  have hR : w.heap.size < w1.heap.size := by have := hb.size; simp at this; omega
  have zR := szs hR
  have hW := HA.out _ hb
  go_loopw [10] (fun c wr => ∃ k : Nat, k ≤ len ∧ c = .int .i64 k ∧ Below w.heap.size w wr ∧
      ((wr.cell? ⟨w.heap.size, 0, none⟩ = some (.int .i64 0) ∧ wr.cell? ⟨w.heap.size, 1, none⟩ = some (.int .i64 0)) ∧ wr.frozen? ⟨w.heap.size, 0, none⟩ = false ∧ wr.frozen? ⟨w.heap.size, 1, none⟩ = false) ∧
      ((wr.cell? ⟨w1.heap.size, 0, none⟩ = some (.int .i64 (bLo L p t k)) ∧ wr.cell? ⟨w1.heap.size, 1, none⟩ = some (.int .i64 (bHi L p t k))) ∧ wr.frozen? ⟨w1.heap.size, 0, none⟩ = false ∧ wr.frozen? ⟨w1.heap.size, 1, none⟩ = false)) (fun c _ => len - (intOf c).toNat)
  case atStart =>
    refine ⟨0, Nat.zero_le _, rfl, by (have hszz := (hW).size; (repeat' (first | (with_reducible exact Below.refl _ _) | (with_reducible assumption) | (with_reducible refine Below.drew ?_) | (with_reducible refine below_drewN ?_ _) | (with_reducible refine Below.alloc ?_ ?_ _) | (with_reducible refine Below.setCell ?_ ?_ _) | go_size))), ?_, ?_⟩
    · simp [go_sem, hk, zR]
    · simp only [bLo, bHi]; simp [go_sem]
  case round =>
    obtain ⟨k, hk', rfl, hbel, ⟨⟨r0, r1⟩, s0, s1⟩, ⟨q0, q1⟩, f0, f1⟩ := hrel
    clear hk hb hW
    have zO := szs (cell_lt q0)
    have zR2 := szs (cell_lt r0)
    dsimp only at zO zR2
    by_cases hlt : k < len
    · obtain ⟨d0, d1, d2⟩ := HS.out k hlt
      have e0 := cell_kept hbel d0
      have e1 := cell_kept hbel d1
      have e2 := cell_kept hbel d2
      have i0 : (k : Int) < (len : Int) := by omega
      have hy := Lib.hid (HO.out k hlt)
      clear d0 d1 d2
      go_wp2_with (go_at_call 68; refine (allowed68 (L k) p t _ hy.out p0 p1 t0 t1).mono ?_; rintro e w2 ⟨rfl, hb2⟩; have hk2 := bcell hb2; have z2 : wr.heap.size ≤ w2.heap.size := hb2.size; have z3 := szs (a := w1.heap.size) (b := w2.heap.size) (by have := zO.1; omega); have z4 := szs (a := w.heap.size) (b := w2.heap.size) (by have := zR2.1; omega))
      have hb3 : Below w.heap.size w w2 := hbel.trans (hb2.mono (by go_size))
      have g0 : w2.cell? ⟨w1.heap.size, 0, none⟩ = some (.int .i64 (bLo L p t k)) := by simp [go_sem, hk2, zO, q0]
      have g1 : w2.cell? ⟨w1.heap.size, 1, none⟩ = some (.int .i64 (bHi L p t k)) := by simp [go_sem, hk2, zO, q1]
      have g2 : w2.frozen? ⟨w1.heap.size, 0, none⟩ = false := by simp [go_sem, hk2, zO, f0]
      have g3 : w2.frozen? ⟨w1.heap.size, 1, none⟩ = false := by simp [go_sem, hk2, zO, f1]
      have g4 : w2.cell? ⟨w.heap.size, 0, none⟩ = some (.int .i64 0) := by simp [go_sem, hk2, zR2, r0]
      have g5 : w2.cell? ⟨w.heap.size, 1, none⟩ = some (.int .i64 0) := by simp [go_sem, hk2, zR2, r1]
      have g6 : w2.frozen? ⟨w.heap.size, 0, none⟩ = false := by simp [go_sem, hk2, zR2, s0]
      have g7 : w2.frozen? ⟨w.heap.size, 1, none⟩ = false := by simp [go_sem, hk2, zR2, s1]
      clear hk2 q0 q1 f0 f1 r0 r1 s0 s1 hb2
      go_region
      go_wp2
      go_roundw
      case rel =>
        refine ⟨k + 1, by omega, by go_num, ?_, ?_, ?_⟩
        · (have hszz := (hb3).size; (repeat' (first | (with_reducible exact Below.refl _ _) | (with_reducible assumption) | (with_reducible refine Below.drew ?_) | (with_reducible refine below_drewN ?_ _) | (with_reducible refine Below.alloc ?_ ?_ _) | (with_reducible refine Below.setCell ?_ ?_ _) | go_size)))
        · simp [go_sem, zR2, z3, z4, g4, g5, g6, g7, hR, Nat.ne_of_lt hR, Nat.ne_of_gt hR]
        · rw [bLo_succ, bHi_succ, ← ite_max, ← ite_min]; simp [go_sem, z3, z4, g0, g1, g2, g3]
      case measure => simp [intOf]; omega
    · obtain rfl : k = len := by omega
      by_cases hx : bHi L p t k < bLo L p t k
      · go_wp2
        refine bodyPost_ret (v := .tuple #[.agg #[.int .i64 0, .int .i64 0], .int .i64 10]) (by simp [results, Try.results55, go_sem, r0, r1]) rfl ⟨rfl, ?_⟩
        (have hszz := (hbel).size; (repeat' (first | (with_reducible exact Below.refl _ _) | (with_reducible assumption) | (with_reducible refine Below.drew ?_) | (with_reducible refine below_drewN ?_ _) | (with_reducible refine Below.alloc ?_ ?_ _) | (with_reducible refine Below.setCell ?_ ?_ _) | go_size)))
      · go_wp2
        refine bodyPost_ret (v := .tuple #[.agg #[.int .i64 (bLo L p t k), .int .i64 (bHi L p t k)], .int .i64 0]) (by simp [results, Try.results55, go_sem, r0, r1]) rfl ⟨rfl, ?_⟩
        (have hszz := (hbel).size; (repeat' (first | (with_reducible exact Below.refl _ _) | (with_reducible assumption) | (with_reducible refine Below.drew ?_) | (with_reducible refine below_drewN ?_ _) | (with_reducible refine Below.alloc ?_ ?_ _) | (with_reducible refine Below.setCell ?_ ?_ _) | go_size)))
end Go.Proofs.Ytmhnkfcbbjbpfaa
