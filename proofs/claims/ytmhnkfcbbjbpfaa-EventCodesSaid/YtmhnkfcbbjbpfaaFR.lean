/- FromReport: the event of a report, the program's and the reference's. -/
import Derived.Test.YtmhnkfcbbjbpfaaEC3
import Derived.Test.YtmhnkfcbbjbpfaaDF
namespace Go.Proofs.Ytmhnkfcbbjbpfaa
open Go.RowKit Go.ChangeShapes Go.WideShapes Go.Deep
set_option linter.unusedVariables false
set_option linter.unusedSimpArgs false
/-- What Bounds hands back: both ends, the error. -/
noncomputable def bdR (len : Nat) (L : Nat → Sy) (p t : Int) : Int × Int × Int :=
  if syncE len L ≠ 0 then (0, 0, syncE len L) else if ¬ (isRate p = true ∧ isMom t = true) then (0, 0, 1) else if bHi L p t len < bLo L p t len then (0, 0, 10) else (bLo L p t len, bHi L p t len, 0)
theorem boundsV_bdR (len : Nat) (L : Nat → Sy) (p t : Int) : boundsV len L p t = .tuple #[.agg #[.int .i64 (bdR len L p t).1, .int .i64 (bdR len L p t).2.1], .int .i64 (bdR len L p t).2.2] := by
  unfold boundsV bdR
  split
  · rfl
  · split
    · rfl
    · split <;> rfl
/-- A report. -/
structure Rp where
  seq : Int
  loc : Int
  kind : Int
  place : Int
  rider : Int
  ride : Int
def rC (r : Rp) : Array Value := #[.int .i64 r.seq, .int .i64 r.loc, .int .i64 r.kind, .int .i64 r.place, .int .i64 r.rider, .int .i64 r.ride]
def kindOk (k : Int) : Bool := decide (k = 3) || (decide (k = 5) || (decide (k = 6) || decide (k = 2)))
noncomputable def repE (dev bike : Int) (r : Rp) (len : Nat) (L : Nat → Sy) (ppm : Int) : Ev × Int :=
  if (bdR len L ppm r.loc).2.2 ≠ 0 then (zeroE, (bdR len L ppm r.loc).2.2) else if kindOk r.kind = false then (zeroE, 14)
  else if (inB dev 0 255 && inB bike 0 127 && inB r.seq 1 1048576) = false then (zeroE, 1)
  else (⟨dev, r.seq, (bdR len L ppm r.loc).1, (bdR len L ppm r.loc).2.1, r.kind, bike, r.place, r.rider, r.ride⟩, 0)
theorem out9 {w w1 : World} {b : Nat} {t : TypeId} {A : Nat → Int} (h : w1.heap[b]? = some (.cells (arr9 A) t (0, 0))) (hb : w.heap.size ≤ b) (hB : Below w.heap.size w w1) (cs : Array Value) : ∃ w2, setAt w1 b (.cells cs t (0, 0)) = w2 ∧ w2.heap[b]? = some (.cells cs t (0, 0)) ∧ Below w.heap.size w w2 :=
  ⟨_, rfl, setAt_same (block_lt h), below_setAt hb hB⟩
/-- The two blocks of the call behind Bounds. -/
structure RepM (W0 wr : World) (r : Rp) : Prop where
  rep : wr.heap[W0.heap.size]? = some (.cells (rC r) 46 (0, 0))
  out : wr.heap[W0.heap.size + 1]? = some (.cells (arr9 (fun _ => 0)) 26 (0, 0))
  bel : Below W0.heap.size W0 wr
theorem RepM.below {W0 wr w' : World} {r : Rp} (h : RepM W0 wr r) (hb : Below wr.heap.size wr w') : RepM W0 w' r :=
  ⟨(hb.block _ (block_lt h.rep)).trans h.rep, (hb.block _ (block_lt h.out)).trans h.out, h.bel.trans (hb.mono h.bel.size)⟩
theorem RepM.start (w : World) (r : Rp) : RepM w ((w.alloc (.cells (rC r) 46)).alloc (.cells (arr9 (fun _ => 0)) 26)) r := by
  have h0 := heap_alloc_new w (.cells (rC r) 46)
  have hb : Below (w.alloc (.cells (rC r) 46)).heap.size (w.alloc (.cells (rC r) 46)) ((w.alloc (.cells (rC r) 46)).alloc (.cells (arr9 (fun _ => 0)) 26)) := (Below.refl _ _).alloc (Nat.le_refl _) _
  refine ⟨(hb.block _ (block_lt h0)).trans h0, ?_, by (repeat' (first | (with_reducible exact Below.refl _ _) | (with_reducible assumption) | (with_reducible refine Below.drew ?_) | (with_reducible refine below_drewN ?_ _) | (with_reducible refine Below.alloc ?_ ?_ _) | (with_reducible refine Below.setCell ?_ ?_ _) | go_size))⟩
  have h1 := heap_alloc_new (w.alloc (.cells (rC r) 46)) (.cells (arr9 (fun _ => 0)) 26)
  rw [show (w.alloc (.cells (rC r) 46)).heap.size = w.heap.size + 1 by simp] at h1
  exact h1
set_option maxRecDepth 4000 in
set_option maxHeartbeats 4000000 in
theorem report30 (dev bike : Int) (rp : Rp) (a : Option Addr) (len cap : Nat) (L : Nat → Sy) (ppm : Int) (w : World) (hl : len ≤ cap) (hm : cap ≤ 9223372036854775807) (hS : SySl w a len L) : Calls Try.prog 30 #[.int .i64 dev, .int .i64 bike, .agg (rC rp), .slice a len cap, .int .i64 ppm] w fun e w' => e = .returned (evV (repE dev bike rp len L ppm)) ∧ Below w.heap.size w w' := by
  have hmc := hm
  have hcc := hl
  have HS := Lib.hid hS
  have HC := Lib.hid (fun (w' : World) (hb : Below w.heap.size w w') => bounds54 a len cap L ppm rp.loc w' hl hm (HS.out.kept hb))
  rw [boundsV_bdR] at HC
  have hr : repE dev bike rp len L ppm = repE dev bike rp len L ppm := rfl
  obtain ⟨r, hre⟩ : ∃ r, r = repE dev bike rp len L ppm := ⟨_, rfl⟩
  rw [← hre]
  unfold repE at hre
  obtain ⟨q, hq⟩ : ∃ q, q = bdR len L ppm rp.loc := ⟨_, rfl⟩
  rw [← hq] at HC hre
  clear hr hq hS
  have M0 := Lib.hid (RepM.start w rp)
  obtain ⟨lo, hi, e⟩ := q
  obtain ⟨p1, p2, p3, p4, p5, p6⟩ := rp
  dsimp only at HC hre
  unfold rC at *
  dsimp only at M0 ⊢
  unfold arr9 at M0
  by_cases he : e = 0
  · skip
    subst he
    rw [if_neg (by simp)] at hre
    by_cases hk : kindOk p3 = false
    · rw [if_pos hk] at hre
      have HR := Lib.hid hre
      have hk' : p3 ≠ 3 ∧ p3 ≠ 5 ∧ p3 ≠ 6 ∧ p3 ≠ 2 := by simpa [kindOk] using hk
      have t1 : (p3 == 3) = false := by simp; exact hk'.1
      have t2 : (p3 == 5) = false := by simp; exact hk'.2.1
      have t3 : (p3 == 6) = false := by simp; exact hk'.2.2.1
      have t4 : (p3 == 2) = false := by simp; exact hk'.2.2.2
      have u1 : (p3 != 3) = true := by simp; exact hk'.1
      have u2 : (p3 != 5) = true := by simp; exact hk'.2.1
      have u3 : (p3 != 6) = true := by simp; exact hk'.2.2.1
      have u4 : (p3 != 2) = true := by simp; exact hk'.2.2.2
      clear hre hk hk'
      go_enter Try.func30, Try.ntmps30
      go_wp2_with fail
      refine (HC.out _ M0.out.bel).mono ?_
      rintro e' w1 ⟨rfl, hb⟩
      have M1 := Lib.hid (M0.out.below hb)
      clear hb HC M0
      go_simp
      iterate 23 go_step
      obtain ⟨w2, hw2⟩ : ∃ w2, w2 = w1.alloc (.cells #[.int .i64 lo, .int .i64 hi] 69) := ⟨_, rfl⟩
      rw [← hw2]
      have s0 : w2.heap[w1.heap.size]? = some (.cells #[.int .i64 lo, .int .i64 hi] 69 (0, 0)) := by rw [hw2]; exact heap_alloc_new w1 _
      have M2 : Hid (RepM w w2 _) := Lib.hid (M1.out.below (by rw [hw2]; (repeat' (first | (with_reducible exact Below.refl _ _) | (with_reducible assumption) | (with_reducible refine Below.drew ?_) | (with_reducible refine below_drewN ?_ _) | (with_reducible refine Below.alloc ?_ ?_ _) | (with_reducible refine Below.setCell ?_ ?_ _) | go_size))))
      have x0 := M2.out.rep
      unfold rC at x0
      dsimp only at x0
      have c0 := cell_at x0 0
      have c1 := cell_at x0 1
      have c2 := cell_at x0 2
      have c3 := cell_at x0 3
      have c4 := cell_at x0 4
      have c5 := cell_at x0 5
      have y0 := M2.out.out
      have zr := szs (block_lt x0)
      have zo := szs (block_lt y0)
      have zs := szs (block_lt s0)
      have Y0 := Lib.hid y0
      unfold arr9 at y0
      have d0 := cell_at y0 0
      have d1 := cell_at y0 1
      have d2 := cell_at y0 2
      have d3 := cell_at y0 3
      have d4 := cell_at y0 4
      have d5 := cell_at y0 5
      have d6 := cell_at y0 6
      have d7 := cell_at y0 7
      have d8 := cell_at y0 8
      have fo := fun i => free_at y0 i
      have sp0 := cell_at s0 0
      have sp1 := cell_at s0 1
      clear hw2 x0 y0 s0 M1
      go_wp2_with fail
      rw [put9 Y0.out]
      obtain ⟨w3, hw3, x3, b3⟩ := out9 Y0.out (Nat.le_succ _) M2.out.bel (eC zeroE)
      unfold eC zeroE at hw3 x3
      dsimp only at hw3 x3
      rw [hw3]
      clear hw3 c0 c1 c2 c3 c4 c5 zr zs zo d0 d1 d2 d3 d4 d5 d6 d7 d8 fo sp0 sp1
      have zB := szs (block_lt x3)
      have k0 := cell_at x3 0
      have k1 := cell_at x3 1
      have k2 := cell_at x3 2
      have k3 := cell_at x3 3
      have k4 := cell_at x3 4
      have k5 := cell_at x3 5
      have k6 := cell_at x3 6
      have k7 := cell_at x3 7
      have k8 := cell_at x3 8
      have B3 := Lib.hid b3
      clear b3 x3 Y0 M2
      exact bodyPost_ret (v := .tuple #[.agg (eC zeroE), .int .i64 14]) (by simp [results, Try.results30, go_sem, k0, k1, k2, k3, k4, k5, k6, k7, k8, eC, zeroE]) rfl ⟨by rw [HR.out]; rfl, B3.out⟩
    · rw [if_neg hk] at hre
      have C1 := Lib.hid (fun w' => within32 dev 0 255 w')
      have C2 := Lib.hid (fun w' => within32 bike 0 127 w')
      have C3 := Lib.hid (fun w' => within32 p1 1 1048576 w')
      generalize inB dev 0 255 = b1 at *
      generalize inB bike 0 127 = b2 at *
      generalize inB p1 1 1048576 = b3 at *
      have hk' : ((p3 == 3) = true ∧ (p3 != 3) = false) ∨ (((p3 == 3) = false ∧ (p3 != 3) = true) ∧ ((p3 == 5) = true ∧ (p3 != 5) = false)) ∨ (((p3 == 3) = false ∧ (p3 != 3) = true) ∧ ((p3 == 5) = false ∧ (p3 != 5) = true) ∧ ((p3 == 6) = true ∧ (p3 != 6) = false)) ∨ (((p3 == 3) = false ∧ (p3 != 3) = true) ∧ ((p3 == 5) = false ∧ (p3 != 5) = true) ∧ ((p3 == 6) = false ∧ (p3 != 6) = true) ∧ ((p3 == 2) = true ∧ (p3 != 2) = false)) := by
        simp [kindOk] at hk
        simp
        omega
      have hb : (b1 = false ∨ (b1 = true ∧ b2 = false) ∨ (b1 = true ∧ b2 = true ∧ b3 = false)) ∨ (b1 = true ∧ b2 = true ∧ b3 = true) := by cases b1 <;> cases b2 <;> cases b3 <;> simp
      clear hk
      rcases hb with hb | ⟨rfl, rfl, rfl⟩
      · have hre' : r = (zeroE, 1) := by rw [hre, if_pos (by rcases hb with rfl | ⟨rfl, rfl⟩ | ⟨rfl, rfl, rfl⟩ <;> simp)]
        have HR := Lib.hid hre'
        clear hre hre'
        rcases hk' with ⟨t1, u1⟩ | ⟨⟨t1, u1⟩, t2, u2⟩ | ⟨⟨t1, u1⟩, ⟨t2, u2⟩, t3, u3⟩ | ⟨⟨t1, u1⟩, ⟨t2, u2⟩, ⟨t3, u3⟩, t4, u4⟩
        all_goals rcases hb with rfl | ⟨rfl, rfl⟩ | ⟨rfl, rfl, rfl⟩
        all_goals
          go_enter Try.func30, Try.ntmps30
          go_wp2_with fail
          refine (HC.out _ M0.out.bel).mono ?_
          rintro e' w1 ⟨rfl, hb⟩
          have M1 := Lib.hid (M0.out.below hb)
          clear hb HC M0
          go_simp
          iterate 23 go_step
          obtain ⟨w2, hw2⟩ : ∃ w2, w2 = w1.alloc (.cells #[.int .i64 lo, .int .i64 hi] 69) := ⟨_, rfl⟩
          rw [← hw2]
          have s0 : w2.heap[w1.heap.size]? = some (.cells #[.int .i64 lo, .int .i64 hi] 69 (0, 0)) := by rw [hw2]; exact heap_alloc_new w1 _
          have M2 : Hid (RepM w w2 _) := Lib.hid (M1.out.below (by rw [hw2]; (repeat' (first | (with_reducible exact Below.refl _ _) | (with_reducible assumption) | (with_reducible refine Below.drew ?_) | (with_reducible refine below_drewN ?_ _) | (with_reducible refine Below.alloc ?_ ?_ _) | (with_reducible refine Below.setCell ?_ ?_ _) | go_size))))
          have x0 := M2.out.rep
          unfold rC at x0
          dsimp only at x0
          have c0 := cell_at x0 0
          have c1 := cell_at x0 1
          have c2 := cell_at x0 2
          have c3 := cell_at x0 3
          have c4 := cell_at x0 4
          have c5 := cell_at x0 5
          have y0 := M2.out.out
          have zr := szs (block_lt x0)
          have zo := szs (block_lt y0)
          have zs := szs (block_lt s0)
          have Y0 := Lib.hid y0
          unfold arr9 at y0
          have d0 := cell_at y0 0
          have d1 := cell_at y0 1
          have d2 := cell_at y0 2
          have d3 := cell_at y0 3
          have d4 := cell_at y0 4
          have d5 := cell_at y0 5
          have d6 := cell_at y0 6
          have d7 := cell_at y0 7
          have d8 := cell_at y0 8
          have fo := fun i => free_at y0 i
          have sp0 := cell_at s0 0
          have sp1 := cell_at s0 1
          clear hw2 x0 y0 s0 M1
          go_wp2_with fail
          refine (C1.out _).mono ?_
          rintro e w4 ⟨rfl, rfl⟩
          go_wp2_with fail
          try (refine (C2.out _).mono ?_; rintro e w4 ⟨rfl, rfl⟩; go_wp2_with fail)
          try (refine (C3.out _).mono ?_; rintro e w4 ⟨rfl, rfl⟩; go_wp2_with fail)
          rw [put9 Y0.out]
          obtain ⟨w3, hw3, x3, b3⟩ := out9 Y0.out (Nat.le_succ _) M2.out.bel (eC zeroE)
          unfold eC zeroE at hw3 x3
          dsimp only at hw3 x3
          rw [hw3]
          clear hw3 c0 c1 c2 c3 c4 c5 zr zs zo d0 d1 d2 d3 d4 d5 d6 d7 d8 fo sp0 sp1
          have zB := szs (block_lt x3)
          have k0 := cell_at x3 0
          have k1 := cell_at x3 1
          have k2 := cell_at x3 2
          have k3 := cell_at x3 3
          have k4 := cell_at x3 4
          have k5 := cell_at x3 5
          have k6 := cell_at x3 6
          have k7 := cell_at x3 7
          have k8 := cell_at x3 8
          have B3 := Lib.hid b3
          clear b3 x3 Y0 M2
          exact bodyPost_ret (v := .tuple #[.agg (eC zeroE), .int .i64 1]) (by simp [results, Try.results30, go_sem, k0, k1, k2, k3, k4, k5, k6, k7, k8, eC, zeroE]) rfl ⟨by rw [HR.out]; rfl, B3.out⟩
      · rw [if_neg (by simp)] at hre
        have HR := Lib.hid hre
        clear hre
        rcases hk' with ⟨t1, u1⟩ | ⟨⟨t1, u1⟩, t2, u2⟩ | ⟨⟨t1, u1⟩, ⟨t2, u2⟩, t3, u3⟩ | ⟨⟨t1, u1⟩, ⟨t2, u2⟩, ⟨t3, u3⟩, t4, u4⟩
        all_goals
          go_enter Try.func30, Try.ntmps30
          go_wp2_with fail
          refine (HC.out _ M0.out.bel).mono ?_
          rintro e' w1 ⟨rfl, hb⟩
          have M1 := Lib.hid (M0.out.below hb)
          clear hb HC M0
          go_simp
          iterate 23 go_step
          obtain ⟨w2, hw2⟩ : ∃ w2, w2 = w1.alloc (.cells #[.int .i64 lo, .int .i64 hi] 69) := ⟨_, rfl⟩
          rw [← hw2]
          have s0 : w2.heap[w1.heap.size]? = some (.cells #[.int .i64 lo, .int .i64 hi] 69 (0, 0)) := by rw [hw2]; exact heap_alloc_new w1 _
          have M2 : Hid (RepM w w2 _) := Lib.hid (M1.out.below (by rw [hw2]; (repeat' (first | (with_reducible exact Below.refl _ _) | (with_reducible assumption) | (with_reducible refine Below.drew ?_) | (with_reducible refine below_drewN ?_ _) | (with_reducible refine Below.alloc ?_ ?_ _) | (with_reducible refine Below.setCell ?_ ?_ _) | go_size))))
          have x0 := M2.out.rep
          unfold rC at x0
          dsimp only at x0
          have c0 := cell_at x0 0
          have c1 := cell_at x0 1
          have c2 := cell_at x0 2
          have c3 := cell_at x0 3
          have c4 := cell_at x0 4
          have c5 := cell_at x0 5
          have y0 := M2.out.out
          have zr := szs (block_lt x0)
          have zo := szs (block_lt y0)
          have zs := szs (block_lt s0)
          have Y0 := Lib.hid y0
          unfold arr9 at y0
          have d0 := cell_at y0 0
          have d1 := cell_at y0 1
          have d2 := cell_at y0 2
          have d3 := cell_at y0 3
          have d4 := cell_at y0 4
          have d5 := cell_at y0 5
          have d6 := cell_at y0 6
          have d7 := cell_at y0 7
          have d8 := cell_at y0 8
          have fo := fun i => free_at y0 i
          have sp0 := cell_at s0 0
          have sp1 := cell_at s0 1
          clear hw2 x0 y0 s0 M1
          go_wp2_with fail
          refine (C1.out _).mono ?_
          rintro e w4 ⟨rfl, rfl⟩
          go_wp2_with fail
          refine (C2.out _).mono ?_
          rintro e w4 ⟨rfl, rfl⟩
          go_wp2_with fail
          refine (C3.out _).mono ?_
          rintro e w4 ⟨rfl, rfl⟩
          go_wp2_with fail
          rw [put9 Y0.out]
          obtain ⟨w3, hw3, x3, b3⟩ := out9 Y0.out (Nat.le_succ _) M2.out.bel (eC (Ev.mk dev p1 lo hi p3 bike p4 p5 p6))
          unfold eC at hw3 x3
          dsimp only at hw3 x3
          rw [hw3]
          clear hw3 c0 c1 c2 c3 c4 c5 zr zs zo d0 d1 d2 d3 d4 d5 d6 d7 d8 fo sp0 sp1
          have zB := szs (block_lt x3)
          have k0 := cell_at x3 0
          have k1 := cell_at x3 1
          have k2 := cell_at x3 2
          have k3 := cell_at x3 3
          have k4 := cell_at x3 4
          have k5 := cell_at x3 5
          have k6 := cell_at x3 6
          have k7 := cell_at x3 7
          have k8 := cell_at x3 8
          have B3 := Lib.hid b3
          clear b3 x3 Y0 M2
          exact bodyPost_ret (v := .tuple #[.agg (eC (Ev.mk dev p1 lo hi p3 bike p4 p5 p6)), .int .i64 0]) (by simp [results, Try.results30, go_sem, k0, k1, k2, k3, k4, k5, k6, k7, k8, eC]) rfl ⟨by rw [HR.out]; rfl, B3.out⟩
  · rw [if_pos he] at hre
    have te : (e != 0) = true := by simp; exact he
    have HR := Lib.hid hre
    clear hre he
    go_enter Try.func30, Try.ntmps30
    go_wp2_with fail
    refine (HC.out _ M0.out.bel).mono ?_
    rintro e' w1 ⟨rfl, hb⟩
    have M1 := Lib.hid (M0.out.below hb)
    clear hb HC M0
    go_simp
    iterate 23 go_step
    obtain ⟨w2, hw2⟩ : ∃ w2, w2 = w1.alloc (.cells #[.int .i64 lo, .int .i64 hi] 69) := ⟨_, rfl⟩
    rw [← hw2]
    have s0 : w2.heap[w1.heap.size]? = some (.cells #[.int .i64 lo, .int .i64 hi] 69 (0, 0)) := by rw [hw2]; exact heap_alloc_new w1 _
    have M2 : Hid (RepM w w2 _) := Lib.hid (M1.out.below (by rw [hw2]; (repeat' (first | (with_reducible exact Below.refl _ _) | (with_reducible assumption) | (with_reducible refine Below.drew ?_) | (with_reducible refine below_drewN ?_ _) | (with_reducible refine Below.alloc ?_ ?_ _) | (with_reducible refine Below.setCell ?_ ?_ _) | go_size))))
    have x0 := M2.out.rep
    unfold rC at x0
    dsimp only at x0
    have c0 := cell_at x0 0
    have c1 := cell_at x0 1
    have c2 := cell_at x0 2
    have c3 := cell_at x0 3
    have c4 := cell_at x0 4
    have c5 := cell_at x0 5
    have y0 := M2.out.out
    have zr := szs (block_lt x0)
    have zo := szs (block_lt y0)
    have zs := szs (block_lt s0)
    have Y0 := Lib.hid y0
    unfold arr9 at y0
    have d0 := cell_at y0 0
    have d1 := cell_at y0 1
    have d2 := cell_at y0 2
    have d3 := cell_at y0 3
    have d4 := cell_at y0 4
    have d5 := cell_at y0 5
    have d6 := cell_at y0 6
    have d7 := cell_at y0 7
    have d8 := cell_at y0 8
    have fo := fun i => free_at y0 i
    have sp0 := cell_at s0 0
    have sp1 := cell_at s0 1
    clear hw2 x0 y0 s0 M1
    go_wp2_with fail
    rw [put9 Y0.out]
    obtain ⟨w3, hw3, x3, b3⟩ := out9 Y0.out (Nat.le_succ _) M2.out.bel (eC zeroE)
    unfold eC zeroE at hw3 x3
    dsimp only at hw3 x3
    rw [hw3]
    clear hw3 c0 c1 c2 c3 c4 c5 zr zs zo d0 d1 d2 d3 d4 d5 d6 d7 d8 fo sp0 sp1
    have zB := szs (block_lt x3)
    have k0 := cell_at x3 0
    have k1 := cell_at x3 1
    have k2 := cell_at x3 2
    have k3 := cell_at x3 3
    have k4 := cell_at x3 4
    have k5 := cell_at x3 5
    have k6 := cell_at x3 6
    have k7 := cell_at x3 7
    have k8 := cell_at x3 8
    have B3 := Lib.hid b3
    clear b3 x3 Y0 M2
    exact bodyPost_ret (v := .tuple #[.agg (eC zeroE), .int .i64 e]) (by simp [results, Try.results30, go_sem, k0, k1, k2, k3, k4, k5, k6, k7, k8, eC, zeroE]) rfl ⟨by rw [HR.out]; rfl, B3.out⟩
end Go.Proofs.Ytmhnkfcbbjbpfaa
