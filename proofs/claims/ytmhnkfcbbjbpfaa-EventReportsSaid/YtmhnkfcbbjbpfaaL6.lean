/- The law EventReports. -/
import Derived.Test.YtmhnkfcbbjbpfaaAW2
import Derived.Test.YtmhnkfcbbjbpfaaFR2
namespace Go.Proofs.Ytmhnkfcbbjbpfaa
open Go.RowKit Go.ChangeShapes Go.WideShapes Go.Deep
set_option linter.unusedVariables false
set_option linter.unusedSimpArgs false
set_option maxRecDepth 4000 in
set_option maxHeartbeats 4000000 in
theorem run_eventReports {H : Type} {enc : TypeId × Value → H} (W : World) (base : Nat) (v0 : Value) (d0 : DataW H) (p0 : List MemPlace) (hv0 : Value.okWide Try.prog W .any base 3 v0) (h0 : DataW.Trod enc Try.prog W 0 (fun _ => true) true 3 v0 d0 p0)
    (v1 : Value) (d1 : DataW H) (p1 : List MemPlace) (hv1 : Value.okWide Try.prog W .any base 3 v1) (h1 : DataW.Trod enc Try.prog W 0 (fun _ => true) true 3 v1 d1 p1)
    (v2 : Value) (d2 : DataW H) (p2 : List MemPlace) (hv2 : Value.okWide Try.prog W .any base 46 v2) (h2 : DataW.Trod enc Try.prog W 0 (fun _ => true) true 46 v2 d2 p2)
    (v3 : Value) (d3 : DataW H) (p3 : List MemPlace) (hv3 : Value.okWide Try.prog W .any base 47 v3) (h3 : DataW.Trod enc Try.prog W 0 (fun _ => true) true 47 v3 d3 p3)
    (v4 : Value) (d4 : DataW H) (p4 : List MemPlace) (hv4 : Value.okWide Try.prog W .any base 3 v4) (h4 : DataW.Trod enc Try.prog W 0 (fun _ => true) true 3 v4 d4 p4) :
    Calls Try.prog 11 #[v0, v1, v2, v3, v4] W fun e w' => e = .returned (.bool true) ∧ Below W.heap.size W w' := by
  obtain ⟨dev, rfl, rfl, rfl, _⟩ := open_int Try.underlying3 hv0 h0
  obtain ⟨bike, rfl, rfl, rfl, _⟩ := open_int Try.underlying3 hv1 h1
  obtain ⟨rp, rfl⟩ := open_report hv2 h2
  obtain ⟨ao, n, c, L, rfl, hs⟩ := open_syncs hv3 h3
  obtain ⟨ppm, rfl, rfl, rfl, _⟩ := open_int Try.underlying3 hv4 h4
  clear hv0 h0 hv1 h1 hv2 h2 hv3 h3 hv4 h4
  have AW := Lib.hid (fun w' => awake14 w')
  have hmc := hs.hm
  have hcc := hs.hc
  have HS := Lib.hid (SySl.of hs)
  clear hs
  have X0 := Lib.hid (heap_alloc_new W (.cells (rC rp) 46))
  have B0 : Hid (Below W.heap.size W (W.alloc (.cells (rC rp) 46))) := Lib.hid (by (repeat' (first | (with_reducible exact Below.refl _ _) | (with_reducible assumption) | (with_reducible refine Below.drew ?_) | (with_reducible refine below_drewN ?_ _) | (with_reducible refine Below.alloc ?_ ?_ _) | (with_reducible refine Below.setCell ?_ ?_ _) | go_size)))
  have R1 := Lib.hid (fun w' (hb : Below W.heap.size W w') => report30 dev bike rp ao n c L ppm w' hmc hcc (HS.out.kept hb))
  have R2 := Lib.hid (fun w' (hb : Below W.heap.size W w') => report31 dev bike rp ao n c L ppm w' hmc hcc (HS.out.kept hb))
  generalize repE dev bike rp n L ppm = q at *
  obtain ⟨⟨x1, x2, x3, x4, x5, x6, x7, x8, x9⟩, er⟩ := q
  obtain ⟨r1, r2, r3, r4, r5, r6⟩ := rp
  have EQ := fun w' => (eqEv ⟨x1, x2, x3, x4, x5, x6, x7, x8, x9⟩ ⟨x1, x2, x3, x4, x5, x6, x7, x8, x9⟩ w').1
  rw [decide_eq_true rfl] at EQ
  unfold evV eC rC at *
  dsimp only at X0 B0 R1 R2 EQ ⊢
  obtain ⟨wb, hwb⟩ : ∃ wb, wb = W.alloc (.cells #[.int .i64 r1, .int .i64 r2, .int .i64 r3, .int .i64 r4, .int .i64 r5, .int .i64 r6] 46) := ⟨_, rfl⟩
  rw [← hwb] at X0 B0
  have HW := Lib.hid hwb
  clear hwb
  by_cases hn : 40 < n
  · have tn : (40 : Int) < (n : Int) := by omega
    go_enter Try.func11, Try.ntmps11
    go_wp2_with fail
    rw [← HW.out]
    refine (AW.out _).mono ?_
    rintro e w1 ⟨rfl, b1⟩
    have B1 := Lib.hid (B0.out.trans (b1.mono B0.out.size))
    clear b1
    go_wp2_with fail
    go_returns
    exact ⟨rfl, B1.out⟩
  · have tn : (n : Int) ≤ 40 := by omega
    have te : (er == er) = true := by simp
    go_enter Try.func11, Try.ntmps11
    go_wp2_with fail
    rw [← HW.out]
    refine (R1.out _ B0.out).mono ?_
    rintro e w1 ⟨rfl, b1⟩
    have x1' := (b1.block _ (block_lt X0.out)).trans X0.out
    have z1 := szs (block_lt x1')
    have k0 := cell_at x1' 0
    have k1 := cell_at x1' 1
    have k2 := cell_at x1' 2
    have k3 := cell_at x1' 3
    have k4 := cell_at x1' 4
    have k5 := cell_at x1' 5
    clear R1 HW x1'
    go_wp2_with fail
    obtain ⟨w2, hw2⟩ : ∃ w2, w2 = w1.alloc (.cells #[.int .i64 x1, .int .i64 x2, .int .i64 x3, .int .i64 x4, .int .i64 x5, .int .i64 x6, .int .i64 x7, .int .i64 x8, .int .i64 x9] 26) := ⟨_, rfl⟩
    rw [← hw2]
    have b2 : Below w1.heap.size w1 w2 := by rw [hw2]; (repeat' (first | (with_reducible exact Below.refl _ _) | (with_reducible assumption) | (with_reducible refine Below.drew ?_) | (with_reducible refine below_drewN ?_ _) | (with_reducible refine Below.alloc ?_ ?_ _) | (with_reducible refine Below.setCell ?_ ?_ _) | go_size))
    have X2 : w2.heap[w1.heap.size]? = some (.cells #[.int .i64 x1, .int .i64 x2, .int .i64 x3, .int .i64 x4, .int .i64 x5, .int .i64 x6, .int .i64 x7, .int .i64 x8, .int .i64 x9] 26 (0, 0)) := by rw [hw2]; exact heap_alloc_new w1 _
    have b02 : Below wb.heap.size wb w2 := b1.trans (b2.mono b1.size)
    have B2 := Lib.hid (B0.out.trans (b02.mono B0.out.size))
    clear hw2 b1 b2 b02 k0 k1 k2 k3 k4 k5 z1
    refine (R2.out _ B2.out).mono ?_
    rintro e w3 ⟨rfl, b3⟩
    have X3 := (b3.block _ (block_lt X2)).trans X2
    have B3 := Lib.hid (B2.out.trans (b3.mono B2.out.size))
    have z3 := szs (block_lt X3)
    have d0 := cell_at X3 0
    have d1 := cell_at X3 1
    have d2 := cell_at X3 2
    have d3 := cell_at X3 3
    have d4 := cell_at X3 4
    have d5 := cell_at X3 5
    have d6 := cell_at X3 6
    have d7 := cell_at X3 7
    have d8 := cell_at X3 8
    have B4 : Hid (Below W.heap.size W (w3.alloc (.cells #[.int .i64 x1, .int .i64 x2, .int .i64 x3, .int .i64 x4, .int .i64 x5, .int .i64 x6, .int .i64 x7, .int .i64 x8, .int .i64 x9] 26))) := Lib.hid (by have := B3.out; (have hszz := (this).size; (repeat' (first | (with_reducible exact Below.refl _ _) | (with_reducible assumption) | (with_reducible refine Below.drew ?_) | (with_reducible refine below_drewN ?_ _) | (with_reducible refine Below.alloc ?_ ?_ _) | (with_reducible refine Below.setCell ?_ ?_ _) | go_size))))
    clear R2 X2 X3 b3 X0
    go_wp2_with fail
    refine (AW.out _).mono ?_
    rintro e w5 ⟨rfl, b5⟩
    have B5 := Lib.hid (B4.out.trans (b5.mono B4.out.size))
    clear b5
    go_wp2_with fail
    go_returns
    exact ⟨rfl, B5.out⟩
end Go.Proofs.Ytmhnkfcbbjbpfaa
