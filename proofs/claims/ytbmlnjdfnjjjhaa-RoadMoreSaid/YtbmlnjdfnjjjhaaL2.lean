/- The law RoadTables. -/
import Derived.Test.YtbmlnjdfnjjjhaaL0
namespace Go.Proofs.Ytbmlnjdfnjjjhaa
open Go.RowKit Go.ChangeShapes Go.WideShapes Go.Deep
set_option linter.unusedVariables false
set_option linter.unusedSimpArgs false
open Rd
theorem open_nums {H : Type} {enc : TypeId × Value → H} {W : World} {base : Nat} {v : Value} {d : DataW H} {p : List MemPlace} (hv : Value.okWide Try.prog W .any base 27 v) (h : DataW.Trod enc Try.prog W 0 (fun _ => true) true 27 v d p) :
    ∃ (a : Option Addr) (n c : Nat) (K : Nat → Int), v = .slice a n c ∧ n ≤ c ∧ c ≤ 9223372036854775807 ∧ Ints W a n K := by
  obtain ⟨a0, len, cap, rfl⟩ := okWide_slice Try.underlying27 hv
  obtain ⟨fuel, hf⟩ := h
  rcases open_ints Try.underlying27 Try.underlying3 (by kernel_rfl) hf with ⟨hcs, hx⟩ | ⟨a, len', cap', zs, hcs, hb, hl, hm, hz, hx, hc, _⟩
  · simp [Value.cells] at hcs
    obtain ⟨rfl, rfl, rfl⟩ := hcs
    exact ⟨none, 0, 0, fun _ => 0, rfl, by omega, by omega, Ints.nil _ _⟩
  · simp [Value.cells] at hcs
    obtain ⟨rfl, rfl, rfl⟩ := hcs
    have hzl : len ≤ zs.length := by rw [hz]; split <;> omega
    have key : ∀ i, i < len → a = ⟨a.block, a.off, none⟩ ∧ W.cell? ⟨a.block, a.off + i, none⟩ = some (.int .i64 (zs.getD i 0)) := fun i hi => by
      have h0 := hc 0 (by omega)
      have hi' := hc i (by omega)
      have e : a = ⟨a.block, a.off, none⟩ := by
        have : a.add 0 = a := by unfold Addr.add; rfl
        rw [this] at h0
        exact addr_of_cell h0
      refine ⟨e, ?_⟩
      rw [e, add_flat] at hi'
      exact hi'
    exact ⟨some a, len, cap, fun i => zs.getD i 0, rfl, hl, by unfold maxLen at hm; omega, fun i hi => ⟨a.block, a.off, by rw [← (key i hi).1], fun j hj => by
      obtain rfl : j = 0 := by omega
      rw [Nat.mul_one, Nat.add_zero]
      exact (key i hi).2⟩⟩
set_option maxHeartbeats 4000000 in
theorem run_roadTables {H : Type} {enc : TypeId × Value → H} (W : World) (base : Nat) (v0 : Value) (d0 : DataW H) (p0 : List MemPlace) (hv0 : Value.okWide Try.prog W .any base 24 v0) (h0 : DataW.Trod enc Try.prog W 0 (fun _ => true) true 24 v0 d0 p0)
    (v1 : Value) (d1 : DataW H) (p1 : List MemPlace) (hv1 : Value.okWide Try.prog W .any base 27 v1) (h1 : DataW.Trod enc Try.prog W 0 (fun _ => true) true 27 v1 d1 p1) :
    Calls Try.prog 4 #[v0, v1] W fun e w' => e = .returned (.bool true) ∧ Below W.heap.size W w' := by
  obtain ⟨N, ao, m, c, E, rfl, _, hn, _⟩ := open_road hv0 h0
  obtain ⟨an, q, cn, K, rfl, hqc, hcn, hK⟩ := open_nums hv1 h1
  clear hv0 h0 hv1 h1
  obtain ⟨w0, hw0⟩ : ∃ w0, w0 = W.alloc (.cells #[.int .i64 N, .slice ao m c] 24) := ⟨_, rfl⟩
  have b0 : Below W.heap.size W w0 := by rw [hw0]; exact (Below.refl _ _).alloc (Nat.le_refl _) _
  have x0 : w0.heap[W.heap.size]? = some (.cells #[.int .i64 N, .slice ao m c] 24) := by rw [hw0]; exact heap_alloc_new W _
  have r0 : w0.cell? ⟨W.heap.size, 0, none⟩ = some (.int .i64 N) := cell_at x0 0
  have r1 : w0.cell? ⟨W.heap.size, 1, none⟩ = some (.slice ao m c) := cell_at x0 1
  have B0 := Lib.hid b0
  have HW := Lib.hid hw0
  have n0 := Lib.hid (hn.below b0)
  have k0 := Lib.hid (hK.below b0)
  have FW := few9 N ao m c w0 hn.hm hn.hc
  obtain ⟨f, hf⟩ : ∃ f, f = decide (m ≤ 60 ∨ (512 < m ∧ m ≤ 600)) := ⟨_, rfl⟩
  rw [← hf] at FW
  have HFW := Lib.hid FW
  clear hn b0 x0 hw0 FW hf hK
  go_enter Try.func4, Try.ntmps4
  go_wp2_with fail
  rw [← HW.out]
  clear HW
  refine HFW.out.mono ?_
  rintro e w1 ⟨rfl, b1⟩
  have d0 := cell_kept b1 r0
  have d1 := cell_kept b1 r1
  have zd := szs (cell_lt d0)
  dsimp only at zd
  have B1 := Lib.hid (B0.out.trans (b1.mono B0.out.size))
  have n1 := Lib.hid (n0.out.below b1)
  have k1 := Lib.hid (k0.out.below b1)
  clear b1 r0 r1
  cases f
  · go_wp2_with fail
    refine (awake10 _).mono ?_
    rintro e w2 ⟨rfl, b2⟩
    have B2 := Lib.hid (B1.out.trans (b2.mono B1.out.size))
    clear b2
    go_wp2_with fail
    go_returns
    exact ⟨rfl, B2.out⟩
  · by_cases hq : 70 < q
    · have tq : (70 : Int) < (q : Int) := by omega
      go_wp2_with fail
      refine (awake10 _).mono ?_
      rintro e w2 ⟨rfl, b2⟩
      have B2 := Lib.hid (B1.out.trans (b2.mono B1.out.size))
      clear b2
      go_wp2_with fail
      go_returns
      exact ⟨rfl, B2.out⟩
    have tq : (q : Int) ≤ 70 := by omega
    have T1 := Lib.hid (table16 N ao m c E an q cn K w1 n1.out k1.out hqc hcn)
    go_wp2_with fail
    refine T1.out.mono ?_
    rintro e w2 hT
    obtain ⟨u1, rfl, i1, b2⟩ := hT.val
    have e0 := cell_kept b2 d0
    have e1 := cell_kept b2 d1
    have ze := szs (cell_lt e0)
    dsimp only at ze
    have B2 := Lib.hid (B1.out.trans (b2.mono B1.out.size))
    have n2 := Lib.hid (n1.out.below b2)
    have k2 := Lib.hid (k1.out.below b2)
    have I1 := Lib.hid i1
    have T2 := Lib.hid (table17 N ao m c E an q cn K w2 n2.out k2.out hqc hcn)
    clear b2 d0 d1 zd i1 hT
    go_wp2_with fail
    refine T2.out.mono ?_
    rintro e w3 hT
    obtain ⟨u2, rfl, i2, b3⟩ := hT.val
    have B3 := Lib.hid (B2.out.trans (b3.mono B2.out.size))
    have SM := Lib.hid (sameTable18 w3 _ _ _ _ _ _ _ (I1.out.below b3) i2)
    generalize tabE N m E q K = te at *
    clear b3 e0 e1 ze i2 hT
    go_wp2_with fail
    refine SM.out.mono ?_
    rintro e w4 ⟨rfl, b4⟩
    have B4 := Lib.hid (B3.out.trans (b4.mono B3.out.size))
    clear b4
    go_wp2_with fail
    refine (awake10 _).mono ?_
    rintro e w5 ⟨rfl, b5⟩
    have B5 := Lib.hid (B4.out.trans (b5.mono B4.out.size))
    clear b5
    go_wp2_with fail
    go_returns
    exact ⟨rfl, B5.out⟩
end Go.Proofs.Ytbmlnjdfnjjjhaa
