/- The law PqueueNil walked. -/
import Derived.Test.YtknmmgijhlpedaaS
namespace Go.Proofs.Ytknmmgijhlpedaa
open Go.RowKit Go.ChangeShapes Go.WideShapes Go.Deep
set_option linter.unusedVariables false
set_option linter.unusedSimpArgs false
open QI
theorem open_keys {H : Type} {enc : TypeId × Value → H} {W : World} {base : Nat} {v : Value} {d : DataW H} {p : List MemPlace} (hv : Value.okWide Try.prog W .any base 22 v) (h : DataW.Trod enc Try.prog W 0 (fun _ => true) true 22 v d p) :
    ∃ (a : Option Addr) (n c : Nat) (K : Nat → Int), v = .slice a n c ∧ n ≤ c ∧ c ≤ 9223372036854775807 ∧ Keys W a n K ∧ (0 < n → ∀ x, a = some x → x.block < W.heap.size) := by
  obtain ⟨a0, len, cap, rfl⟩ := okWide_slice Try.underlying22 hv
  obtain ⟨fuel, hf⟩ := h
  rcases open_ints Try.underlying22 Try.underlying3 (by kernel_rfl) hf with ⟨hcs, hx⟩ | ⟨a, len', cap', zs, hcs, hb, hl, hm, hz, hx, hc, _⟩
  · simp [Value.cells] at hcs
    obtain ⟨rfl, rfl, rfl⟩ := hcs
    exact ⟨none, 0, 0, fun _ => 0, rfl, by omega, by omega, fun i hi => absurd hi (by omega), fun h => absurd h (by omega)⟩
  · simp [Value.cells] at hcs
    obtain ⟨rfl, rfl, rfl⟩ := hcs
    have hzl : len ≤ zs.length := by rw [hz]; split <;> omega
    have key : ∀ i, i < len → a = ⟨a.block, a.off, none⟩ ∧ W.cell? ⟨a.block, a.off + i, none⟩ = some (.int .i64 (zs.getD i 0)) := fun i hi => by
      have h0 := hc 0 (by omega)
      have hi' := hc i (by omega)
      have e : a = ⟨a.block, a.off, none⟩ := by
        have : a.add 0 = a := by unfold Addr.add; rfl
        rw [this] at h0
        exact addr_of_cell h0
      refine ⟨e, ?_⟩
      rw [e, add_flat] at hi'
      exact hi'
    refine ⟨some a, len, cap, fun i => zs.getD i 0, rfl, hl, by unfold maxLen at hm; omega, fun i hi => ⟨a.block, a.off, by rw [← (key i hi).1], fun j hj => ?_⟩, fun h0 x hx => ?_⟩
    · obtain rfl : j = 0 := by omega
      rw [Nat.mul_one, Nat.add_zero]
      exact (key i hi).2
    · cases hx
      have := cell_lt (key 0 h0).2
      exact this
theorem new29 (w : World) : Calls Try.prog 29 #[.nilFunc] w fun e w' => e = .returned (.pointer none) ∧ w = w' := by
  have hnf : ∀ w, Sem.run Try.prog (binOp .eql 65 .nilFunc .nilFunc) w = .ok (.bool true) w := fun w => by kernel_rfl
  go_enter Try.func29, Try.ntmps29
  go_wp2
  go_returns
  exact ⟨rfl, rfl⟩
set_option maxHeartbeats 2000000 in
theorem run_pqueueNil {H : Type} {enc : TypeId × Value → H} (W : World) (base : Nat) (v0 : Value) (d0 : DataW H) (p0 : List MemPlace) (hv0 : Value.okWide Try.prog W .any base 22 v0) (h0 : DataW.Trod enc Try.prog W 0 (fun _ => true) true 22 v0 d0 p0) :
    Calls Try.prog 8 #[v0] W fun e w' => e = .returned (.bool true) ∧ Below W.heap.size W w' := by
  obtain ⟨a, n, c, K, rfl, hn, hc, hK, hab⟩ := open_keys hv0 h0
  clear hv0 h0
  by_cases hn2 : 100 < n
  · have t1 : (100 : Int) < (n : Int) := by omega
    clear hK hab
    go_enter Try.func8, Try.ntmps8
    go_wp2_with (go_at_call 9; refine (awake9 _).mono ?_; rintro e w1 ⟨rfl, hb⟩)
    go_returns
    exact ⟨rfl, hb⟩
  have t1 : (n : Int) ≤ 100 := by omega
  have N1 := new false W W.heap.size (Nat.le_refl _)
  simp only [F, fn, if_true, if_false, Bool.false_eq_true] at N1
  have HK := Lib.hid hK
  have HA := Lib.hid hab
  clear hK hab N1
  go_enter Try.func8, Try.ntmps8
  go_wp2_with fail
  refine (new29 _).mono ?_
  rintro e w' ⟨rfl, rfl⟩
  go_wp2_with fail
  refine (push_nil W ⟨1, 1⟩).mono ?_
  rintro e w1 ⟨rfl, b1⟩
  go_wp2_with fail
  refine (pop_nil w1).mono ?_
  rintro e w2 ⟨rfl, b2⟩
  have B3 := Lib.hid ((b1.trans (b2.mono b1.size)).alloc (by have := b1.size; have := b2.size; omega) (.cells #[.int .i64 0, .int .i64 0] 27))
  have x2 := Lib.hid (heap_alloc_new w2 (.cells #[.int .i64 0, .int .i64 0] 27))
  clear b1 b2
  go_wp2_with fail
  refine (peek_nil _).mono ?_
  rintro e w4 ⟨rfl, b4⟩
  have x4 := (b4.block _ (by simp)).trans x2.out
  have s4 : w2.heap.size < w4.heap.size := block_lt x4
  have c0 : w4.cell? ⟨w2.heap.size, 0, none⟩ = some (.int .i64 0) := cell_at x4 0
  have c1 : w4.cell? ⟨w2.heap.size, 1, none⟩ = some (.int .i64 0) := cell_at x4 1
  have B5 := Lib.hid ((B3.out.trans (b4.mono B3.out.size)).alloc (by have := B3.out.size; have := b4.size; omega) (.cells #[.int .i64 0, .int .i64 0] 27))
  clear b4 x4 x2
  go_wp2_with fail
  refine (len_nil _).mono ?_
  rintro e w' ⟨rfl, rfl⟩
  go_wp2_with fail
  have N1 := new false (w4.alloc (.cells #[.int .i64 0, .int .i64 0] 27)) W.heap.size B5.out.size
  simp only [F, fn, if_true, if_false, Bool.false_eq_true] at N1
  refine N1.mono ?_
  rintro e w6 ⟨rfl, q6, b6⟩
  have sz5 : (w4.alloc (.cells #[.int .i64 0, .int .i64 0] 27)).heap.size = w4.heap.size + 1 := by simp
  rw [sz5] at q6
  have B6 := Lib.hid (B5.out.trans (b6.mono B5.out.size))
  have Q6 := Lib.hid q6
  have hqW : W.heap.size ≤ w4.heap.size := by have := B5.out.size; simp at this; have := B3.out.size; simp at this; omega
  clear N1 b6 q6 sz5
  go_wp2_with fail
  have k6 : Keys w6 a n K := SlE.below (fun _ => rfl) HK.out B6.out
  refine (fill12 false w6 W.heap.size (w4.heap.size + 1) none [] 0 a n c K 0 Q6.out k6 (fun h0 x hx h => by have := HA.out h0 x hx; rcases h with h | h; omega; cases h) hn hc (by omega) (by omega) (by omega) (by omega) B6.out.size).mono ?_
  rintro e w7 ⟨v7, ow7, rfl, r7, q7, o7, f7, d7⟩
  rw [List.nil_append] at q7
  have B7 := Lib.hid (B6.out.trans (o7.toBelow B6.out.size (fun k hk h => by rcases h with h | h; omega; cases h)))
  have l1 := len false w7 W.heap.size _ ow7 _ _ q7
  rw [its_len] at l1
  have dr := drain14 false w7 W.heap.size _ ow7 _ _ (n + 1) q7 (by omega) (by rw [its_len]; omega) (by omega)
  rw [show ((n + 1 : Nat) : Int) = (n : Int) + 1 by omega] at dr
  have HF := Lib.hid q7.within
  have f7' : Hid (∀ g, ow7 = some g → w6.heap.size ≤ g) := fun g hg => (f7 g hg).resolve_left (by simp)
  have L1 := Lib.hid l1
  have DR := Lib.hid dr
  have R7 := Lib.hid r7
  have hq6 := (Q6.out.within _ (.inl rfl)).2
  have D7 : Hid (∀ g, v7.ownBlock = some g → ¬ FP (w4.heap.size + 1) ow7 g) := fun g hg h => by rcases h with h | h; (have := (R7.out.own g hg).1; omega); exact d7 g hg h.symm
  clear k6 r7 q7 o7 f7 l1 dr d7
  go_wp2_with fail
  refine (merge_none w7 _ _ (.inr (.inl rfl))).mono ?_
  rintro e w' ⟨rfl, rfl⟩
  go_wp2_with fail
  refine (merge_none w7 _ _ (.inl rfl)).mono ?_
  rintro e w' ⟨rfl, rfl⟩
  go_wp2_with fail
  refine (merge_none w7 _ _ (.inr (.inr rfl))).mono ?_
  rintro e w' ⟨rfl, rfl⟩
  go_wp2_with fail
  refine (len_nil _).mono ?_
  rintro e w' ⟨rfl, rfl⟩
  go_wp2_with fail
  refine L1.out.mono ?_
  rintro e w' ⟨rfl, rfl⟩
  go_wp2_with fail
  refine DR.out.mono ?_
  rintro e w8 ⟨v8, rfl, r8, _, o8⟩
  have B8 := Lib.hid (B7.out.trans (o8.toBelow B7.out.size (fun k hk h => by have := (HF.out k h).1; omega)))
  have r7 := R7.out.off o8 D7.out
  have al := all22 w8 w6.heap.size v7 (its K 0 n) false r7 (by rw [its_len]; omega)
  have AL := Lib.hid al
  have R8 := Lib.hid r8
  clear r8 o8 r7 al
  go_wp2_with fail
  refine AL.out.mono ?_
  rintro e w9 ⟨v9, rfl, r9, b9⟩
  have sm := same21 w9 _ _ v8 v9 _ (R8.out.below b9) r9
  have SM := Lib.hid sm
  have B9 := Lib.hid (B8.out.trans (b9.mono B8.out.size))
  clear r9 b9 sm
  go_wp2_with fail
  refine SM.out.mono ?_
  rintro e w10 ⟨rfl, b10⟩
  have B10 := Lib.hid (B9.out.trans (b10.mono B9.out.size))
  clear b10
  go_wp2_with fail
  refine (awake9 _).mono ?_
  rintro e w11 ⟨rfl, b11⟩
  have B11 := Lib.hid (B10.out.trans (b11.mono B10.out.size))
  clear b11
  go_wp2_with fail
  go_returns
  exact ⟨rfl, B11.out⟩
end Go.Proofs.Ytknmmgijhlpedaa
