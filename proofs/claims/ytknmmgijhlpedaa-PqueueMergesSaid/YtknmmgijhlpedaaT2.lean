/- The law PqueuePeeks walked. -/
import Derived.Test.YtknmmgijhlpedaaT1
namespace Go.Proofs.Ytknmmgijhlpedaa
open Go.RowKit Go.ChangeShapes Go.WideShapes Go.Deep
set_option linter.unusedVariables false
set_option linter.unusedSimpArgs false
open QI
set_option maxHeartbeats 2000000 in
theorem run_pqueuePeeks {H : Type} {enc : TypeId × Value → H} (W : World) (base : Nat) (v0 : Value) (d0 : DataW H) (p0 : List MemPlace) (hv0 : Value.okWide Try.prog W .any base 22 v0) (h0 : DataW.Trod enc Try.prog W 0 (fun _ => true) true 22 v0 d0 p0) :
    Calls Try.prog 6 #[v0] W fun e w' => e = .returned (.bool true) ∧ Below W.heap.size W w' := by
  obtain ⟨a, n, c, K, rfl, hn, hc, hK, hab⟩ := open_keys hv0 h0
  clear hv0 h0
  by_cases hn2 : 100 < n
  · have t1 : (100 : Int) < (n : Int) := by omega
    clear hK hab
    go_enter Try.func6, Try.ntmps6
    go_wp2_with (go_at_call 9; refine (awake9 _).mono ?_; rintro e w1 ⟨rfl, hb⟩)
    go_returns
    exact ⟨rfl, hb⟩
  have t1 : (n : Int) ≤ 100 := by omega
  have N1 := new true W W.heap.size (Nat.le_refl _)
  simp only [F, fn, if_true, if_false, Bool.false_eq_true] at N1
  have HK := Lib.hid hK
  have HA := Lib.hid hab
  have HN1 := Lib.hid N1
  clear hK hab N1
  go_enter Try.func6, Try.ntmps6
  go_wp2_with fail
  refine HN1.out.mono ?_
  rintro e w1 ⟨rfl, q1, b1⟩
  have k1 : Keys w1 a n K := SlE.below (fun _ => rfl) HK.out b1
  have fl := fill12 true w1 W.heap.size W.heap.size none [] 0 a n c K 0 q1 k1 (fun h0 x hx h => by have := HA.out h0 x hx; rcases h with h | h; omega; cases h) hn hc (by omega) (by omega) (by omega) (by omega) b1.size
  have FL := Lib.hid fl
  have B1 := Lib.hid b1
  have hq1 := (q1.within _ (.inl rfl)).2
  clear q1 b1 k1 fl
  go_wp2_with fail
  refine FL.out.mono ?_
  rintro e w2 ⟨v2, ow, rfl, _, q2, o2, f2, _⟩
  rw [List.nil_append] at q2
  have B2 := Lib.hid (B1.out.trans (o2.toBelow B1.out.size (fun k hk h => by rcases h with h | h; omega; cases h)))
  have Q2 := Lib.hid q2
  have FW := Lib.hid q2.within
  clear q2 o2 f2
  go_wp2_with fail
  go_loopw [4] (fun i wr => ∃ (k : Nat) (l : List T), i = .int .i64 k ∧ k + l.length = n ∧ Hid (Q wr W.heap.size W.heap.size ow true l (0 + n) ∧ Below W.heap.size W wr)) (fun i _ => n - (intOf i).toNat)
  case atStart => exact ⟨0, its K 0 n, rfl, by rw [its_len]; omega, Q2.out, B2.out⟩
  case round =>
    obtain ⟨k, l, rfl, hkl, hrel⟩ := hrel
    clear Q2 B2
    have hqr := (hrel.out.1.within _ (.inl rfl)).2
    by_cases hl : l = []
    · subst hl
      obtain rfl : k = n := by simpa using hkl
      go_wp2_with fail
      refine (peek_none true wr _ _ ow _ hrel.out.1).mono ?_
      rintro e w3 ⟨rfl, b3⟩
      have x4 := heap_alloc_new w3 (.cells #[.int .i64 0, .int .i64 0] 27)
      have b4 : Below wr.heap.size wr (w3.alloc (.cells #[.int .i64 0, .int .i64 0] 27)) := b3.alloc b3.size _
      have PN := pop_none true _ W.heap.size W.heap.size ow _ (hrel.out.1.below b4)
      have HPN := Lib.hid PN
      have X4 := Lib.hid x4
      have B4 := Lib.hid (hrel.out.2.trans (b4.mono hrel.out.2.size))
      have QQ := Lib.hid (hrel.out.1.below b4)
      clear b3 x4 b4 PN
      go_wp2_with fail
      refine HPN.out.mono ?_
      rintro e w5 ⟨rfl, b5⟩
      have x5 := (b5.block _ (block_lt X4.out)).trans X4.out
      have s5 : w3.heap.size < w5.heap.size := block_lt x5
      have c0 : w5.cell? ⟨w3.heap.size, 0, none⟩ = some (.int .i64 0) := cell_at x5 0
      have c1 : w5.cell? ⟨w3.heap.size, 1, none⟩ = some (.int .i64 0) := cell_at x5 1
      have L5 := len true _ W.heap.size W.heap.size ow [] _ ((QQ.out.below b5).below ((Below.refl w5.heap.size w5).alloc (Nat.le_refl _) (.cells #[.int .i64 0, .int .i64 0] 27)))
      have HL5 := Lib.hid L5
      have B6 := Lib.hid ((B4.out.trans (b5.mono B4.out.size)).alloc (by have := B4.out.size; have := b5.size; omega) (.cells #[.int .i64 0, .int .i64 0] 27))
      clear x5 b5 L5
      go_wp2_with fail
      refine HL5.out.mono ?_
      rintro e w6 ⟨rfl, rfl⟩
      go_wp2_with fail
      refine (awake9 _).mono ?_
      rintro e w7 ⟨rfl, b7⟩
      have B7 := Lib.hid (B6.out.trans (b7.mono B6.out.size))
      clear b7
      go_wp2_with fail
      go_returns
      exact ⟨rfl, B7.out⟩
    · have hpos : 0 < l.length := List.length_pos_iff.2 hl
      have t2 : (k : Int) < (n : Int) := by omega
      have P1 := fun w3 (h3 : Below wr.heap.size wr w3) => peek_some true w3 _ _ ow l _ (hrel.out.1.below h3) hl
      have P3 := fun w3 (h3 : Below wr.heap.size wr w3) => pop_some true w3 _ _ ow l _ (hrel.out.1.below h3) hl (by omega)
      have L3 := fun w3 (h3 : Below wr.heap.size wr w3) => len true w3 _ _ ow l _ (hrel.out.1.below h3)
      have hel : (l.eraseIdx (minIx (lt true) l)).length = l.length - 1 := List.length_eraseIdx_of_lt (minIx_lt hl)
      have hll : (l.length : Int) = (n : Int) - (k : Int) := by omega
      rw [hll] at L3
      generalize l.eraseIdx (minIx (lt true) l) = l2 at *
      generalize l.getD (minIx (lt true) l) default = x at *
      obtain ⟨xk, xt⟩ := x
      unfold vv at P1 P3
      dsimp only at P1 P3
      have HP1 := Lib.hid P1
      have HP3 := Lib.hid P3
      have HL3 := Lib.hid L3
      have HLL := Lib.hid hll
      clear P1 P3 L3 hl hll
      go_wp2_with fail
      refine (HP1.out _ (Below.refl _ _)).mono ?_
      rintro e w3 ⟨rfl, b3⟩
      have b4 : Below wr.heap.size wr (w3.alloc (.cells #[.int .i64 xk, .int .i64 xt] 27)) := b3.alloc b3.size _
      have X3 := Lib.hid (heap_alloc_new w3 (.cells #[.int .i64 xk, .int .i64 xt] 27))
      have B4 := Lib.hid b4
      have hs3 := b3.size
      clear b3 b4
      go_wp2_with fail
      refine (HP1.out _ B4.out).mono ?_
      rintro e w5 ⟨rfl, b5⟩
      have b6 : Below wr.heap.size wr (w5.alloc (.cells #[.int .i64 xk, .int .i64 xt] 27)) := (B4.out.trans (b5.mono B4.out.size)).alloc (by have := B4.out.size; have := b5.size; omega) _
      have x5 := (b5.block _ (block_lt X3.out)).trans X3.out
      have s5 : w3.heap.size < w5.heap.size := block_lt x5
      have c0 : w5.cell? ⟨w3.heap.size, 0, none⟩ = some (.int .i64 xk) := cell_at x5 0
      have c1 : w5.cell? ⟨w3.heap.size, 1, none⟩ = some (.int .i64 xt) := cell_at x5 1
      have B6 := Lib.hid b6
      have X5 := Lib.hid ((Below.heap_alloc w5 (.cells #[.int .i64 xk, .int .i64 xt] 27) _ s5).trans x5)
      clear b5 b6 x5
      go_wp2_with fail
      refine (HL3.out _ B6.out).mono ?_
      rintro e w' ⟨rfl, rfl⟩
      go_wp2_with fail
      refine (HP3.out _ B6.out).mono ?_
      rintro e w7 ⟨rfl, q7, o7⟩
      have ne : ¬ FP W.heap.size ow w3.heap.size := fun h => by have := (hrel.out.1.within _ h).2; omega
      have x7 := (o7.block _ (block_lt X5.out) ne).trans X5.out
      have e0 : w7.cell? ⟨w3.heap.size, 0, none⟩ = some (.int .i64 xk) := cell_at x7 0
      have e1 : w7.cell? ⟨w3.heap.size, 1, none⟩ = some (.int .i64 xt) := cell_at x7 1
      have s7 : w3.heap.size < w7.heap.size := block_lt x7
      have b8 : Below W.heap.size W w7 := (hrel.out.2.trans (B6.out.mono hrel.out.2.size)).trans (o7.toBelow (by have := hrel.out.2.size; have := B6.out.size; omega) (fun k hk h => by have := (FW.out k h).1; omega))
      have B8 := Lib.hid (Below.alloc b8 b8.size (.cells #[.int .i64 xk, .int .i64 xt] 27))
      have Q8 := Lib.hid (q7.below ((Below.refl w7.heap.size w7).alloc (Nat.le_refl _) (.cells #[.int .i64 xk, .int .i64 xt] 27)))
      clear q7 o7 x7 b8
      go_wp2_with fail
      go_roundw
      case rel => exact ⟨k + 1, l2, by go_num, by omega, Q8.out, B8.out⟩
      case measure => simp [intOf]; omega
end Go.Proofs.Ytknmmgijhlpedaa
