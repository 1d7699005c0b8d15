/- The second example of the chapter, walked. -/
import Derived.Test.YtknmmgijhlpedaaR7
namespace Go.Proofs.Ytknmmgijhlpedaa
open Go.RowKit
namespace QI
set_option linter.unusedVariables false
set_option linter.unusedSimpArgs false
theorem keys_lit {w : World} {b : Nat} {cs : Array Value} {e : TypeId} {fz : Nat × Nat} (h : w.heap[b]? = some (.cells cs e fz)) (n : Nat) (K : Nat → Int) (hk : ∀ i, i < n → cs[i]? = some (.int .i64 (K i))) : Keys w (some ⟨b, 0, none⟩) n K :=
  fun i hi => ⟨b, 0, rfl, fun j hj => by
    obtain rfl : j = 0 := by omega
    simp only [Nat.zero_add, Nat.mul_one, Nat.add_zero]
    rw [cell_at h, hk i hi]; rfl⟩
theorem il_lit {w : World} {base b : Nat} {cs : Array Value} (h : w.heap[b]? = some (.cells cs 27 (0, 0))) (l : List T) (hb : base ≤ b) (hn : l.length ≤ maxLen) (hc : cs.toList = flat (lf l) l.length) : IL w base (.slice (some ⟨b, 0, none⟩) l.length l.length) l := by
  refine ⟨flat_len (lf_len l) _, .inr ⟨b, l.length, cs, rfl, hb, h, Nat.le_refl _, hn, ?_, ?_⟩⟩
  · have := congrArg List.length hc
    rw [flat_len (lf_len l)] at this
    simpa using this
  · rw [hc, List.take_of_length_le (by rw [flat_len (lf_len l)]; omega)]
set_option maxHeartbeats 2000000 in
theorem awake9 (w : World) : Calls Try.prog 9 #[] w fun e w' => e = .returned (.bool true) ∧ Below w.heap.size w w' := by
  have N1 := new false w w.heap.size (Nat.le_refl _)
  have N2 := fun w1 (h : w.heap.size ≤ w1.heap.size) => new true w1 w.heap.size h
  simp only [F, fn, if_true, if_false, Bool.false_eq_true] at N1 N2
  have H1 := Lib.hid N1
  have H2 := Lib.hid N2
  clear N1 N2
  go_enter Try.func9, Try.ntmps9
  go_wp2_with fail
  refine H1.out.mono ?_
  rintro e w1 ⟨rfl, q1, b1⟩
  go_wp2_with fail
  refine (H2.out _ b1.size).mono ?_
  rintro e w2 ⟨rfl, p2, b2⟩
  have hq : w.heap.size < w1.heap.size := (q1.within _ (.inl rfl)).2
  have q2 := q1.below b2
  have B2 : Below w.heap.size w w2 := b1.trans (b2.mono b1.size)
  have hp : w1.heap.size < w2.heap.size := (p2.within _ (.inl rfl)).2
  have Q2 := Lib.hid q2
  have P2 := Lib.hid p2
  have HB2 := Lib.hid B2
  clear q1 b1 p2 b2 q2 B2
  go_wp2_with fail
  have q3 := Q2.out.below ((Below.refl w2.heap.size w2).alloc (Nat.le_refl _) (.cells #[.int .i64 1, .int .i64 3] 3))
  have p3 := P2.out.below ((Below.refl w2.heap.size w2).alloc (Nat.le_refl _) (.cells #[.int .i64 1, .int .i64 3] 3))
  have k3 : Keys (w2.alloc (.cells #[.int .i64 1, .int .i64 3] 3)) (some ⟨w2.heap.size, 0, none⟩) 2 (fun i => [1, 3].getD i 0) := keys_lit (heap_alloc_new w2 _) _ _ (fun i hi => by rcases (by omega : i = 0 ∨ i = 1) with rfl | rfl <;> rfl)
  have b3 : Below w.heap.size w (w2.alloc (.cells #[.int .i64 1, .int .i64 3] 3)) := HB2.out.alloc (by omega) _
  refine (fill12 false _ w.heap.size w.heap.size none [] 0 _ 2 2 _ 0 q3 k3 (fun _ a ha hx => by cases ha; rcases hx with h | h; dsimp only at h; omega; cases h) (by omega) (by omega) (by omega) (by omega) (by omega) (by omega) b3.size).mono ?_
  rintro e w4 ⟨v4, ow4, rfl, _, q4, o4, f4, _⟩
  have sz3 : (w2.alloc (.cells #[.int .i64 1, .int .i64 3] 3)).heap.size = w2.heap.size + 1 := by simp
  rw [sz3] at f4
  have p4 := p3.off o4 (fun b hb hx => by rcases hb with rfl | hb; (rcases hx with h | h; omega; cases h); cases hb)
  have b4 : Below w.heap.size w w4 := b3.trans (o4.toBelow b3.size (fun k hk hx => by rcases hx with h | h; omega; cases h))
  have sz4 : w2.heap.size + 1 ≤ w4.heap.size := by have := o4.size; omega
  have Q4 := Lib.hid (show Q w4 w.heap.size w.heap.size ow4 false [⟨1, 0⟩, ⟨3, 1⟩] 2 from q4)
  have P4 := Lib.hid p4
  have B4 := Lib.hid b4
  have F4 := Lib.hid f4
  clear q3 p3 k3 b3 q4 o4 f4 p4 b4 sz3
  go_wp2_with fail
  have q5 := Q4.out.below ((Below.refl w4.heap.size w4).alloc (Nat.le_refl _) (.cells #[.int .i64 2, .int .i64 3, .int .i64 1] 3))
  have p5 := P4.out.below ((Below.refl w4.heap.size w4).alloc (Nat.le_refl _) (.cells #[.int .i64 2, .int .i64 3, .int .i64 1] 3))
  have k5 : Keys (w4.alloc (.cells #[.int .i64 2, .int .i64 3, .int .i64 1] 3)) (some ⟨w4.heap.size, 0, none⟩) 3 (fun i => [2, 3, 1].getD i 0) := keys_lit (heap_alloc_new w4 _) _ _ (fun i hi => by rcases (by omega : i = 0 ∨ i = 1 ∨ i = 2) with rfl | rfl | rfl <;> rfl)
  have b5 : Below w.heap.size w (w4.alloc (.cells #[.int .i64 2, .int .i64 3, .int .i64 1] 3)) := B4.out.alloc (by omega) _
  refine (fill12 true _ w.heap.size w1.heap.size none [] 0 _ 3 3 _ 10 p5 k5 (fun _ a ha hx => by cases ha; rcases hx with h | h; dsimp only at h; omega; cases h) (by omega) (by omega) (by omega) (by omega) (by omega) (by omega) b5.size).mono ?_
  rintro e w6 ⟨v6, ow6, rfl, _, p6, o6, f6, _⟩
  have sz5 : (w4.alloc (.cells #[.int .i64 2, .int .i64 3, .int .i64 1] 3)).heap.size = w4.heap.size + 1 := by simp
  rw [sz5] at f6
  have hq4 := Q4.out.within
  have q6 := q5.off o6 (fun b hb hx => by
    rcases hx with rfl | hx
    · rcases hb with h | h
      · omega
      · rcases F4.out _ h.symm with h | h
        · cases h
        · omega
    · cases hx)
  have dis6 : ∀ b, FP w.heap.size ow4 b → ¬ FP w1.heap.size ow6 b := fun b hb hx => by
    have h1 := (hq4 b hb).2
    rcases hx with rfl | hx
    · rcases hb with h | h
      · omega
      · rcases F4.out _ h.symm with h | h
        · cases h
        · omega
    · rcases f6 b hx.symm with h | h
      · cases h
      · omega
  have b6 : Below w.heap.size w w6 := b5.trans (o6.toBelow b5.size (fun k hk hx => by rcases hx with h | h; omega; cases h))
  have P6 := Lib.hid (show Q w6 w.heap.size w1.heap.size ow6 true [⟨2, 10⟩, ⟨3, 11⟩, ⟨1, 12⟩] 3 from p6)
  have Q6 := Lib.hid q6
  have B6 := Lib.hid b6
  have D6 := Lib.hid dis6
  clear q5 p5 k5 b5 p6 o6 f6 hq4 q6 b6 dis6 sz5
  go_wp2_with fail
  have PK := peek_some true w6 w.heap.size w1.heap.size ow6 _ 3 P6.out (by simp)
  refine PK.mono ?_
  rintro e w7 ⟨rfl, b7⟩
  have ev : vv (([⟨2, 10⟩, ⟨3, 11⟩, ⟨1, 12⟩] : List T).getD (minIx (lt true) [⟨2, 10⟩, ⟨3, 11⟩, ⟨1, 12⟩]) default) = .agg #[.int .i64 3, .int .i64 11] := rfl
  rw [ev]
  have q7 := (Q6.out.below b7).below ((Below.refl w7.heap.size w7).alloc (Nat.le_refl _) (.cells #[.int .i64 3, .int .i64 11] 27))
  have p7 := (P6.out.below b7).below ((Below.refl w7.heap.size w7).alloc (Nat.le_refl _) (.cells #[.int .i64 3, .int .i64 11] 27))
  have b8 : Below w.heap.size w (w7.alloc (.cells #[.int .i64 3, .int .i64 11] 27)) := (B6.out.trans (b7.mono B6.out.size)).alloc (by have := B6.out.size; have := b7.size; omega) _
  have x8 := heap_alloc_new w7 (.cells #[.int .i64 3, .int .i64 11] 27)
  have M := merge23 false true _ w.heap.size w.heap.size ow4 _ 2 w1.heap.size ow6 _ 3 q7 p7 (by omega) D6.out (by simp) (by omega) b8.size
  have hqw := (Q6.out.below b7).within
  have hpw := (P6.out.below b7).within
  have HM := Lib.hid M
  have B8 := Lib.hid b8
  have X8 := Lib.hid x8
  have HQW := Lib.hid hqw
  have HPW := Lib.hid hpw
  clear PK ev q7 p7 b8 x8 M hqw hpw b7
  go_wp2_with fail
  refine HM.out.mono ?_
  rintro e w9 ⟨rfl, ow9, q9, p9, o9, f9, d9⟩
  have x9 := (o9.block _ (by simp) (fun hx => by rcases hx with h | h; (have := (HQW.out _ h).2; omega); (have := (HPW.out _ h).2; omega))).trans X8.out
  have c0 : w9.cell? ⟨w7.heap.size, 0, none⟩ = some (.int .i64 3) := cell_at x9 0
  have c1 : w9.cell? ⟨w7.heap.size, 1, none⟩ = some (.int .i64 11) := cell_at x9 1
  have b9 : Below w.heap.size w w9 := B8.out.trans (o9.toBelow B8.out.size (fun k hk hx => by rcases hx with h | h; (have := (HQW.out _ h).1; omega); (have := (HPW.out _ h).1; omega)))
  have e9 : ([⟨1, 0⟩, ⟨3, 1⟩] ++ leave (lt true) [⟨2, 10⟩, ⟨3, 11⟩, ⟨1, 12⟩] : List T) = [⟨1, 0⟩, ⟨3, 1⟩, ⟨3, 11⟩, ⟨2, 10⟩, ⟨1, 12⟩] := rfl
  rw [e9] at q9
  have e10 : leave (lt false) [⟨1, 0⟩, ⟨3, 1⟩, ⟨3, 11⟩, ⟨2, 10⟩, ⟨1, 12⟩] = [⟨1, 0⟩, ⟨1, 12⟩, ⟨2, 10⟩, ⟨3, 1⟩, ⟨3, 11⟩] := rfl
  have L1 := Lib.hid (len true w9 w.heap.size w1.heap.size ow6 [] 3 p9)
  have L2 := Lib.hid (len false w9 w.heap.size w.heap.size ow9 _ _ q9)
  have dr := drain14 false w9 w.heap.size w.heap.size ow9 _ _ 9 q9 (by simp) (by decide) (by omega)
  rw [e10] at dr
  have DR := Lib.hid dr
  have B9 := Lib.hid b9
  have HQ9 := Lib.hid q9.within
  clear e9 e10 q9 p9 o9 f9 d9 x9 b9 dr
  go_wp2_with fail
  refine L1.out.mono ?_
  rintro e w' ⟨rfl, rfl⟩
  go_wp2_with fail
  refine L2.out.mono ?_
  rintro e w' ⟨rfl, rfl⟩
  go_wp2_with fail
  refine DR.out.mono ?_
  rintro e w10 ⟨v10, rfl, r10, _, o10⟩
  have b10 : Below w.heap.size w w10 := B9.out.trans (o10.toBelow B9.out.size (fun k hk hx => by have := (HQ9.out _ hx).1; omega))
  have b11 : Below w.heap.size w (w10.alloc (.cells #[.int .i64 1, .int .i64 0, .int .i64 1, .int .i64 12, .int .i64 2, .int .i64 10, .int .i64 3, .int .i64 1, .int .i64 3, .int .i64 11] 27)) := b10.alloc b10.size _
  have r11 := r10.below ((Below.refl w10.heap.size w10).alloc (Nat.le_refl _) (.cells #[.int .i64 1, .int .i64 0, .int .i64 1, .int .i64 12, .int .i64 2, .int .i64 10, .int .i64 3, .int .i64 1, .int .i64 3, .int .i64 11] 27))
  have SM := same21 _ _ 0 v10 (.slice (some ⟨w10.heap.size, 0, none⟩) 5 5) _ r11 (il_lit (heap_alloc_new w10 _) [⟨1, 0⟩, ⟨1, 12⟩, ⟨2, 10⟩, ⟨3, 1⟩, ⟨3, 11⟩] (Nat.zero_le _) (by decide) rfl)
  have HSM := Lib.hid SM
  have B11 := Lib.hid b11
  clear r10 o10 b10 b11 r11 SM
  go_wp2_with fail
  refine HSM.out.mono ?_
  rintro e w12 ⟨rfl, b12⟩
  have B12 := Lib.hid (B11.out.trans (b12.mono B11.out.size))
  clear b12
  go_wp2_with fail
  go_returns
  exact ⟨rfl, B12.out⟩
end QI
end Go.Proofs.Ytknmmgijhlpedaa
