/- The law PqueueMerges walked, one order of the second queue. -/
import Derived.Test.YtknmmgijhlpedaaU2
namespace Go.Proofs.Ytknmmgijhlpedaa
open Go.RowKit Go.ChangeShapes Go.WideShapes Go.Deep
set_option linter.unusedVariables false
set_option linter.unusedSimpArgs false
open QI
set_option maxHeartbeats 4000000 in
set_option maxRecDepth 100000 in
theorem merges_true (W : World) (a : Option Addr) (n c : Nat) (K : Nat → Int) (hn : n ≤ c) (hc : c ≤ 9223372036854775807) (hK : Keys W a n K) (hab : 0 < n → ∀ x, a = some x → x.block < W.heap.size) (hn2 : n ≤ 100)
    (a2 : Option Addr) (n2 c2 : Nat) (K2 : Nat → Int) (hm : n2 ≤ c2) (hc2 : c2 ≤ 9223372036854775807) (hK2 : Keys W a2 n2 K2) (hab2 : 0 < n2 → ∀ x, a2 = some x → x.block < W.heap.size) (hm2 : n2 ≤ 100) (x : Int) :
    Calls Try.prog 5 #[.slice a n c, .slice a2 n2 c2, .bool true, .int .i64 x] W fun e w' => e = .returned (.bool true) ∧ Below W.heap.size W w' := by
  have t1 : (n : Int) ≤ 100 := by omega
  have t2 : (n2 : Int) ≤ 100 := by omega
  have N1 := new false W W.heap.size (Nat.le_refl _)
  simp only [F, fn, if_true, if_false, Bool.false_eq_true] at N1
  have N2 := fun w1 (h : W.heap.size ≤ w1.heap.size) => new false w1 W.heap.size h
  simp only [F, fn, if_true, if_false, Bool.false_eq_true] at N2
  have HN1 := Lib.hid N1
  have HN2 := Lib.hid N2
  have HK := Lib.hid hK
  have HA := Lib.hid hab
  have HK2 := Lib.hid hK2
  have HA2 := Lib.hid hab2
  clear hK hab hK2 hab2 N1 N2
  go_enter Try.func5, Try.ntmps5
  go_wp2_with fail
  refine HN1.out.mono ?_
  rintro e w1 ⟨rfl, q1, b1⟩
  have s1 : W.heap.size < w1.heap.size := (q1.within _ (.inl rfl)).2
  have Q1 := Lib.hid q1
  have B1 := Lib.hid b1
  clear q1 b1
  go_wp2_with fail
  refine (HN2.out _ B1.out.size).mono ?_
  rintro e w2 ⟨rfl, q2, b2⟩
  have s2 : w1.heap.size < w2.heap.size := (q2.within _ (.inl rfl)).2
  have Q1 := Lib.hid (Q1.out.below b2)
  have B2 := Lib.hid (B1.out.trans (b2.mono B1.out.size))
  have N3 := new true w2 W.heap.size B2.out.size
  simp only [F, fn, if_true] at N3
  have HN3 := Lib.hid N3
  clear q2 b2 N3
  go_wp2_with fail
  refine HN3.out.mono ?_
  rintro e w3 ⟨rfl, q3, b3⟩
  have s3 : w2.heap.size < w3.heap.size := (q3.within _ (.inl rfl)).2
  have Q1 := Lib.hid (Q1.out.below b3)
  have Q2 := Lib.hid q3
  have B3 := Lib.hid (B2.out.trans (b3.mono B2.out.size))
  clear q3 b3
  have zq := szs s3
  have k1 : Keys w3 a n K := SlE.below (fun _ => rfl) HK.out B3.out
  have fl := fill12 false w3 W.heap.size W.heap.size none [] 0 a n c K 0 Q1.out k1 (fun h0 x hx h => by have := HA.out h0 x hx; rcases h with h | h; omega; cases h) hn hc (by omega) (by omega) (by omega) (by omega) B3.out.size
  have FL := Lib.hid fl
  clear k1 fl
  go_wp2_with fail
  refine FL.out.mono ?_
  rintro e w4 ⟨v4, ow, rfl, l4, q4, o4, f4, d4⟩
  rw [List.nil_append] at q4
  have p4 := Q2.out.off o4 (fun b hb hx => by rcases hb with rfl | hb; (rcases hx with h | h; omega; cases h); cases hb)
  have b4 : Below W.heap.size W w4 := B3.out.trans (o4.toBelow B3.out.size (fun k hk h => by rcases h with h | h; omega; cases h))
  have s4 : w3.heap.size ≤ w4.heap.size := o4.size
  have k2 : Keys w4 a2 n2 K2 := SlE.below (fun _ => rfl) HK2.out b4
  have fl := fill12 true w4 W.heap.size w2.heap.size none [] 0 a2 n2 c2 K2 1000 p4 k2 (fun h0 x hx h => by have := HA2.out h0 x hx; rcases h with h | h; omega; cases h) hm hc2 (by omega) (by omega) (by omega) (by omega) b4.size
  have FL2 := Lib.hid fl
  have Q4 := Lib.hid q4
  have L4 := Lib.hid l4
  have B4 := Lib.hid b4
  have F4 := Lib.hid f4
  have D4 := Lib.hid d4
  clear l4 q4 o4 f4 d4 p4 b4 k2 fl
  go_wp2_with fail
  refine FL2.out.mono ?_
  rintro e w5 ⟨v5, ow2, rfl, l5, p5, o5, f5, d5⟩
  rw [List.nil_append] at p5
  have hq4 := Q4.out.within
  have q5 := Q4.out.off o5 (fun b hb hx => by
    rcases hx with rfl | hx
    · rcases hb with h | h
      · omega
      · rcases F4.out _ h.symm with h | h
        · cases h
        · omega
    · cases hx)
  have l5' := L4.out.off o5 (fun g hg h => by have := (L4.out.own g hg).1; rcases h with h | h; omega; cases h)
  have dis5 : ∀ b, FP W.heap.size ow b → ¬ FP w2.heap.size ow2 b := fun b hb hx => by
    have h1 := (hq4 b hb).2
    rcases hx with rfl | hx
    · rcases hb with h | h
      · omega
      · rcases F4.out _ h.symm with h | h
        · cases h
        · omega
    · rcases f5 b hx.symm with h | h
      · cases h
      · omega
  have b5 : Below W.heap.size W w5 := B4.out.trans (o5.toBelow B4.out.size (fun k hk h => by rcases h with h | h; omega; cases h))
  have s5 : w4.heap.size ≤ w5.heap.size := o5.size
  have A5 := Lib.hid (all22 w5 _ v5 _ true l5 (by rw [its_len]; omega))
  have Q5 := Lib.hid (show Q w5 W.heap.size W.heap.size ow false (its K 0 n) n by have := q5; rwa [show (0 : Int) + (n : Int) = n by omega] at this)
  have P5 := Lib.hid (show Q w5 W.heap.size w2.heap.size ow2 true (its K2 1000 n2) n2 by have := p5; rwa [show (0 : Int) + (n2 : Int) = n2 by omega] at this)
  have R5 := Lib.hid l5'
  have D5 := Lib.hid dis5
  have B5 := Lib.hid b5
  have G5 : Hid (∀ g, v4.ownBlock = some g → g < w4.heap.size ∧ ¬ FP W.heap.size ow g ∧ ¬ FP w2.heap.size ow2 g) := Lib.hid fun g hg => ⟨(L4.out.own g hg).2, fun h => by have := (L4.out.own g hg).1; rcases h with h | h; omega; exact D4.out g hg h.symm, fun h => by
    have h1 := L4.out.own g hg
    rcases h with h | h
    · omega
    · rcases f5 g h.symm with h | h
      · cases h
      · omega⟩
  clear l5 p5 o5 f5 d5 hq4 q5 l5' dis5 b5
  go_wp2_with fail
  refine A5.out.mono ?_
  rintro e w6 ⟨v6, rfl, m6, b6⟩
  have hl1 := its_len K 0 n
  have hl2 := leave_len (lt true) n2 (its K2 1000 n2) (its_len K2 1000 n2)
  have M := merge23 false true w6 W.heap.size W.heap.size ow _ n w2.heap.size ow2 _ n2 (Q5.out.below b6) (P5.out.below b6) (by omega) D5.out (by rw [its_len]; omega) (by omega) (by have := B5.out.size; have := b6.size; omega)
  rw [its_len] at M
  generalize its K 0 n = L1 at *
  generalize leave (lt true) (its K2 1000 n2) = L2 at *
  have HM := Lib.hid M
  have M6 := Lib.hid m6
  have s6 : w5.heap.size ≤ w6.heap.size := b6.size
  have B6 := Lib.hid (B5.out.trans (b6.mono B5.out.size))
  have R6 := Lib.hid (R5.out.below b6)
  have HQ5 := Lib.hid Q5.out.within
  have HP5 := Lib.hid P5.out.within
  clear M m6 b6
  go_wp2_with fail
  refine HM.out.mono ?_
  rintro e w7 ⟨rfl, ow7, q7, p7, o7, f7, d7⟩
  have ne7 : ∀ g, w5.heap.size ≤ g → ¬ (FP W.heap.size ow g ∨ FP w2.heap.size ow2 g) := fun g h h2 => by
    rcases h2 with h2 | h2
    · have := (HQ5.out g h2).2; omega
    · have := (HP5.out g h2).2; omega
  have m7 := M6.out.off o7 (fun g hg => ne7 g (M6.out.own g hg).1)
  have r7 := R6.out.off o7 (fun g hg h => by have := G5.out g hg; rcases h with h | h; exact this.2.1 h; exact this.2.2 h)
  have b7 : Below W.heap.size W w7 := B6.out.trans (o7.toBelow B6.out.size (fun k hk h => by rcases h with h | h; (have := (HQ5.out k h).1; omega); (have := (HP5.out k h).1; omega)))
  have G7 : Hid (∀ g, v4.ownBlock = some g → ¬ FP W.heap.size ow7 g ∧ ¬ FP w2.heap.size ow2 g) := Lib.hid fun g hg => ⟨fun h => by
    have h1 := G5.out g hg
    have h2 := (L4.out.own g hg).1
    rcases h with h | h
    · omega
    · rcases f7 g h.symm with h | h
      · exact h1.2.1 (.inr h.symm)
      · omega, (G5.out g hg).2.2⟩
  have LA := len true w7 _ w2.heap.size ow2 _ _ p7
  have LB := len false w7 _ W.heap.size ow7 _ _ q7
  rw [show (L1 ++ L2).length = n + n2 by simp; omega, show ((n + n2 : Nat) : Int) = (n : Int) + n2 by omega] at LB
  have HLA := Lib.hid LA
  have HLB := Lib.hid LB
  have Q7 := Lib.hid (show Q w7 W.heap.size W.heap.size ow7 false (L1 ++ L2) ((n + n2 : Nat) : Int) by have := q7; rwa [show (n : Int) + (n2 : Int) = ((n + n2 : Nat) : Int) by omega] at this)
  have P7 := Lib.hid p7
  have D7 := Lib.hid d7
  have B7 := Lib.hid b7
  obtain ⟨a7, c7, rfl, hc71, hc72, sl7, _⟩ := Row.sl m7 (lf_len _)
  have S7 := Lib.hid sl7
  have R7 := Lib.hid (r7.base_mono (show W.heap.size ≤ _ by omega))
  have HL1 := Lib.hid hl1
  have HL2 := Lib.hid hl2
  rw [hl2] at hc71 ⊢
  clear LA LB q7 p7 o7 f7 d7 m7 r7 b7 sl7 hl1 hl2 ne7
  go_wp2_with fail
  refine HLA.out.mono ?_
  rintro e w8 ⟨rfl, rfl⟩
  go_wp2_with fail
  refine HLB.out.mono ?_
  rintro e w8 ⟨rfl, rfl⟩
  go_wp2_with fail
  go_loopw [11, 13] (fun lv i wr => ∃ k : Nat, i = .int .i64 k ∧ k ≤ n2 ∧ Hid (IL wr W.heap.size lv (L1 ++ L2.take k) ∧ Below w7.heap.size w7 wr ∧ ∀ g, lv.ownBlock = some g → ¬ FP W.heap.size ow7 g ∧ ¬ FP w2.heap.size ow2 g)) (fun _ i _ => n2 - (intOf i).toNat)
  case atStart => exact ⟨0, rfl, by omega, by simpa using R7.out, Below.refl _ _, G7.out⟩
  case round =>
    obtain ⟨k, rfl, hk, hrel⟩ := hrel
    by_cases hlt : k < n2
    · have st : k < L2.length := by rw [HL2.out]; exact hlt
      have S8 := SlE.below (lf_len _) S7.out hrel.out.2.1
      obtain ⟨g7, o7, rfl, hz⟩ := S8.all (by omega)
      clear hz
      obtain ⟨x0, x1⟩ := sl_cells S8 st
      have t3 : (k : Int) < (n2 : Int) := by omega
      have htk : L2.take (k + 1) = L2.take k ++ [L2.getD k default] := by rw [List.take_add_one]; simp [List.getD, st]
      obtain ⟨⟨yk, yt⟩, hy⟩ : ∃ y, y = L2.getD k default := ⟨_, rfl⟩
      rw [← hy] at x0 x1 htk
      dsimp only at x0 x1
      have hlen : (L1 ++ L2.take k).length ≤ 200 := by rw [List.length_append, HL1.out, List.length_take]; omega
      have R := refpush wr W.heap.size u11 _ ⟨yk, yt⟩ hrel.out.1 (by omega)
      unfold vv at R
      dsimp only at R
      have HR := Lib.hid R
      have HTK := Lib.hid htk
      clear R htk hy hlen S8 st
      have s8 := hrel.out.2.1.size
      go_wp2_with fail
      refine HR.out.mono ?_
      rintro e w9 ⟨v9, rfl, l9, b9⟩
      have L9 := Lib.hid l9
      have B9 := Lib.hid b9
      clear l9 b9
      go_wp2_with fail
      go_roundw
      case rel => exact ⟨k + 1, by go_num, by omega, by rw [HTK.out, ← List.append_assoc]; exact L9.out.base_mono (by have := B7.out.size; omega), hrel.out.2.1.trans (B9.out.mono s8), fun g hg => ⟨fun h => by have := (L9.out.own g hg).1; have := (Q7.out.within g h).2; omega, fun h => by have := (L9.out.own g hg).1; have := (P7.out.within g h).2; omega⟩⟩
      case measure => simp [intOf]; omega
    · have hkn : k = n2 := by omega
      have hT : L2.take k = L2 := List.take_of_length_le (by rw [HL2.out]; omega)
      subst hkn
      have i8 : IL wr W.heap.size u11 (L1 ++ L2) := by have := hrel.out.1; rwa [hT] at this
      have b8 : Below w7.heap.size w7 wr := hrel.out.2.1
      have q8 := Q7.out.below b8
      have p8 := P7.out.below b8
      have b0 : Below wr.heap.size wr (wr.alloc (.cells #[.int .i64 x, .int .i64 5000] 27)) := (Below.refl _ _).alloc (Nat.le_refl _) _
      have PU := push_q false _ _ W.heap.size ow7 (L1 ++ L2) ((n + k : Nat) : Int) ⟨x, 5000⟩ (q8.below b0) (by omega) (by have := B7.out.size; have := b8.size; simp; omega)
      unfold vv at PU
      dsimp only at PU
      have HPU := Lib.hid PU
      have P8 := Lib.hid (p8.below b0)
      have B8 := Lib.hid ((B7.out.trans (b8.mono B7.out.size)).trans (b0.mono (by have := B7.out.size; have := b8.size; omega)))
      have X0 := Lib.hid (heap_alloc_new wr (.cells #[.int .i64 x, .int .i64 5000] 27))
      have i8' := i8.below b0
      have G8 := Lib.hid hrel.out.2.2
      have HQ7 := Lib.hid Q7.out.within
      have HP7 := Lib.hid P7.out.within
      have I8 := Lib.hid i8'
      have z8 : w7.heap.size ≤ wr.heap.size := b8.size
      clear PU q8 p8 b8 b0 hT i8 i8'
      go_wp2_with fail
      refine HPU.out.mono ?_
      rintro e w9 ⟨rfl, ow9, q9, o9, f9⟩
      have p9 := P8.out.off o9 (fun b hb h => D7.out b h hb)
      have z9 : wr.heap.size < w9.heap.size := by have := o9.size; simp at this; omega
      have x9 := (o9.block _ (block_lt X0.out) (fun h => by have := (HQ7.out _ h).2; omega)).trans X0.out
      have i9 := I8.out.off o9 (fun g hg h => (G8.out g hg).1 h)
      have D9 : Hid (∀ b, FP W.heap.size ow9 b → ¬ FP w2.heap.size ow2 b) := Lib.hid fun b h h2 => by
        rcases h with h | h
        · exact D7.out b (.inl h) h2
        · rcases f9 b h.symm with h | h
          · exact D7.out b (.inr h.symm) h2
          · have := (HP7.out b h2).2; simp at h; omega
      have B9 := Lib.hid (B8.out.trans (o9.toBelow B8.out.size (fun b hb hx => by have := (HQ7.out b hx).1; omega)))
      have G9 : Hid (∀ g, u11.ownBlock = some g → ¬ FP w2.heap.size ow2 g) := Lib.hid fun g hg => (G8.out g hg).2
      have y0 : w9.cell? ⟨wr.heap.size, 0, none⟩ = some (.int .i64 x) := cell_at x9 0
      have y1 : w9.cell? ⟨wr.heap.size, 1, none⟩ = some (.int .i64 5000) := cell_at x9 1
      have PP := push_q true w9 _ w2.heap.size ow2 [] (k : Int) ⟨x, 5000⟩ p9 (by omega) B9.out.size
      unfold vv at PP
      dsimp only at PP
      have HPP := Lib.hid PP
      have X9 := Lib.hid x9
      have I9 := Lib.hid i9
      have Q9 := Lib.hid q9
      clear PP o9 f9 q9 p9 x9 i9
      go_wp2_with fail
      refine HPP.out.mono ?_
      rintro e w10 ⟨rfl, ow10, p10, o10, f10⟩
      have z10 : w9.heap.size ≤ w10.heap.size := o10.size
      have q10 := Q9.out.off o10 (fun b hb h => D9.out b hb h)
      have x10 := (o10.block _ (block_lt X9.out) (fun h => by have := (HP7.out _ h).2; omega)).trans X9.out
      have i10 := I9.out.off o10 (fun g hg h => G9.out g hg h)
      have B10 := Lib.hid (B9.out.trans (o10.toBelow B9.out.size (fun b hb hx => by have := (HP7.out b hx).1; omega)))
      have D10 : Hid (∀ b, FP w2.heap.size ow10 b → ¬ FP W.heap.size ow9 b) := Lib.hid fun b h h2 => by
        rcases h with h | h
        · exact D9.out b h2 (.inl h)
        · rcases f10 b h.symm with h | h
          · exact D9.out b h2 (.inr h.symm)
          · have := (Q9.out.within b h2).2; omega
      have E10 : Hid (∀ b, FP w2.heap.size ow10 b → b ≠ wr.heap.size) := Lib.hid fun b h h2 => by
        rcases h with h | h
        · have := (HP7.out b (.inl h)).2; omega
        · rcases f10 b h.symm with h | h
          · have := (HP7.out b (.inr h.symm)).2; omega
          · omega
      have c0 : w10.cell? ⟨wr.heap.size, 0, none⟩ = some (.int .i64 x) := cell_at x10 0
      have c1 : w10.cell? ⟨wr.heap.size, 1, none⟩ = some (.int .i64 5000) := cell_at x10 1
      have hll : (L1 ++ L2).length ≤ 200 := by rw [List.length_append, HL1.out, HL2.out]; omega
      have R := refpush w10 W.heap.size u11 (L1 ++ L2) ⟨x, 5000⟩ i10 (by omega)
      unfold vv at R
      dsimp only at R
      have HR := Lib.hid R
      have X10 := Lib.hid x10
      have Q10 := Lib.hid q10
      have P10 := Lib.hid p10
      clear R o10 f10 q10 p10 x10 i10 y0 y1
      go_wp2_with fail
      refine HR.out.mono ?_
      rintro e w11 ⟨v11, rfl, i11, b11⟩
      have z11 : w10.heap.size ≤ w11.heap.size := b11.size
      have x11 := (b11.block _ (block_lt X10.out)).trans X10.out
      have POP := pop19 true w11 W.heap.size w2.heap.size ow10 ([] ++ [⟨x, 5000⟩]) ((k : Int) + 1) (P10.out.below b11) (by omega)
      rw [show hdT true ([] ++ [(⟨x, 5000⟩ : T)]) = ⟨x, 5000⟩ from rfl, show hdB ([] ++ [(⟨x, 5000⟩ : T)]) = true from rfl, show hdL true ([] ++ [(⟨x, 5000⟩ : T)]) = [] from rfl] at POP
      unfold vv at POP
      dsimp only at POP
      have HPOP := Lib.hid POP
      have X11 := Lib.hid x11
      have Q11 := Lib.hid (Q10.out.below b11)
      have I11 := Lib.hid i11
      have B11 := Lib.hid (B10.out.trans (b11.mono B10.out.size))
      clear POP x11 i11 b11 c0 c1
      go_wp2_with fail
      refine HPOP.out.mono ?_
      rintro e w12 ⟨rfl, p12, o12⟩
      have z12 : w11.heap.size ≤ w12.heap.size := o12.size
      have x12 := (o12.block _ (block_lt X11.out) (fun h => E10.out _ h rfl)).trans X11.out
      have b13 : Below w12.heap.size w12 (w12.alloc (.cells #[.int .i64 x, .int .i64 5000] 27)) := (Below.refl _ _).alloc (Nat.le_refl _) _
      have c0 : w12.cell? ⟨wr.heap.size, 0, none⟩ = some (.int .i64 x) := cell_at x12 0
      have c1 : w12.cell? ⟨wr.heap.size, 1, none⟩ = some (.int .i64 5000) := cell_at x12 1
      have z13 : wr.heap.size < w12.heap.size := by have := block_lt X11.out; omega
      have q12 := Q11.out.off o12 (fun b hb h => D10.out b h hb)
      have i12 := I11.out.off o12 (fun g hg h => by have := (I11.out.own g hg).1; have := (P10.out.within g h).2; omega)
      have B13 := Lib.hid ((B11.out.trans (o12.toBelow B11.out.size (fun b hb hx => by have := (P10.out.within b hx).1; omega))).trans (b13.mono (by have := B11.out.size; omega)))
      have LN := len true _ W.heap.size w2.heap.size ow10 [] _ (p12.below b13)
      have q13 := q12.below b13
      have i13 := i12.below b13
      obtain ⟨m, hm⟩ : ∃ m, m = (L1 ++ L2 ++ [(⟨x, 5000⟩ : T)]).length := ⟨_, rfl⟩
      have hm2 : m ≤ 201 := by rw [hm, List.length_append]; simp only [List.length_cons, List.length_nil]; omega
      have DR := drain14 false _ W.heap.size W.heap.size ow9 _ _ (m + 1) q13 (by omega) (by omega) (by omega)
      rw [show ((m + 1 : Nat) : Int) = (m : Int) + 1 by omega] at DR
      obtain ⟨a13, c13, rfl, hc1, hc2, _, _⟩ := Row.sl i13 (lf_len _)
      rw [← hm] at hc1 i13 ⊢
      have HLN := Lib.hid LN
      have HDR := Lib.hid DR
      have I13 := Lib.hid i13
      have Q13 := Lib.hid q13
      have HM := Lib.hid hm
      have hI : Hid (∀ g, (Value.slice a13 m c13).ownBlock = some g → ¬ FP W.heap.size ow9 g) := Lib.hid fun g hg h => by have := (I11.out.own g (by rw [← HM.out]; exact hg)).1; have := (Q10.out.within g h).2; omega
      clear x12 b13 q12 i12 p12 o12 LN DR q13 i13 hm
      go_wp2_with fail
      refine HLN.out.mono ?_
      rintro e w14 ⟨rfl, rfl⟩
      go_wp2_with fail
      refine HDR.out.mono ?_
      rintro e w15 ⟨v15, rfl, r15, _, o15⟩
      have i15 := I13.out.off o15 hI.out
      have AL := all22 w15 _ _ _ false i15 (by rw [← HM.out]; omega)
      have B15 := Lib.hid (B13.out.trans (o15.toBelow B13.out.size (fun b hb hx => by have := (Q13.out.within b hx).1; omega)))
      have HAL := Lib.hid AL
      have R15 := Lib.hid r15
      clear AL r15 o15 i15
      go_wp2_with fail
      refine HAL.out.mono ?_
      rintro e w16 ⟨v16, rfl, r16, b16⟩
      have B16 := Lib.hid (B15.out.trans (b16.mono B15.out.size))
      have SM := Lib.hid (same21 w16 _ _ v15 v16 _ (R15.out.below b16) r16)
      clear b16 r16
      go_wp2_with fail
      refine SM.out.mono ?_
      rintro e w17 ⟨rfl, b17⟩
      have B17 := Lib.hid (B16.out.trans (b17.mono B16.out.size))
      clear b17
      go_wp2_with fail
      refine (awake9 _).mono ?_
      rintro e w18 ⟨rfl, b18⟩
      have B18 := Lib.hid (B17.out.trans (b18.mono B17.out.size))
      clear b18
      go_wp2_with fail
      go_returns
      exact ⟨rfl, B18.out⟩
end Go.Proofs.Ytknmmgijhlpedaa
