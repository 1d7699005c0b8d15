/- The law PqueueRuns walked, one order. -/
import Derived.Test.YtknmmgijhlpedaaU2
namespace Go.Proofs.Ytknmmgijhlpedaa
open Go.RowKit Go.ChangeShapes Go.WideShapes Go.Deep
set_option linter.unusedVariables false
set_option linter.unusedSimpArgs false
open QI
set_option maxHeartbeats 4000000 in
set_option maxRecDepth 100000 in
theorem runs_false (W : World) (a : Option Addr) (n c : Nat) (K : Nat → Int × Int) (hn : n ≤ c) (hc : c ≤ 9223372036854775807) (hK : SlE W 2 a n (of K)) (hn2 : n ≤ 200) :
    Calls Try.prog 4 #[.slice a n c, .bool false] W fun e w' => e = .returned (.bool true) ∧ Below W.heap.size W w' := by
  have t1 : (n : Int) ≤ 200 := by omega
  have N1 := new false W W.heap.size (Nat.le_refl _)
  simp only [F, fn, if_true, if_false, Bool.false_eq_true] at N1
  have HN1 := Lib.hid N1
  have HK := Lib.hid hK
  clear hK N1
  go_enter Try.func4, Try.ntmps4
  go_wp2_with fail
  refine HN1.out.mono ?_
  rintro e w1 ⟨rfl, q1, b1⟩
  have Q1 := Lib.hid (show Q w1 W.heap.size W.heap.size none false [] ((0 : Nat) : Int) from q1)
  have B1 := Lib.hid b1
  clear q1 b1
  go_wp2_with fail
  go_loopw [6, 7] (fun lv i wr => ∃ (k : Nat) (l : List T) (ow : Option Nat) (N : Nat), i = .int .i64 k ∧ k ≤ n ∧ N ≤ k ∧ l.length ≤ k ∧ Hid (Q wr W.heap.size W.heap.size ow false l (N : Int) ∧ IL wr W.heap.size lv l ∧ Below W.heap.size W wr ∧ ∀ g, lv.ownBlock = some g → ¬ FP W.heap.size ow g)) (fun _ i _ => n - (intOf i).toNat)
  case atStart => exact ⟨0, [], none, 0, rfl, by omega, by omega, by simp, Q1.out, IL.nil _ _, B1.out, fun g hg => by simp [Value.ownBlock] at hg⟩
  case round =>
    obtain ⟨k, l, ow, N, rfl, hk, hNk, hlk, hrel⟩ := hrel
    clear Q1
    by_cases hlt : k < n
    · obtain ⟨g, o, rfl, hz⟩ := (SlE.below (of_len K) HK.out hrel.out.2.2.1).all (by omega)
      have x0 : wr.cell? ⟨g, o + k * 2, none⟩ = some (.int .u8 (K k).1) := hz k hlt 0 (by decide)
      have x1 : wr.cell? ⟨g, o + k * 2 + 1, none⟩ = some (.int .i64 (K k).2) := hz k hlt 1 (by decide)
      clear hz
      obtain ⟨kd, hkd⟩ : ∃ z, z = (K k).1 := ⟨_, rfl⟩
      obtain ⟨kk, hkk⟩ : ∃ z, z = (K k).2 := ⟨_, rfl⟩
      rw [← hkd] at x0
      rw [← hkk] at x1
      clear hkd hkk
      have t2 : (k : Int) < (n : Int) := by omega
      have zg := szs (cell_lt x0)
      dsimp only at zg
      have hbw : W.heap.size ≤ wr.heap.size := hrel.out.2.2.1.size
      have HF := Lib.hid hrel.out.1.within
      by_cases k0 : kd = 0
      · subst k0
        obtain ⟨h1, h2, h3, h4⟩ := hrel.out
        have b0 : Below wr.heap.size wr (wr.alloc (.cells #[.int .i64 kk, .int .i64 k] 27)) := (Below.refl _ _).alloc (Nat.le_refl _) _
        have P := push_q false _ _ W.heap.size ow l N ⟨kk, k⟩ (h1.below b0) (by omega) (by simp; omega)
        unfold vv at P
        dsimp only at P
        have HP := Lib.hid P
        have B0 := Lib.hid b0
        clear P b0 h1 h2 h3 h4
        go_wp2_with fail
        refine HP.out.mono ?_
        rintro e p1 ⟨rfl, ow2, q1, o1, f1⟩
        obtain ⟨h1, h2, h3, h4⟩ := hrel.out
        have o1' : Off (FP W.heap.size ow) wr p1 := (Off.of_below B0.out).trans o1 (fun _ _ h => h)
        have sz1 : wr.heap.size < p1.heap.size := by have := o1.size; simp at this; omega
        have bl : p1.heap[wr.heap.size]? = some (.cells #[.int .i64 kk, .int .i64 k] 27) := (o1.block _ (by simp) (fun h => by have := (HF.out _ h).2; omega)).trans (heap_alloc_new wr _)
        have c0 : p1.cell? ⟨wr.heap.size, 0, none⟩ = some (.int .i64 kk) := cell_at bl 0
        have c1 : p1.cell? ⟨wr.heap.size, 1, none⟩ = some (.int .i64 k) := cell_at bl 1
        have l1 : IL p1 W.heap.size u6 l := h2.off o1' h4
        have R := refpush p1 W.heap.size u6 l ⟨kk, k⟩ l1 (by omega)
        unfold vv at R
        dsimp only at R
        have HR := Lib.hid R
        have Q1 := Lib.hid q1
        have O1 := Lib.hid (h3.trans (o1'.toBelow hbw (fun b hb hx => by have := (HF.out b hx).1; omega)))
        clear R q1 o1 f1 o1' bl l1 h1 h2 h3 h4
        go_wp2_with fail
        refine HR.out.mono ?_
        rintro e w2 ⟨v2, rfl, l2, b2⟩
        have q2 := Q1.out.below b2
        have L := len false w2 _ W.heap.size ow2 _ _ q2
        have hl2 : (l ++ [(⟨kk, k⟩ : T)]).length = l.length + 1 := by simp
        obtain ⟨a2, cp2, rfl, hc1, hc2, _, _⟩ := Row.sl l2 (lf_len _)
        rw [hl2] at L l2 hc1 ⊢
        have HL := Lib.hid L
        have L2 := Lib.hid l2
        have Q2 := Lib.hid q2
        have B2 := Lib.hid b2
        clear l2 b2 q2 L hl2
        go_wp2_with fail
        refine HL.out.mono ?_
        rintro e w3 ⟨rfl, rfl⟩
        go_wp2_with fail
        go_roundw
        case rel =>
          refine ⟨k + 1, l ++ [⟨kk, k⟩], ow2, N + 1, by go_num, by omega, by omega, by simp; omega, by have := Q2.out; rwa [show ((N + 1 : Nat) : Int) = (N : Int) + 1 by omega], L2.out.base_mono (by omega), O1.out.trans (B2.out.mono (by omega)), fun b hb hx => ?_⟩
          have a1 := (L2.out.own b hb).1
          have a2 := (Q1.out.within b hx).2
          omega
        case measure => simp [intOf]; omega
      obtain ⟨x, hx⟩ : ∃ x, x = hdT false l := ⟨_, rfl⟩
      obtain ⟨ok, hok⟩ : ∃ x, x = hdB l := ⟨_, rfl⟩
      have hll := hdL_len false l
      have PP := fun w' (hb : Below wr.heap.size wr w') => pop19 false w' W.heap.size W.heap.size ow l N (hrel.out.1.below hb) (by omega)
      have PK := fun w' (hb : Below wr.heap.size wr w') => peek20 false w' W.heap.size W.heap.size ow l N (hrel.out.1.below hb)
      have R := refpop18 wr W.heap.size u6 l false hrel.out.2.1 (by omega)
      rw [← hx, ← hok] at PP PK R
      generalize hdL false l = l2 at *
      clear hx hok
      obtain ⟨xk, xt⟩ := x
      unfold vv at PP PK R
      dsimp only at PP PK R
      have HPP := Lib.hid PP
      have HPK := Lib.hid PK
      have HR := Lib.hid R
      clear PP PK R
      by_cases k1 : kd = 1
      · subst k1
        clear k0 HPK
        go_wp2_with fail
        refine HR.out.mono ?_
        rintro e w3 ⟨v3, rfl, l3, b3⟩
        have b4 : Below wr.heap.size wr (w3.alloc (.cells #[.int .i64 xk, .int .i64 xt] 27)) := b3.alloc b3.size _
        have X4 := Lib.hid (heap_alloc_new w3 (.cells #[.int .i64 xk, .int .i64 xt] 27))
        have hs3 := b3.size
        have L4 := Lib.hid (l3.below ((Below.refl w3.heap.size w3).alloc (Nat.le_refl _) (.cells #[.int .i64 xk, .int .i64 xt] 27)))
        have B4 := Lib.hid b4
        clear b3 l3 b4
        go_wp2_with fail
        refine (HPP.out _ B4.out).mono ?_
        rintro e w5 ⟨rfl, q5, o5⟩
        have x5 := (o5.block _ (block_lt X4.out) (fun h => by have := (HF.out _ h).2; omega)).trans X4.out
        have s5 : w3.heap.size < w5.heap.size := block_lt x5
        have c0 : w5.cell? ⟨w3.heap.size, 0, none⟩ = some (.int .i64 xk) := cell_at x5 0
        have c1 : w5.cell? ⟨w3.heap.size, 1, none⟩ = some (.int .i64 xt) := cell_at x5 1
        have l5 := L4.out.off o5 (fun g hg h => by have := (L4.out.own g hg).1; have := (HF.out _ h).2; omega)
        have b5 : Below W.heap.size W w5 := (hrel.out.2.2.1.trans (B4.out.mono hbw)).trans (o5.toBelow (by have := B4.out.size; omega) (fun b hb hx => by have := (HF.out b hx).1; omega))
        have b6 : Below w5.heap.size w5 (w5.alloc (.cells #[.int .i64 xk, .int .i64 xt] 27)) := (Below.refl _ _).alloc (Nat.le_refl _) _
        have q6 := q5.below b6
        have L := fun nq => len false ((w5.alloc (.cells #[.int .i64 xk, .int .i64 xt] 27)).drewN nq) W.heap.size W.heap.size ow l2 N (q6.below (below_drewN (Below.refl _ _) nq))
        have L0 := len false _ W.heap.size W.heap.size ow l2 N q6
        obtain ⟨a2, cp2, rfl, hc1, hc2, _, _⟩ := Row.sl l5 (lf_len _)
        have HL := Lib.hid (And.intro L L0)
        have L6 := Lib.hid (And.intro b6 (l5.below b6))
        have Q6 := Lib.hid q6
        have B5 := Lib.hid b5
        clear L L0 q5 o5 x5 l5 b5 b6 q6
        go_wp2_with fail
        refine HL.out.2.mono ?_
        rintro e w7 ⟨rfl, rfl⟩
        go_wp2_with fail
        go_roundw
        case rel => exact ⟨k + 1, l2, ow, N, by go_num, by omega, by omega, by omega, Q6.out, L6.out.2.base_mono (by omega), B5.out.trans (L6.out.1.mono B5.out.size), fun b hb hx => by have := (L6.out.2.own b hb).1; have := (HF.out b hx).2; omega⟩
        case measure => simp [intOf]; omega
      · clear HPP
        go_wp2_with fail
        refine HR.out.mono ?_
        rintro e w3 ⟨v3, rfl, l3, b3⟩
        have b4 : Below wr.heap.size wr (w3.alloc (.cells #[.int .i64 xk, .int .i64 xt] 27)) := b3.alloc b3.size _
        have X4 := Lib.hid (heap_alloc_new w3 (.cells #[.int .i64 xk, .int .i64 xt] 27))
        have hs3 := b3.size
        have B4 := Lib.hid b4
        clear b3 l3 b4
        go_wp2_with fail
        refine (HPK.out _ B4.out).mono ?_
        rintro e w5 ⟨rfl, b5⟩
        have x5 := (b5.block _ (block_lt X4.out)).trans X4.out
        have s5 : w3.heap.size < w5.heap.size := block_lt x5
        have c0 : w5.cell? ⟨w3.heap.size, 0, none⟩ = some (.int .i64 xk) := cell_at x5 0
        have c1 : w5.cell? ⟨w3.heap.size, 1, none⟩ = some (.int .i64 xt) := cell_at x5 1
        have b6 : Below wr.heap.size wr (w5.alloc (.cells #[.int .i64 xk, .int .i64 xt] 27)) := (B4.out.trans (b5.mono B4.out.size)).alloc (by have := B4.out.size; have := b5.size; omega) _
        have L0 := len false _ W.heap.size W.heap.size ow l N (hrel.out.1.below b6)
        obtain ⟨a2, cp2, rfl, hc1, hc2, _, _⟩ := Row.sl hrel.out.2.1 (lf_len _)
        have HL := Lib.hid L0
        have B6 := Lib.hid b6
        clear L0 x5 b5 b6
        go_wp2_with fail
        refine HL.out.mono ?_
        rintro e w7 ⟨rfl, rfl⟩
        go_wp2_with fail
        go_roundw
        case rel => exact ⟨k + 1, l, ow, N, by go_num, by omega, by omega, by omega, hrel.out.1.below B6.out, hrel.out.2.1.below B6.out, hrel.out.2.2.1.trans (B6.out.mono hbw), hrel.out.2.2.2⟩
        case measure => simp [intOf]; omega
    · obtain rfl : k = n := by omega
      obtain ⟨h1, h2, h3, h4⟩ := hrel.out
      have dr := drain14 false wr W.heap.size W.heap.size ow l N (l.length + 1) h1 (by omega) (by omega) (by omega)
      rw [show ((l.length + 1 : Nat) : Int) = (l.length : Int) + 1 by omega] at dr
      have HF := Lib.hid h1.within
      obtain ⟨a2, cp2, rfl, hc1, hc2, _, _⟩ := Row.sl h2 (lf_len _)
      have DR := Lib.hid dr
      clear h1 h2 h3 h4 dr
      go_wp2_with fail
      refine DR.out.mono ?_
      rintro e w3 ⟨v3, rfl, r3, q3, o3⟩
      have hbw : W.heap.size ≤ wr.heap.size := hrel.out.2.2.1.size
      have r2 := hrel.out.2.1.off o3 hrel.out.2.2.2
      have B3 := Lib.hid (hrel.out.2.2.1.trans (o3.toBelow hbw (fun b hb hx => by have := (HF.out b hx).1; omega)))
      have A := Lib.hid (all22 w3 W.heap.size _ l false r2 (by omega))
      have R3 := Lib.hid r3
      clear q3 o3 r2 r3
      go_wp2_with fail
      refine A.out.mono ?_
      rintro e w4 ⟨v4, rfl, r4, b4⟩
      have B4 := Lib.hid (B3.out.trans (b4.mono B3.out.size))
      have SM := Lib.hid (same21 w4 _ _ v3 v4 _ (R3.out.below b4) r4)
      clear b4 r4
      go_wp2_with fail
      refine SM.out.mono ?_
      rintro e w5 ⟨rfl, b5⟩
      have B5 := Lib.hid (B4.out.trans (b5.mono B4.out.size))
      clear b5
      go_wp2_with fail
      refine (awake9 _).mono ?_
      rintro e w6 ⟨rfl, b6⟩
      have B6 := Lib.hid (B5.out.trans (b6.mono B5.out.size))
      clear b6
      go_wp2_with fail
      go_returns
      exact ⟨rfl, B6.out⟩
end Go.Proofs.Ytknmmgijhlpedaa
