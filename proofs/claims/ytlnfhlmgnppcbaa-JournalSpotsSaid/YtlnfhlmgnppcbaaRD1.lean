/- Read, the program's. -/
import Derived.Test.YtlnfhlmgnppcbaaRD0
import Derived.Test.YtlnfhlmgnppcbaaCRA
namespace Go.Proofs.Ytlnfhlmgnppcbaa
open Go.RowKit Go.ChangeShapes Go.WideShapes Go.Deep
set_option linter.unusedVariables false
set_option linter.unusedSimpArgs false
set_option maxRecDepth 4000 in
set_option maxHeartbeats 4000000 in
theorem read17 (ao : Option Addr) (n c : Nat) (B : Nat → Nat) (w : World) (h : BSl w ao n c B) (hB : ∀ i, i < n → B i < 256) (hn : n ≤ 1000000) : Calls Try.prog 17 #[.slice ao n c] w (EventsE w (readE (ents B n)).1 (readE (ents B n)).2) := by
  have O1 := Lib.hid (fun (p : Nat) (hp : p ≤ n) (w' : World) (hb : Below w.heap.size w w') => open38 ao n c B (p : Int) w' (h.below hb) hB hn ⟨by omega, by omega⟩)
  have HN := Lib.hid (fun (p : Nat) (h : (openE (ents B n) p).2.2 = 0) => open_next (byte_ents hB) h)
  have HE := Lib.hid (fun (p : Nat) (h : (openE (ents B n) p).2.2 ≠ 0) => open_err h)
  obtain ⟨L, hL⟩ : ∃ L, L = ents B n := ⟨_, rfl⟩
  have hLn : L.length = n := by rw [hL, ents_len]
  rw [← hL] at O1 HN HE ⊢
  obtain ⟨X, hX⟩ : ∃ X, X = readE L := ⟨_, rfl⟩
  have HX : Hid (readJ L 512 (0 : Nat) [] = X) := Lib.hid (by rw [hX]; rfl)
  rw [← hX]
  clear h hB hL hX
  have HLN := Lib.hid hLn
  clear hLn
  go_enter Try.func17, Try.ntmps17
  go_wp2_with fail
  go_loopw [4, 5] (fun s4 s5 wr => ∃ (k : Nat) (R : Nat → Ev) (p : Nat), s5 = .int .i64 p ∧ k ≤ 512 ∧ p ≤ n ∧ Hid (EvRow wr w.heap.size s4 k R) ∧ Hid (readJ L (512 - k) p (ents R k) = X) ∧ Hid (Below w.heap.size w wr)) (fun s4 _ _ => 512 - lenV s4)
  case atStart => exact ⟨0, fun _ => zeroE, 0, rfl, by omega, by omega, Lib.hid (EvRow.none _ _ _), Lib.hid HX.out, Lib.hid (Below.refl _ _)⟩
  case round =>
    obtain ⟨k, R, p, rfl, hk, hp, hrow, hJ, hbw⟩ := hrel
    have HROW := hrow
    have HJ := hJ
    have HBW := hbw
    clear hrow hJ hbw
    obtain ⟨bo, bc, rfl, hsl⟩ := EvRow.toSl HROW.out
    have HSL := Lib.hid hsl
    clear hsl
    by_cases hk5 : k = 512
    · subst hk5
      have HJ0 : Hid (X = (ents R 512, (p : Int))) := Lib.hid HJ.out.symm
      clear HJ
      go_wp2_with fail
      go_returns
      exact ⟨_, 512, R, by rw [HJ0.out]; rfl, by rw [HJ0.out], HROW.out, HBW.out⟩
    · have tk : (k : Int) < 512 := by omega
      have OO := Lib.hid (O1.out p hp _ HBW.out)
      have HNp := Lib.hid (HN.out p)
      have HJo := Lib.hid (fun (h : (openE L p).2.2 ≠ 0) => (readJ_open (L := L) (k := 511 - k) (acc := ents R k) h))
      have HJd := Lib.hid (fun (h : (openE L p).2.2 = 0) h2 => (readJ_dec (L := L) (k := 511 - k) (acc := ents R k) h h2))
      have HJs := Lib.hid (fun (h : (openE L p).2.2 = 0) h2 h3 => (readJ_step (L := L) (k := 511 - k) (acc := ents R k) h h2 h3))
      have e5 : 512 - k = 511 - k + 1 := by omega
      rw [e5] at HJ
      clear e5
      obtain ⟨⟨ct, nx, er⟩, hO⟩ : ∃ r, r = openE L p := ⟨_, rfl⟩
      rw [← hO] at OO HNp HJo HJd HJs
      clear hO
      dsimp only at HNp HJo HJd HJs
      go_wp2_with fail
      refine OO.out.mono ?_
      rintro e w1 ⟨v1, k1, R1, rfl, l1, r1, b1⟩
      obtain ⟨a1, c1, rfl, s1⟩ := BRow.toSl r1
      have B1 := Lib.hid (HBW.out.trans (b1.mono HBW.out.size))
      have ROW1 := Lib.hid (HROW.out.below b1)
      have S1 := Lib.hid s1
      have L1 := Lib.hid l1
      dsimp only at L1 ⊢
      clear OO HROW l1 r1 s1 b1 HSL
      by_cases her : er = 0
      · subst her
        obtain ⟨q, rfl, hq, hcb, hcl⟩ := HNp.out rfl
        have HCB := Lib.hid hcb
        have hkl : k1 ≤ 65536 := by have := congrArg List.length L1.out; rw [ents_len] at this; omega
        have DD := Lib.hid (decode39 a1 k1 c1 R1 w1 S1.out (ents_byte L1.out HCB.out) (by omega))
        rw [L1.out] at DD
        have hqn : q ≤ n := by rw [← HLN.out]; exact hq
        have HJd' := Lib.hid (HJd.out rfl)
        have HJs' := Lib.hid (HJs.out rfl)
        clear hcb HNp HJo HJd HJs hq hcl
        obtain ⟨⟨⟨x1, x2, x3, x4, x5, x6, x7, x8, x9⟩, ed⟩, hD⟩ : ∃ r, r = decE ct := ⟨_, rfl⟩
        rw [← hD] at DD HJd' HJs'
        unfold evV eC at DD
        dsimp only at DD HJd' HJs'
        clear hD
        go_wp2_with fail
        refine DD.out.mono ?_
        rintro e w2 ⟨rfl, b2⟩
        have B2 := Lib.hid (B1.out.trans (b2.mono B1.out.size))
        have ROW2 := Lib.hid (ROW1.out.below b2)
        clear DD ROW1 S1 b2
        have X0 := heap_alloc_new w2 (.cells #[.int .i64 x1, .int .i64 x2, .int .i64 x3, .int .i64 x4, .int .i64 x5, .int .i64 x6, .int .i64 x7, .int .i64 x8, .int .i64 x9] 24)
        have BA : Below w2.heap.size w2 (w2.alloc (.cells #[.int .i64 x1, .int .i64 x2, .int .i64 x3, .int .i64 x4, .int .i64 x5, .int .i64 x6, .int .i64 x7, .int .i64 x8, .int .i64 x9] 24)) := by (repeat' (first | (with_reducible exact Below.refl _ _) | (with_reducible assumption) | (with_reducible refine Below.drew ?_) | (with_reducible refine below_drewN ?_ _) | (with_reducible refine Below.alloc ?_ ?_ _) | (with_reducible refine Below.setCell ?_ ?_ _) | go_size))
        obtain ⟨wa, hwa⟩ : ∃ wa, wa = w2.alloc (.cells #[.int .i64 x1, .int .i64 x2, .int .i64 x3, .int .i64 x4, .int .i64 x5, .int .i64 x6, .int .i64 x7, .int .i64 x8, .int .i64 x9] 24) := ⟨_, rfl⟩
        rw [← hwa] at X0 BA
        have X0 := Lib.hid X0
        have ROWA := Lib.hid (ROW2.out.below BA)
        have BWA := Lib.hid (B2.out.trans (BA.mono B2.out.size))
        have HWA := Lib.hid hwa
        clear hwa BA ROW2 B2
        by_cases hed : ed = 0
        · subst hed
          have FF := Lib.hid (fun w' => framed33 ⟨x1, x2, x3, x4, x5, x6, x7, x8, x9⟩ w')
          have HJd2 := Lib.hid (fun h => HJd'.out (.inr h))
          have HJs2 := Lib.hid (HJs'.out rfl)
          clear HJd' HJs'
          obtain ⟨f, hf⟩ : ∃ f, f = framedB ⟨x1, x2, x3, x4, x5, x6, x7, x8, x9⟩ := ⟨_, rfl⟩
          rw [← hf] at FF HJd2 HJs2
          unfold eC at FF
          dsimp only at FF
          clear hf
          go_wp2_with fail
          rw [← HWA.out]
          refine (FF.out _).mono ?_
          rintro e w3 ⟨rfl, b3⟩
          have X3 := (b3.block _ (block_lt X0.out)).trans X0.out
          have B3 := Lib.hid (BWA.out.trans (b3.mono BWA.out.size))
          have ROW3 := Lib.hid (ROWA.out.below b3)
          clear FF HWA X0 ROWA BWA b3
          cases f with
          | false =>
            have HJ0 : Hid (X = (ents R k, (p : Int))) := Lib.hid (by rw [← HJ.out]; exact HJd2.out rfl)
            clear HJ HJd2 HJs2 X3
            go_wp2_with fail
            go_returns
            exact ⟨_, k, R, by rw [HJ0.out]; rfl, by rw [HJ0.out], ROW3.out, B3.out⟩
          | true =>
            have HJ1 : Hid (readJ L (511 - k) q (ents R k ++ [⟨x1, x2, x3, x4, x5, x6, x7, x8, x9⟩]) = X) := Lib.hid (by rw [← HJs2.out rfl]; exact HJ.out)
            clear HJ HJd2 HJs2
            have c0 := cell_at X3 0
            have c1 := cell_at X3 1
            have c2 := cell_at X3 2
            have c3 := cell_at X3 3
            have c4 := cell_at X3 4
            have c5 := cell_at X3 5
            have c6 := cell_at X3 6
            have c7 := cell_at X3 7
            have c8 := cell_at X3 8
            have z3 := szs (block_lt X3)
            have BB : Hid (Below w3.heap.size w3 (w3.alloc (.cells #[.int .i64 x1, .int .i64 x2, .int .i64 x3, .int .i64 x4, .int .i64 x5, .int .i64 x6, .int .i64 x7, .int .i64 x8, .int .i64 x9] 24))) := Lib.hid (by (repeat' (first | (with_reducible exact Below.refl _ _) | (with_reducible assumption) | (with_reducible refine Below.drew ?_) | (with_reducible refine below_drewN ?_ _) | (with_reducible refine Below.alloc ?_ ?_ _) | (with_reducible refine Below.setCell ?_ ?_ _) | go_size)))
            have XB : Hid ((w3.alloc (.cells #[.int .i64 x1, .int .i64 x2, .int .i64 x3, .int .i64 x4, .int .i64 x5, .int .i64 x6, .int .i64 x7, .int .i64 x8, .int .i64 x9] 24)).heap[w3.heap.size]? = some (.cells #[.int .i64 x1, .int .i64 x2, .int .i64 x3, .int .i64 x4, .int .i64 x5, .int .i64 x6, .int .i64 x7, .int .i64 x8, .int .i64 x9] 24 (0, 0))) := Lib.hid (heap_alloc_new w3 _)
            have BW : Hid (Below w.heap.size w (w3.alloc (.cells #[.int .i64 x1, .int .i64 x2, .int .i64 x3, .int .i64 x4, .int .i64 x5, .int .i64 x6, .int .i64 x7, .int .i64 x8, .int .i64 x9] 24))) := Lib.hid (B3.out.trans (BB.out.mono B3.out.size))
            have ROWB : Hid (EvRow (w3.alloc (.cells #[.int .i64 x1, .int .i64 x2, .int .i64 x3, .int .i64 x4, .int .i64 x5, .int .i64 x6, .int .i64 x7, .int .i64 x8, .int .i64 x9] 24)) w.heap.size (.slice bo k bc) k R) := Lib.hid (ROW3.out.below BB.out)
            have leB : w.heap.size ≤ (w3.alloc (.cells #[.int .i64 x1, .int .i64 x2, .int .i64 x3, .int .i64 x4, .int .i64 x5, .int .i64 x6, .int .i64 x7, .int .i64 x8, .int .i64 x9] 24)).heap.size := BW.out.size
            clear X3 ROW3 B3 BB
            go_wp2_with (at_builtin; first | (refine wpList_append_E _ rfl (.tmp 34) (.tmp 36) rfl w.heap.size _ k R rfl ROWB.out w3.heap.size ⟨x1, x2, x3, x4, x5, x6, x7, x8, x9⟩ rfl 24 (0, 0) XB.out (by omega) leB ?_))
            intro v4 w4 r4 b4
            have R4 := Lib.hid r4
            have B4 := Lib.hid (BW.out.trans b4)
            have hv4 : lenV v4 = k + 1 := by
              obtain ⟨_, _, rfl, _⟩ := EvRow.toSl r4
              rfl
            clear r4 b4 BW ROWB XB leB
            go_wp2_with fail
            go_roundw
            case rel => exact ⟨k + 1, _, q, rfl, by omega, hqn, R4, Lib.hid (by rw [ents_push, show 512 - (k + 1) = 511 - k by omega]; exact HJ1.out), B4⟩
            case measure => rw [hv4]; simp [lenV]; omega
        · have t1 : (ed != 0) = true := by simp; exact hed
          have HJ0 : Hid (X = (ents R k, (p : Int))) := Lib.hid (by rw [← HJ.out]; exact HJd'.out (.inl hed))
          clear HJ HJd' HJs'
          go_wp2_with fail
          rw [← HWA.out]
          go_returns
          exact ⟨_, k, R, by rw [HJ0.out]; rfl, by rw [HJ0.out], ROWA.out, BWA.out⟩
      · have t1 : (er != 0) = true := by simp; exact her
        have HJ0 : Hid (X = (ents R k, (p : Int))) := Lib.hid (by rw [← HJ.out]; exact HJo.out her)
        clear HJ HJo HJd HJs HNp
        go_wp2_with fail
        go_returns
        exact ⟨_, k, R, by rw [HJ0.out]; rfl, by rw [HJ0.out], ROW1.out, B1.out⟩
end Go.Proofs.Ytlnfhlmgnppcbaa
