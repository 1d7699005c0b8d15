/- A frame opened, the reference's. -/
import Derived.Test.YtlnfhlmgnppcbaaCR10
import Derived.Test.YtlnfhlmgnppcbaaCR9
import Derived.Test.YtlnfhlmgnppcbaaWI4
import Derived.Test.YtlnfhlmgnppcbaaBA
import Derived.BigQuiet
namespace Go.Proofs.Ytlnfhlmgnppcbaa
open Go.RowKit Go.ChangeShapes Go.WideShapes Go.Deep
set_option linter.unusedVariables false
set_option linter.unusedSimpArgs false
def openG2 (l : List Nat) : List Value → World → Prop
  | [v2, v1], w => SlY w v2 l
  | _, _ => True
def openS2 (s : Nat) (r : Bool) : List Value → Prop
  | [v1] => v1 = .int .i64 (s : Int)
  | [v2, v1] => ∃ (ao : Option Addr) (k c : Nat), v2 = .slice ao k c
  | v :: _ => v = .bool r
  | [] => True
theorem openG2_below {l : List Nat} : ∀ (s : List Value) (w w' : World), openG2 l s w → Below w.heap.size w w' → openG2 l s w'
  | [], _, _, _, _ => trivial
  | [_], _, _, _, _ => trivial
  | [_, _], _, _, h, hb => SlY.below h hb
  | _ :: _ :: _ :: _, _, _, _, _ => trivial
set_option maxRecDepth 4000 in
set_option maxHeartbeats 4000000 in
theorem open40 (ao : Option Addr) (n c : Nat) (B : Nat → Nat) (a : Int) (w : World) (h : BSl w ao n c B) (hB : ∀ i, i < n → B i < 256) (hn : n ≤ 1000000) (ha : inI a) : Calls Try.prog 40 #[.slice ao n c, .int .i64 a] w (BytesO w (openE (ents B n) a)) := by
  have hmc := h.hm
  have hcc := h.hc
  have HS := Lib.hid h
  have HB := Lib.hid hB
  have CI := Lib.hid (int58 ao n c B a w h hB hn ha)
  have hlen : ((ents B n).length : Int) = n := by rw [ents_len]
  have HF := Lib.hid (intE_form (l := ents B n) (byte_ents hB) (a := a))
  obtain ⟨⟨x, to, er⟩, hI⟩ : ∃ r, r = intE (ents B n) a := ⟨_, rfl⟩
  have HI := Lib.hid hI.symm
  rw [← hI] at CI HF
  unfold i3 at CI
  dsimp only at CI HF
  clear h hB hI
  by_cases he : er = 0
  · subst he
    obtain ⟨p, hp1, hp2, t, ht, hto⟩ := HF.out rfl
    have htl := congrArg List.length ht
    rw [List.length_drop, List.length_append, ents_len] at htl
    rw [ents_len] at hp2
    obtain ⟨q, hq⟩ : ∃ q, q = p + (codeN x).length := ⟨_, rfl⟩
    rw [← hq] at hto
    have hqn : q ≤ n := by omega
    subst hto
    clear HF hp1 hp2 ht htl hq
    by_cases hx1 : x < 0
    · rw [openE_2 HI.out rfl (.inl hx1)]
      go_enter Try.func40, Try.ntmps40
      go_wp2_with fail
      refine CI.out.mono ?_
      rintro e w1 ⟨rfl, b1⟩
      have B1 := Lib.hid b1
      clear CI b1
      go_wp2_with fail
      go_returns
      exact BytesO.err 3 B1.out
    by_cases hx2 : 65536 < x
    · rw [openE_2 HI.out rfl (.inr hx2)]
      go_enter Try.func40, Try.ntmps40
      go_wp2_with fail
      refine CI.out.mono ?_
      rintro e w1 ⟨rfl, b1⟩
      have B1 := Lib.hid b1
      clear CI b1
      go_wp2_with fail
      go_returns
      exact BytesO.err 3 B1.out
    obtain ⟨m, rfl⟩ := Int.eq_ofNat_of_zero_le (show 0 ≤ x by omega)
    have hm : m ≤ 65536 := by omega
    by_cases hx3 : (n : Int) - (q : Int) < (m : Int) + 4
    · rw [openE_3 HI.out rfl (by omega) (by rw [hlen]; exact hx3)]
      clear hlen
      have tx1 : (0 : Int) ≤ (m : Int) := by omega
      have tx2 : (m : Int) ≤ 65536 := by omega
      go_enter Try.func40, Try.ntmps40
      go_wp2_with fail
      refine CI.out.mono ?_
      rintro e w1 ⟨rfl, b1⟩
      have B1 := Lib.hid b1
      clear CI b1
      go_wp2_with fail
      go_returns
      exact BytesO.err 4 B1.out
    have hsum : q + m + 4 ≤ n := by omega
    have HA : Hid ((ao : Option Addr) ≠ none) := Lib.hid (fun e => by have := (HS.out.hno e).1; omega)
    obtain ⟨g, o, rfl, hg, _⟩ := BSl.byte HS.out (i := 0) (by omega)
    have tx1 : (0 : Int) ≤ (m : Int) := by omega
    have tx2 : (m : Int) ≤ 65536 := by omega
    have tx3 : (m : Int) + 4 ≤ (n : Int) - (q : Int) := by omega
    have ti1 : (q : Int) ≤ (q : Int) + (m : Int) := by omega
    have ti2 : (q : Int) + (m : Int) ≤ (c : Int) := by omega
    clear hx1 hx2 hx3 hlen HA
    go_enter Try.func40, Try.ntmps40
    go_wp2_with fail
    refine CI.out.mono ?_
    rintro e w1 ⟨rfl, b1⟩
    have B1 := Lib.hid b1
    have S1 := Lib.hid (HS.out.below b1)
    clear CI b1 HS
    have SC := Lib.hid (BSl.sub S1.out (q := q) (m := m) (by omega))
    have ST := Lib.hid (BSl.sub S1.out (q := q + m) (m := 4) (by omega))
    have EO := Lib.hid (openE_4 HI.out tx2 (by rw [ents_len]; omega))
    rw [ents_sub (by omega), ents_sub (by omega)] at EO
    have HB1 := Lib.hid (fun (i : Nat) (hi : i < m) => HB.out (q + i) (by omega))
    have HB2 := Lib.hid (fun (i : Nat) (hi : i < 4) => HB.out (q + m + i) (by omega))
    clear HI S1 HB
    obtain ⟨C, hC⟩ : ∃ C, C = ents (fun i => B (q + i)) m := ⟨_, rfl⟩
    rw [← hC] at EO
    have HC := Lib.hid hC
    have hs := sumB_lt C
    obtain ⟨s, hs'⟩ : ∃ s, s = sumB C := ⟨_, rfl⟩
    rw [← hs'] at EO hs
    have HSS := Lib.hid hs'
    obtain ⟨l, hl⟩ : ∃ l, l = tailB s := ⟨_, rfl⟩
    have HL := Lib.hid hl
    have HLB : Hid (∀ x ∈ l, x < 256) := Lib.hid (by rw [hl]; exact tailB_byte _)
    rw [← hl] at EO
    obtain ⟨r, hr⟩ : ∃ r, r = decide (l = ents (fun i => B (q + m + i)) 4) := ⟨_, rfl⟩
    have HR := Lib.hid hr
    clear hC hs' hl hr
    have hq4 : q + m + 4 ≤ c := by omega
    have e1 : q + m - q = m := by omega
    have e2 : q + m + 4 - (q + m) = 4 := by omega
    go_wp2_with (at_builtin; first | (simp only [e1]; refine wpList_append_B w1 rfl (.tmp 34) (.tmp 40) rfl w1.heap.size _ 0 (fun _ => 0) rfl (BRow.none _ _) (some ⟨g, o + q, none⟩) m (c - q) _ rfl SC.out (by omega) (Nat.le_refl _) ?_) | (refine wpList_append_B w1 rfl (.tmp 34) (.tmp 40) rfl w1.heap.size _ 0 (fun _ => 0) rfl (BRow.none _ _) (some ⟨g, o + q, none⟩) m (c - q) _ rfl SC.out (by omega) (Nat.le_refl _) ?_))
    intro v2 w2 R2 r2 l2 b2
    obtain ⟨a2, c2, rfl, s2⟩ := BRow.toSl r2
    have B2 := Lib.hid (B1.out.trans (b2.mono B1.out.size))
    have R2r := Lib.hid r2
    have S2 := Lib.hid s2
    have lB := Lib.hid b2
    have L2 : Hid (ents R2 m = C) := Lib.hid (by rw [HC.out]; first | exact l2 | simpa [ents] using l2)
    have HB3 := Lib.hid (ents_byte (R := R2) (k := m) (l := ents (fun i => B (q + i)) m) (by rw [← HC.out]; exact L2.out) (byte_ents HB1.out))
    have N1 := Lib.hid (fun w' hb => sum54 a2 m c2 R2 w' (S2.out.below hb) HB3.out)
    rw [L2.out, ← HSS.out] at N1
    have N2 := Lib.hid (fun w' => tail53 s hs w')
    rw [← HL.out] at N2
    have ST2 := Lib.hid (ST.out.below (b2.mono (Nat.le_refl _)))
    clear r2 l2 b2 s2 lB
    go_wp2_with fail
    (obtain ⟨ι, hne, Fw, fb, hF⟩ := grow_family w2); have hF : ∀ w', (vPlan w2 (openG2 l) (openS2 s r) [1, 2, 12] [] (fun _ => [])).D [] w' → ∃ i, w' = Fw i := hF
    (refine region_chainO (vPlan w2 (openG2 l) (openS2 s r) [1, 2, 12] [] (fun _ => [])) [] [] [0, 3, 4, 5, 6, 7, 8, 9, 10, 11, 1, 2, 12, 13] [] mixed (by kernel_rfl) (by kernel_rfl) (fun _ _ h => nomatch h) (vPlan_ok (openG2_below) (by simp)) (vPlan_start (trivial)) ?_; refine wpPure_nil ?_; simp only [List.map_cons, List.map_nil, Array.getD_eq_getD_getElem?, List.getElem?_toArray, List.getElem?_cons_zero, List.getElem?_cons_succ, Option.getD_some])
    (repeat (first | (refine wpChainO_skip rfl ?_; simp only [Act.put, List.setIfInBounds_toArray, List.set_cons_succ, List.set_cons_zero]) | (refine wpChainO_quiet hF rfl rfl rfl ?_; intro K hK; go_big_quiet_op; go_big_quiet_on) | (refine wpChainO_pure _ rfl rfl (fun w' _ => by go_simp; try rfl) ?_; simp only [Act.put, List.setIfInBounds_toArray, List.set_cons_succ, List.set_cons_zero])))
    refine wpChainO_vcall 54 #[.slice a2 m c2] rfl rfl (fun w' => by go_simp) (fun w' hb _ _ => (N1.out w' hb).mono ?_) ?_
    · rintro e w5 ⟨rfl, rfl⟩
      exact ⟨_, rfl, rfl, trivial, Below.refl _ _⟩
    rintro u1 hu1
    obtain rfl : u1 = .int .i64 (s : Int) := hu1
    simp only [Act.put, List.setIfInBounds_toArray, List.set_cons_succ, List.set_cons_zero]
    (repeat (first | (refine wpChainO_skip rfl ?_; simp only [Act.put, List.setIfInBounds_toArray, List.set_cons_succ, List.set_cons_zero]) | (refine wpChainO_quiet hF rfl rfl rfl ?_; intro K hK; go_big_quiet_op; go_big_quiet_on) | (refine wpChainO_pure _ rfl rfl (fun w' _ => by go_simp; try rfl) ?_; simp only [Act.put, List.setIfInBounds_toArray, List.set_cons_succ, List.set_cons_zero])))
    refine wpChainO_vcall 53 #[.int .i64 (s : Int)] rfl rfl (fun w' => by go_simp) (fun w' hb _ _ => (N2.out w').mono ?_) ?_
    · rintro e w5 ⟨u, k, R, rfl, hl, hrow, hb5⟩
      have hsl := SlY.of hrow hl
      obtain ⟨ao, k, c, R', e, _⟩ := id hsl
      exact ⟨u, rfl, ⟨ao, k, c, e⟩, hsl, hb5⟩
    rintro u2 ⟨ao1, k1, c1, rfl⟩
    simp only [Act.put, List.setIfInBounds_toArray, List.set_cons_succ, List.set_cons_zero]
    (repeat (first | (refine wpChainO_skip rfl ?_; simp only [Act.put, List.setIfInBounds_toArray, List.set_cons_succ, List.set_cons_zero]) | (refine wpChainO_quiet hF rfl rfl rfl ?_; intro K hK; go_big_quiet_op; go_big_quiet_on) | (refine wpChainO_pure _ rfl rfl (fun w' _ => by go_simp; try rfl) ?_; simp only [Act.put, List.setIfInBounds_toArray, List.set_cons_succ, List.set_cons_zero])))
    refine wpChainO_vcall 59 #[.slice ao1 k1 c1, .slice (some ⟨g, o + (q + m), none⟩) 4 (c - (q + m))] rfl rfl (fun w' => by go_simp; try simp only [e2]) (fun w' hb hg _ => ?_) ?_
    · obtain ⟨ao, k, c, R, e, hs, hl⟩ := hg
      cases e
      refine (same59 _ _ _ R _ _ _ _ w' hs (ST2.out.below hb) (fun i hi => HLB.out _ (by rw [← hl]; exact mem_ents.2 ⟨i, hi, rfl⟩)) HB2.out).mono ?_
      rintro e w5 ⟨rfl, hb5⟩
      rw [hl, ← HR.out]
      exact ⟨_, rfl, rfl, trivial, hb5⟩
    rintro u3 hu3
    obtain rfl : u3 = .bool r := hu3
    simp only [Act.put, List.setIfInBounds_toArray, List.set_cons_succ, List.set_cons_zero]
    (repeat (first | (refine wpChainO_skip rfl ?_; simp only [Act.put, List.setIfInBounds_toArray, List.set_cons_succ, List.set_cons_zero]) | (refine wpChainO_quiet hF rfl rfl rfl ?_; intro K hK; go_big_quiet_op; go_big_quiet_on) | (refine wpChainO_pure _ rfl rfl (fun w' _ => by go_simp; try rfl) ?_; simp only [Act.put, List.setIfInBounds_toArray, List.set_cons_succ, List.set_cons_zero])))
    refine wpChainO_nil (fun w8 hb8 hl8 => ?_)
    have B8 : Hid (Below w2.heap.size w2 w8) := Lib.hid hb8.1
    clear hb8 hl8 hF fb hne N1 N2
    refine onlyN_intro ?_
    have b18 := Lib.hid (B2.out.trans (B8.out.mono B2.out.size))
    cases r with
    | false =>
      have EO' := Lib.hid (EO.out.trans (if_neg (fun e => of_decide_eq_false HR.out.symm e.symm)))
      clear EO HR
      go_wp2_with fail
      go_returns
      rw [EO'.out]
      exact BytesO.err 13 b18.out
    | true =>
      have EO' := Lib.hid (EO.out.trans (if_pos (of_decide_eq_true HR.out.symm).symm))
      clear EO HR
      go_wp2_with fail
      go_returns
      rw [EO'.out]
      exact ⟨_, m, R2, rfl, L2.out, Row.base_mono (BRow.below R2r.out B8.out) B1.out.size, b18.out⟩
  · rw [openE_1 HI.out he]
    have he' : (er == 0) = false := by simpa using he
    go_enter Try.func40, Try.ntmps40
    go_wp2_with fail
    refine CI.out.mono ?_
    rintro e w1 ⟨rfl, b1⟩
    have B1 := Lib.hid b1
    clear CI b1
    go_wp2_with fail
    go_returns
    exact BytesO.err er B1.out
end Go.Proofs.Ytlnfhlmgnppcbaa
