/- The law JournalOne. -/
import Derived.Test.YtlnfhlmgnppcbaaAWJ
import Derived.BigQuiet
namespace Go.Proofs.Ytlnfhlmgnppcbaa
open Go.RowKit Go.ChangeShapes Go.WideShapes Go.Deep
set_option linter.unusedVariables false
set_option linter.unusedSimpArgs false
theorem write_read {L : List Nat} (hb : ∀ x ∈ L, x < 256) : ∃ q : Nat, (readE L).2 = (q : Int) ∧ q ≤ L.length ∧ writeE (readE L).1 = (L.take q, 0) ∧ (readE L).1.length ≤ 512 ∧ repairE L = (L.take q, (L.length : Int) - (q : Int)) := by
  obtain ⟨q, h1, h2, h3, h4, h5⟩ := readE_form hb
  refine ⟨q, h1, h2, ?_, h5, ?_⟩
  · have ha : (readE L).1.all framedB = true := List.all_eq_true.2 h4
    unfold writeE
    rw [if_neg (by rw [ha]; simp), if_neg (by omega), h3]
  · unfold repairE
    rw [h1, Int.toNat_natCast]
set_option maxRecDepth 4000 in
set_option maxHeartbeats 4000000 in
theorem run_journalOne {H : Type} {enc : TypeId × Value → H} (W : World) (base : Nat) (v0 : Value) (d0 : DataW H) (p0 : List MemPlace) (hv0 : Value.okWide Try.prog W .any base 22 v0) (h0 : DataW.Trod enc Try.prog W 0 (fun _ => true) true 22 v0 d0 p0) :
    Calls Try.prog 7 #[v0] W fun e w' => e = .returned (.bool true) ∧ Below W.heap.size W w' := by
  obtain ⟨ao, n, c, B, rfl, hs, hB⟩ := open_bytes hv0 h0
  clear hv0 h0
  have AW := Lib.hid (fun w' => awake12 w')
  have hmc := hs.hm
  have hcc := hs.hc
  by_cases hn : 4000 < n
  · have tn : (4000 : Int) < (n : Int) := by omega
    go_enter Try.func7, Try.ntmps7
    go_wp2_with fail
    refine (AW.out _).mono ?_
    rintro e w1 ⟨rfl, b1⟩
    have B1 := Lib.hid b1
    clear b1
    go_wp2_with fail
    go_returns
    exact ⟨rfl, B1.out⟩
  · have tn : (n : Int) ≤ 4000 := by omega
    obtain ⟨q, hq1, hq, hw, hlen, hrp⟩ := write_read (byte_ents hB)
    obtain ⟨⟨l, x⟩, hR⟩ : ∃ X, readE (ents B n) = X := ⟨_, rfl⟩
    rw [hR] at hq1 hw hlen
    dsimp only at hq1 hw hlen
    subst hq1
    rw [ents_len] at hq hrp
    have HW := Lib.hid hw
    have HRP := Lib.hid hrp
    have HS := Lib.hid hs
    have HB := Lib.hid hB
    clear hw hrp hs hB
    cases ao with
    | none =>
      obtain ⟨rfl, rfl⟩ := HS.out.hno rfl
      obtain rfl : q = 0 := by omega
      have N1 := Lib.hid (read17 none 0 0 B W HS.out HB.out (by omega))
      have N3 := Lib.hid (fun w' (hb : Below W.heap.size W w') => repair19 none 0 0 B w' (HS.out.below hb) HB.out (by omega))
      rw [hR] at N1
      rw [HRP.out] at N3
      dsimp only at N1 N3
      have tq1 : (0 : Int) ≤ ((0 : Nat) : Int) := by omega
      have tq2 : ((0 : Nat) : Int) ≤ ((0 : Nat) : Int) := by omega
      have tq3 : ((0 : Nat) : Int) ≤ ((0 : Nat) : Int) := by omega
      have e0 : 0 - 0 = 0 := by omega
      have SQ := Lib.hid (HS.out.cut hq)
      have LQ : Hid ((ents B 0).take 0 = ents B 0) := Lib.hid (ents_cut hq)
      go_enter Try.func7, Try.ntmps7
      go_wp2_with fail
      refine N1.out.mono ?_
      rintro e w1 ⟨u1, k1, E1, rfl, l1, r1, b1⟩
      obtain ⟨a1, c1, rfl, s1⟩ := EvRow.toSl r1
      have hk1 : k1 ≤ 512 := by have := congrArg List.length l1; rw [ents_len] at this; omega
      have N2 := write15 a1 k1 c1 E1 w1 s1 (by omega)
      rw [l1, HW.out] at N2
      replace N2 := Lib.hid N2
      have B1 := Lib.hid b1
      dsimp only at N2
      clear N1 r1 b1 s1 l1
      go_wp2_with fail
      refine N2.out.mono ?_
      rintro e w2 ⟨u2, k2, R2, rfl, l2, r2, b2⟩
      obtain ⟨a2, c2, rfl, s2⟩ := BRow.toSl r2
      have B2 := Lib.hid (B1.out.trans (b2.mono B1.out.size))
      have S2 := Lib.hid s2
      have L2 := Lib.hid l2
      clear N2 r2 b2 s2 l2
      go_wp2_with fail
      refine (N3.out _ B2.out).mono ?_
      rintro e w3 ⟨u3, k3, R3, rfl, l3, r3, b3⟩
      obtain ⟨a3, c3, rfl, s3⟩ := BRow.toSl r3
      have B3 := Lib.hid (B2.out.trans (b3.mono B2.out.size))
      have S2 := Lib.hid (S2.out.below b3)
      have S3 := Lib.hid s3
      have SQ3 := Lib.hid (SQ.out.below B3.out)
      have L3 := Lib.hid l3
      clear N3 r3 b3 s3 l3 SQ HS
      have te : (((0 : Nat) : Int) - ((0 : Nat) : Int) == ((0 : Nat) : Int) - ((0 : Nat) : Int)) = true := by simp
      go_wp2_with fail
      (obtain ⟨ι, hne, Fw, fb, hF⟩ := grow_family w3); have hF : ∀ w', (gPlan w3 (fun _ => .bool true) [27] [] []).D () w' → ∃ i, w' = Fw i := hF
      have q1 := fun i => convB (S2.out.below (fb i))
      have q2 := fun i => convB (SQ3.out.below (fb i))
      have q3 := fun i => convB (S3.out.below (fb i))
      rw [L2.out, LQ.out] at q1
      rw [L3.out, LQ.out] at q3
      have EQ : ((strB (ents B 0)).toList == (strB (ents B 0)).toList) = true := by simp
      generalize strB (ents B 0) = s at *
      (refine region_chain (gPlan w3 (fun _ => .bool true) [27] [] []) () [] [0, 1, 2, 3, 4, 5, 6, 7, 8, 9, 10, 11, 12, 13, 14, 15, 16, 17, 18, 19, 20, 21, 22, 23, 24, 25, 26, 27, 28, 29] [] mixed (by kernel_rfl) (by kernel_rfl) (gPlan_ok (by simp) (by simp)) (gPlan_start _ _ _ _ _) ?_; refine wpPure_nil ?_; simp only [List.map_cons, List.map_nil, Array.getD_eq_getD_getElem?, List.getElem?_toArray, List.getElem?_cons_zero, List.getElem?_cons_succ, Option.getD_some])
      (repeat (first | (refine wpChain_skip rfl ?_; simp only [Act.put, List.setIfInBounds_toArray, List.set_cons_succ, List.set_cons_zero]) | (refine wpChain_quiet hF rfl rfl rfl ?_; intro K hK; go_big_quiet_op; go_big_quiet_on) | (refine wpChain_pure _ rfl rfl (fun w' _ => by go_simp; try rfl) ?_; simp only [Act.put, List.setIfInBounds_toArray, List.set_cons_succ, List.set_cons_zero])))
      refine wpChain_gcall 12 #[] rfl rfl (fun w' => by go_simp) (fun w' hb => (AW.out w').mono ?_) ?_
      · rintro e w5 ⟨rfl, hb5⟩
        exact ⟨rfl, hb5⟩
      simp only [Act.put, List.setIfInBounds_toArray, List.set_cons_succ, List.set_cons_zero]
      (repeat (first | (refine wpChain_skip rfl ?_; simp only [Act.put, List.setIfInBounds_toArray, List.set_cons_succ, List.set_cons_zero]) | (refine wpChain_quiet hF rfl rfl rfl ?_; intro K hK; go_big_quiet_op; go_big_quiet_on) | (refine wpChain_pure _ rfl rfl (fun w' _ => by go_simp; try rfl) ?_; simp only [Act.put, List.setIfInBounds_toArray, List.set_cons_succ, List.set_cons_zero])))
      refine wpChain_nil (fun w8 hb8 hl8 => ?_)
      have B8 : Hid (Below w3.heap.size w3 w8) := Lib.hid hb8
      clear hb8 hl8 hF fb hne q1 q2 q3
      refine onlyN_intro ?_
      go_wp2_with fail
      go_returns
      exact ⟨rfl, B3.out.trans (B8.out.mono B3.out.size)⟩
    | some ad =>
      have N1 := Lib.hid (read17 (some ad) n c B W HS.out HB.out (by omega))
      have N3 := Lib.hid (fun w' (hb : Below W.heap.size W w') => repair19 (some ad) n c B w' (HS.out.below hb) HB.out (by omega))
      rw [hR] at N1
      rw [HRP.out] at N3
      dsimp only at N1 N3
      have tq1 : (0 : Int) ≤ ((q : Nat) : Int) := by omega
      have tq2 : ((q : Nat) : Int) ≤ ((n : Nat) : Int) := by omega
      have tq3 : ((q : Nat) : Int) ≤ ((c : Nat) : Int) := by omega
      have e0 : q - 0 = q := by omega
      have SQ := Lib.hid (HS.out.cut hq)
      have LQ : Hid ((ents B n).take q = ents B q) := Lib.hid (ents_cut hq)
      go_enter Try.func7, Try.ntmps7
      go_wp2_with fail
      refine N1.out.mono ?_
      rintro e w1 ⟨u1, k1, E1, rfl, l1, r1, b1⟩
      obtain ⟨a1, c1, rfl, s1⟩ := EvRow.toSl r1
      have hk1 : k1 ≤ 512 := by have := congrArg List.length l1; rw [ents_len] at this; omega
      have N2 := write15 a1 k1 c1 E1 w1 s1 (by omega)
      rw [l1, HW.out] at N2
      replace N2 := Lib.hid N2
      have B1 := Lib.hid b1
      dsimp only at N2
      clear N1 r1 b1 s1 l1
      go_wp2_with fail
      refine N2.out.mono ?_
      rintro e w2 ⟨u2, k2, R2, rfl, l2, r2, b2⟩
      obtain ⟨a2, c2, rfl, s2⟩ := BRow.toSl r2
      have B2 := Lib.hid (B1.out.trans (b2.mono B1.out.size))
      have S2 := Lib.hid s2
      have L2 := Lib.hid l2
      clear N2 r2 b2 s2 l2
      go_wp2_with fail
      refine (N3.out _ B2.out).mono ?_
      rintro e w3 ⟨u3, k3, R3, rfl, l3, r3, b3⟩
      obtain ⟨a3, c3, rfl, s3⟩ := BRow.toSl r3
      have B3 := Lib.hid (B2.out.trans (b3.mono B2.out.size))
      have S2 := Lib.hid (S2.out.below b3)
      have S3 := Lib.hid s3
      have SQ3 := Lib.hid (SQ.out.below B3.out)
      have L3 := Lib.hid l3
      clear N3 r3 b3 s3 l3 SQ HS
      have te : (((n : Nat) : Int) - ((q : Nat) : Int) == ((n : Nat) : Int) - ((q : Nat) : Int)) = true := by simp
      go_wp2_with fail
      (obtain ⟨ι, hne, Fw, fb, hF⟩ := grow_family w3); have hF : ∀ w', (gPlan w3 (fun _ => .bool true) [27] [] []).D () w' → ∃ i, w' = Fw i := hF
      have q1 := fun i => convB (S2.out.below (fb i))
      have q2 := fun i => convB (SQ3.out.below (fb i))
      have q3 := fun i => convB (S3.out.below (fb i))
      rw [L2.out, LQ.out] at q1
      rw [L3.out, LQ.out] at q3
      have EQ : ((strB (ents B q)).toList == (strB (ents B q)).toList) = true := by simp
      generalize strB (ents B q) = s at *
      (refine region_chain (gPlan w3 (fun _ => .bool true) [27] [] []) () [] [0, 1, 2, 3, 4, 5, 6, 7, 8, 9, 10, 11, 12, 13, 14, 15, 16, 17, 18, 19, 20, 21, 22, 23, 24, 25, 26, 27, 28, 29] [] mixed (by kernel_rfl) (by kernel_rfl) (gPlan_ok (by simp) (by simp)) (gPlan_start _ _ _ _ _) ?_; refine wpPure_nil ?_; simp only [List.map_cons, List.map_nil, Array.getD_eq_getD_getElem?, List.getElem?_toArray, List.getElem?_cons_zero, List.getElem?_cons_succ, Option.getD_some])
      (repeat (first | (refine wpChain_skip rfl ?_; simp only [Act.put, List.setIfInBounds_toArray, List.set_cons_succ, List.set_cons_zero]) | (refine wpChain_quiet hF rfl rfl rfl ?_; intro K hK; go_big_quiet_op; go_big_quiet_on) | (refine wpChain_pure _ rfl rfl (fun w' _ => by go_simp; try rfl) ?_; simp only [Act.put, List.setIfInBounds_toArray, List.set_cons_succ, List.set_cons_zero])))
      refine wpChain_gcall 12 #[] rfl rfl (fun w' => by go_simp) (fun w' hb => (AW.out w').mono ?_) ?_
      · rintro e w5 ⟨rfl, hb5⟩
        exact ⟨rfl, hb5⟩
      simp only [Act.put, List.setIfInBounds_toArray, List.set_cons_succ, List.set_cons_zero]
      (repeat (first | (refine wpChain_skip rfl ?_; simp only [Act.put, List.setIfInBounds_toArray, List.set_cons_succ, List.set_cons_zero]) | (refine wpChain_quiet hF rfl rfl rfl ?_; intro K hK; go_big_quiet_op; go_big_quiet_on) | (refine wpChain_pure _ rfl rfl (fun w' _ => by go_simp; try rfl) ?_; simp only [Act.put, List.setIfInBounds_toArray, List.set_cons_succ, List.set_cons_zero])))
      refine wpChain_nil (fun w8 hb8 hl8 => ?_)
      have B8 : Hid (Below w3.heap.size w3 w8) := Lib.hid hb8
      clear hb8 hl8 hF fb hne q1 q2 q3
      refine onlyN_intro ?_
      go_wp2_with fail
      go_returns
      exact ⟨rfl, B3.out.trans (B8.out.mono B3.out.size)⟩
end Go.Proofs.Ytlnfhlmgnppcbaa
