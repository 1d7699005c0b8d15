/- The law EventKnows. -/
import Derived.Test.YtmhnkfcbbjbpfaaAW2
import Derived.Test.YtmhnkfcbbjbpfaaBB
namespace Go.Proofs.Ytmhnkfcbbjbpfaa
open Go.RowKit Go.ChangeShapes Go.WideShapes Go.Deep
set_option linter.unusedVariables false
set_option linter.unusedSimpArgs false
/-! Fewer synchronizations know less exactly. -/
theorem bLo_le {L : Nat → Sy} {p t M : Int} (h0 : 0 ≤ M) : ∀ n, (∀ i, i < n → alLo (L i) p t ≤ M) → bLo L p t n ≤ M
  | 0, _ => h0
  | n + 1, h => by rw [bLo_succ]; exact Int.max_le.2 ⟨bLo_le h0 n (fun i hi => h i (by omega)), h n (by omega)⟩
theorem bHi_ge {L : Nat → Sy} {p t M : Int} (h0 : M ≤ 4294943999) : ∀ n, (∀ i, i < n → M ≤ alHi (L i) p t) → M ≤ bHi L p t n
  | 0, _ => h0
  | n + 1, h => by rw [bHi_succ]; exact Int.le_min.2 ⟨bHi_ge h0 n (fun i hi => h i (by omega)), h n (by omega)⟩
theorem bLo_at (L : Nat → Sy) (p t : Int) : ∀ n, 0 ≤ bLo L p t n ∧ ∀ i, i < n → alLo (L i) p t ≤ bLo L p t n
  | 0 => ⟨Int.le_refl _, fun i hi => absurd hi (by omega)⟩
  | n + 1 => by
    obtain ⟨h1, h2⟩ := bLo_at L p t n
    rw [bLo_succ]
    refine ⟨by omega, fun i hi => ?_⟩
    by_cases e : i = n
    · subst e; exact Int.le_max_right _ _
    · have := h2 i (by omega); omega
theorem bHi_at (L : Nat → Sy) (p t : Int) : ∀ n, bHi L p t n ≤ 4294943999 ∧ ∀ i, i < n → bHi L p t n ≤ alHi (L i) p t
  | 0 => ⟨Int.le_refl _, fun i hi => absurd hi (by omega)⟩
  | n + 1 => by
    obtain ⟨h1, h2⟩ := bHi_at L p t n
    rw [bHi_succ]
    refine ⟨by omega, fun i hi => ?_⟩
    by_cases e : i = n
    · subst e; exact Int.min_le_right _ _
    · have := h2 i (by omega); omega
/-- The list without one. -/
def lessL (L : Nat → Sy) (wo : Nat) : Nat → Sy := fun i => if i < wo then L i else L (i + 1)
theorem less_wider (L : Nat → Sy) (p t : Int) {n wo : Nat} (hw : wo < n) : bLo (lessL L wo) p t (n - 1) ≤ bLo L p t n ∧ bHi L p t n ≤ bHi (lessL L wo) p t (n - 1) := by
  obtain ⟨a1, a2⟩ := bLo_at L p t n
  obtain ⟨b1, b2⟩ := bHi_at L p t n
  constructor
  · refine bLo_le a1 _ (fun i hi => ?_)
    unfold lessL
    split
    · exact a2 i (by omega)
    · exact a2 (i + 1) (by omega)
  · refine bHi_ge b1 _ (fun i hi => ?_)
    unfold lessL
    split
    · exact b2 i (by omega)
    · exact b2 (i + 1) (by omega)
theorem bdR_ok {n : Nat} {L : Nat → Sy} {p t : Int} (h : (bdR n L p t).2.2 = 0) : bdR n L p t = (bLo L p t n, bHi L p t n, 0) ∧ bLo L p t n ≤ bHi L p t n := by
  unfold bdR at h ⊢
  split at h
  · rename_i h1; exact absurd h h1
  · rename_i h1
    split at h
    · cases h
    · rename_i h2
      split at h
      · cases h
      · rename_i h3
        rw [if_neg h1, if_neg h2, if_neg h3]
        exact ⟨rfl, by omega⟩
theorem rep_bad {dev bike : Int} {r : Rp} {n : Nat} {L : Nat → Sy} {ppm : Int} (h : (repE dev bike r n L ppm).2 ≠ 0) : (repE dev bike r n L ppm).1 = zeroE := by
  unfold repE at h ⊢
  split
  · rfl
  · split
    · rfl
    · split
      · rfl
      · rename_i h1 h2 h3
        rw [if_neg h1, if_neg h2, if_neg h3] at h
        exact absurd rfl h
theorem rep_good {dev bike : Int} {r : Rp} {n : Nat} {L : Nat → Sy} {ppm : Int} (h : (repE dev bike r n L ppm).2 = 0) :
    (repE dev bike r n L ppm).1.at' = bLo L ppm r.loc n ∧ (repE dev bike r n L ppm).1.late = bHi L ppm r.loc n ∧ bLo L ppm r.loc n ≤ bHi L ppm r.loc n := by
  unfold repE at h ⊢
  split
  · rename_i h1
    rw [if_pos h1] at h
    exact absurd h h1
  · rename_i h1
    rw [if_neg h1] at h
    split
    · rename_i h2; rw [if_pos h2] at h; cases h
    · rename_i h2
      rw [if_neg h2] at h
      split
      · rename_i h3; rw [if_pos h3] at h; cases h
      · obtain ⟨e1, e2⟩ := bdR_ok (Decidable.not_not.1 h1)
        rw [e1]
        exact ⟨rfl, rfl, e2⟩
theorem infoSy : (Try.prog.info? 52).map (fun i => (i.zero, i.size, i.bytes)) = some (some (.agg #[.int .i64 0, .int .i64 0, .int .i64 0]), 3, 24) := by kernel_rfl
theorem syf_len (L : Nat → Sy) (i : Nat) : (syf L i).length = 3 := rfl
theorem syf_one (L : Nat → Sy) (i : Nat) : ∀ u ∈ syf L i, u.oneCell' = true := by
  intro u hu
  simp [syf] at hu
  rcases hu with rfl | rfl | rfl <;> rfl
theorem cat_syf (L : Nat → Sy) (wo j : Nat) : cat (syf (lessL L wo)) wo (fun i => syf L (wo + 1 + i)) j = syf (lessL L wo) j := by
  unfold cat
  by_cases h : j < wo
  · rw [if_pos h]
  · rw [if_neg h]
    unfold syf lessL
    simp only [h, if_false, show wo + 1 + (j - wo) = j + 1 by omega]
theorem SlE.tail {w : World} {g o n : Nat} {L : Nat → Sy} (h : SlE w 3 (some ⟨g, o, none⟩) n (syf L)) (wo : Nat) : SlE w 3 (some ⟨g, o + (wo + 1) * 3, none⟩) (n - (wo + 1)) (fun i => syf L (wo + 1 + i)) := SlE.drop h (wo + 1)
set_option maxRecDepth 4000 in
set_option maxHeartbeats 8000000 in
theorem run_eventKnows {H : Type} {enc : TypeId × Value → H} (W : World) (base : Nat) (v0 : Value) (d0 : DataW H) (p0 : List MemPlace) (hv0 : Value.okWide Try.prog W .any base 3 v0) (h0 : DataW.Trod enc Try.prog W 0 (fun _ => true) true 3 v0 d0 p0)
    (v1 : Value) (d1 : DataW H) (p1 : List MemPlace) (hv1 : Value.okWide Try.prog W .any base 3 v1) (h1 : DataW.Trod enc Try.prog W 0 (fun _ => true) true 3 v1 d1 p1)
    (v2 : Value) (d2 : DataW H) (p2 : List MemPlace) (hv2 : Value.okWide Try.prog W .any base 46 v2) (h2 : DataW.Trod enc Try.prog W 0 (fun _ => true) true 46 v2 d2 p2)
    (v3 : Value) (d3 : DataW H) (p3 : List MemPlace) (hv3 : Value.okWide Try.prog W .any base 47 v3) (h3 : DataW.Trod enc Try.prog W 0 (fun _ => true) true 47 v3 d3 p3)
    (v4 : Value) (d4 : DataW H) (p4 : List MemPlace) (hv4 : Value.okWide Try.prog W .any base 3 v4) (h4 : DataW.Trod enc Try.prog W 0 (fun _ => true) true 3 v4 d4 p4)
    (v5 : Value) (d5 : DataW H) (p5 : List MemPlace) (hv5 : Value.okWide Try.prog W .any base 3 v5) (h5 : DataW.Trod enc Try.prog W 0 (fun _ => true) true 3 v5 d5 p5) :
    Calls Try.prog 12 #[v0, v1, v2, v3, v4, v5] W fun e w' => e = .returned (.bool true) ∧ Below W.heap.size W w' := by
  obtain ⟨dev, rfl, rfl, rfl, _⟩ := open_int Try.underlying3 hv0 h0
  obtain ⟨bike, rfl, rfl, rfl, _⟩ := open_int Try.underlying3 hv1 h1
  obtain ⟨rp, rfl⟩ := open_report hv2 h2
  obtain ⟨ao, n, c, L, rfl, hs⟩ := open_syncs hv3 h3
  obtain ⟨ppm, rfl, rfl, rfl, _⟩ := open_int Try.underlying3 hv4 h4
  obtain ⟨wi, rfl, rfl, rfl, hwi⟩ := open_int Try.underlying3 hv5 h5
  clear hv0 h0 hv1 h1 hv2 h2 hv3 h3 hv4 h4 hv5 h5
  obtain ⟨i0, hi, hz0, hz1, hz2⟩ := info_parts infoSy
  obtain ⟨wi1, wi2⟩ := bounds_i64 hwi
  have AW := Lib.hid (fun w' => awake14 w')
  have hmc := hs.hm
  have hcc := hs.hc
  have HS := Lib.hid hs
  have HQ := Lib.hid (SySl.of hs)
  clear hs hwi
  have X0 := Lib.hid (heap_alloc_new W (.cells (rC rp) 46))
  have B0 : Hid (Below W.heap.size W (W.alloc (.cells (rC rp) 46))) := Lib.hid (by (repeat' (first | (with_reducible exact Below.refl _ _) | (with_reducible assumption) | (with_reducible refine Below.drew ?_) | (with_reducible refine below_drewN ?_ _) | (with_reducible refine Below.alloc ?_ ?_ _) | (with_reducible refine Below.setCell ?_ ?_ _) | go_size)))
  have R1 := Lib.hid (fun w' (hb : Below W.heap.size W w') => report30 dev bike rp ao n c L ppm w' hmc hcc (HQ.out.kept hb))
  have R2 := Lib.hid (fun (L' : Nat → Sy) (a' : Option Addr) (m' c' : Nat) (w' : World) (h1 : m' ≤ c') (h2 : c' ≤ 9223372036854775807) (hb : SySl w' a' m' L') => report30 dev bike rp a' m' c' L' ppm w' h1 h2 hb)
  have G1 := Lib.hid (@rep_good dev bike rp n L ppm)
  have G2 := Lib.hid (fun (L' : Nat → Sy) (m' : Nat) => @rep_good dev bike rp m' L' ppm)
  have E1 := Lib.hid (@rep_bad dev bike rp n L ppm)
  have E2 := Lib.hid (fun (L' : Nat → Sy) (m' : Nat) => @rep_bad dev bike rp m' L' ppm)
  obtain ⟨r1, r2, r3, r4, r5, r6⟩ := rp
  unfold rC at *
  dsimp only at X0 B0 R1 R2 G1 G2 ⊢
  obtain ⟨wb, hwb⟩ : ∃ wb, wb = W.alloc (.cells #[.int .i64 r1, .int .i64 r2, .int .i64 r3, .int .i64 r4, .int .i64 r5, .int .i64 r6] 46) := ⟨_, rfl⟩
  rw [← hwb] at X0 B0
  have HW := Lib.hid hwb
  clear hwb
  by_cases hbad : 20 < n ∨ wi < 0 ∨ (n : Int) ≤ wi
  · have hway : (decide ((20 : Int) < (n : Int)) = true) ∨ (decide ((20 : Int) < (n : Int)) = false ∧ decide (wi < 0) = true) ∨ (decide ((20 : Int) < (n : Int)) = false ∧ decide (wi < 0) = false ∧ decide ((n : Int) ≤ wi) = true) := by
      simp only [decide_eq_true_eq, decide_eq_false_iff_not]
      omega
    clear hbad R1 R2 G1 G2 E1 E2
    rcases hway with t1 | ⟨t1, t2⟩ | ⟨t1, t2, t3⟩
    all_goals
      go_enter Try.func12, Try.ntmps12
      go_wp2_with fail
      rw [← HW.out]
      refine (AW.out _).mono ?_
      rintro e w1 ⟨rfl, b1⟩
      have B1 := Lib.hid (B0.out.trans (b1.mono B0.out.size))
      clear b1
      go_wp2_with fail
      go_returns
      exact ⟨rfl, B1.out⟩
  obtain ⟨wo, rfl⟩ := Int.eq_ofNat_of_zero_le (show 0 ≤ wi by omega)
  have hwo : wo < n := by omega
  have hn20 : n ≤ 20 := by omega
  have t1 : decide ((20 : Int) < (n : Int)) = false := decide_eq_false (by omega)
  have t2 : decide ((wo : Int) < 0) = false := decide_eq_false (by omega)
  have t3 : decide ((n : Int) ≤ (wo : Int)) = false := decide_eq_false (by omega)
  have LW := Lib.hid (less_wider L ppm r2 hwo)
  obtain ⟨g, o, rfl, _⟩ := HS.out.cell hwo
  clear hbad
  have ez := fun w' => (eqEv zeroE zeroE w').1
  rw [decide_eq_true rfl] at ez
  unfold eC zeroE at ez
  dsimp only at ez
  have EZ := Lib.hid ez
  clear ez
  go_enter Try.func12, Try.ntmps12
  go_wp2_with fail
  rw [← HW.out]
  refine (R1.out _ B0.out).mono ?_
  rintro e w1 ⟨rfl, b1⟩
  clear R1 HW
  have x1' := (b1.block _ (block_lt X0.out)).trans X0.out
  generalize repE dev bike ⟨r1, r2, r3, r4, r5, r6⟩ n L ppm = q at *
  obtain ⟨⟨x1, x2, x3, x4, x5, x6, x7, x8, x9⟩, er⟩ := q
  unfold evV eC
  dsimp only at G1 E1 ⊢
  go_wp2_with fail
  obtain ⟨w2, hw2⟩ : ∃ w2, w2 = w1.alloc (.cells #[.int .i64 x1, .int .i64 x2, .int .i64 x3, .int .i64 x4, .int .i64 x5, .int .i64 x6, .int .i64 x7, .int .i64 x8, .int .i64 x9] 26) := ⟨_, rfl⟩
  rw [← hw2]
  have b2 : Below w1.heap.size w1 w2 := by rw [hw2]; (repeat' (first | (with_reducible exact Below.refl _ _) | (with_reducible assumption) | (with_reducible refine Below.drew ?_) | (with_reducible refine below_drewN ?_ _) | (with_reducible refine Below.alloc ?_ ?_ _) | (with_reducible refine Below.setCell ?_ ?_ _) | go_size))
  have X2 : w2.heap[w1.heap.size]? = some (.cells #[.int .i64 x1, .int .i64 x2, .int .i64 x3, .int .i64 x4, .int .i64 x5, .int .i64 x6, .int .i64 x7, .int .i64 x8, .int .i64 x9] 26 (0, 0)) := by rw [hw2]; exact heap_alloc_new w1 _
  have b02 : Below wb.heap.size wb w2 := b1.trans (b2.mono b1.size)
  have RP2 := Lib.hid ((b02.block _ (block_lt X0.out)).trans X0.out)
  have XX2 := Lib.hid X2
  have B2 := Lib.hid (B0.out.trans (b02.mono B0.out.size))
  clear hw2 b1 b2 b02 X2 X0 x1'
  have SL2 : Hid (SlE w2 3 (some ⟨g, o, none⟩) n (syf L)) := Lib.hid ((HS.out.sl).below (syf_len L) B2.out)
  by_cases hcw : c = wo + 1
  · subst hcw
    obtain rfl : n = wo + 1 := by omega
    obtain ⟨ι, hne, Fw, fb, hF⟩ := grow_family w2
    refine region_chainO (rowPlan w2 52 3 (fun k => match k with | 0 => 0 | 1 => 0 | 2 => wo | _ => wo + 1 - 1) (fun _ => syf (lessL L wo)) [0, 4, 9] [] [] (fun _ => [])) (0, undef) [] [1, 2, 3, 5, 6, 7, 8, 0, 4, 9, 10] [] mixed (by kernel_rfl) (by kernel_rfl) (fun _ _ h => nomatch h) (rowPlan_ok (by simp) (by simp)) rowPlan_start ?_
    refine wpPure_nil ?_
    simp only [List.map_cons, List.map_nil, Array.getD_eq_getD_getElem?, List.getElem?_toArray, List.getElem?_cons_zero, List.getElem?_cons_succ, Option.getD_some]
    have hF : ∀ w', (rowPlan w2 52 3 (fun k => match k with | 0 => 0 | 1 => 0 | 2 => wo | _ => wo + 1 - 1) (fun _ => syf (lessL L wo)) [0, 4, 9] [] [] (fun _ => [])).D (0, undef) w' → ∃ i, w' = Fw i := hF
    (repeat (first | (refine wpChainO_skip rfl ?_; simp only [Act.put, List.setIfInBounds_toArray, List.set_cons_succ, List.set_cons_zero]) | (refine wpChainO_quiet hF rfl rfl rfl ?_; intro K hK; go_big_quiet_op; go_big_quiet_on) | (refine wpChainO_pure _ rfl rfl (fun w' _ => by go_simp; try rfl) ?_; simp only [Act.put, List.setIfInBounds_toArray, List.set_cons_succ, List.set_cons_zero])))
    refine wpChainO_main rfl rfl (rowPlan_make rfl (fun w' => by go_simp)) ?_
    rintro ⟨k1, u1⟩ ⟨hk1, a1, c1, hu1⟩
    dsimp only [rowPlan] at hk1 hu1
    subst hk1
    simp only [Nat.zero_add] at hu1
    subst hu1
    simp only [rowPlan_mval, Nat.zero_add, Act.put, List.setIfInBounds_toArray, List.set_cons_succ, List.set_cons_zero]
    refine wpChainO_main rfl rfl (rowPlan_append (ops := #[]) rfl rfl rfl (by show _ < 107; decide) rfl i0 _ 24 Try.underlying47 hi hz0 hz1 hz2 rfl (by decide) rfl (syf_len _) (some ⟨g, o, none⟩) wo (wo + 1) (syf L) rfl (syf_len _) (fun h => by cases h) (syf_one L) (fun w' hb _ => ((SL2.out.below (syf_len L) hb).cut (by omega))) (Nat.zero_add _).symm (fun j hj => ?_) ?_ ?_) ?_
    · have hj : j < 0 + wo := hj
      show cat _ 0 (syf L) j = syf (lessL L wo) j
      simp only [cat, Nat.not_lt_zero, if_false, Nat.sub_zero]
      unfold syf lessL
      simp [show j < wo by omega]
    · show (0 + wo) * 24 ≤ _; omega
    · show 0 + wo ≤ _; unfold maxLen; omega
    rintro ⟨k2, u2⟩ ⟨hk2, a2, c2, hu2⟩
    dsimp only [rowPlan] at hk2 hu2
    subst hk2
    simp only [Nat.zero_add] at hu2
    subst hu2
    simp only [rowPlan_mval, Nat.zero_add, Act.put, List.setIfInBounds_toArray, List.set_cons_succ, List.set_cons_zero]
    (repeat (first | (refine wpChainO_skip rfl ?_; simp only [Act.put, List.setIfInBounds_toArray, List.set_cons_succ, List.set_cons_zero]) | (refine wpChainO_quiet hF rfl rfl rfl ?_; intro K hK; go_big_quiet_op; go_big_quiet_on) | (refine wpChainO_pure _ rfl rfl (fun w' _ => by go_simp; try rfl) ?_; simp only [Act.put, List.setIfInBounds_toArray, List.set_cons_succ, List.set_cons_zero])))
    refine wpChainO_main rfl rfl (rowPlan_append (ops := #[]) rfl rfl rfl (by show _ < 107; decide) rfl i0 _ 24 Try.underlying47 hi hz0 hz1 hz2 rfl (by decide) rfl (syf_len _) (some ⟨g, o, none⟩) 0 0 (fun i => syf L (wo + 1 + i)) rfl (fun _ => rfl) (fun h => by cases h) (fun i => syf_one L _) (fun w' hb _ => (fun i hi => absurd hi (by omega))) ?_ (fun j hj => cat_syf L wo j) ?_ ?_) ?_
    · show wo + 1 - 1 = wo + 0; omega
    · show (wo + 0) * 24 ≤ _; omega
    · show wo + 0 ≤ _; unfold maxLen; omega
    rintro ⟨k3, u3⟩ ⟨hk3, a3, c3, hu3⟩
    dsimp only [rowPlan] at hk3 hu3
    subst hk3
    simp only [Nat.zero_add] at hu3
    subst hu3
    simp only [rowPlan_mval, Nat.zero_add, Act.put, List.setIfInBounds_toArray, List.set_cons_succ, List.set_cons_zero]
    (repeat (first | (refine wpChainO_skip rfl ?_; simp only [Act.put, List.setIfInBounds_toArray, List.set_cons_succ, List.set_cons_zero]) | (refine wpChainO_quiet hF rfl rfl rfl ?_; intro K hK; go_big_quiet_op; go_big_quiet_on) | (refine wpChainO_pure _ rfl rfl (fun w' _ => by go_simp; try rfl) ?_; simp only [Act.put, List.setIfInBounds_toArray, List.set_cons_succ, List.set_cons_zero])))
    refine wpChainO_nil (fun w3 hk3 hl3 => ?_)
    have b3 : Below w2.heap.size w2 w3 := hk3.1
    have row3 : Row w3 w2.heap.size 52 3 (.slice a3 (wo + 1 - 1) c3) (wo + 1 - 1) (syf (lessL L wo)) := hk3.2.2 (Nat.succ_ne_zero _)
    obtain ⟨a4, c4, e4, S3⟩ := Row.toSl row3 (syf_len _)
    cases e4
    have RP3 := (b3.block _ (block_lt RP2.out)).trans RP2.out
    have XX3 := (b3.block _ (block_lt XX2.out)).trans XX2.out
    have B3 := Lib.hid (B2.out.trans (b3.mono B2.out.size))
    have C2 := Lib.hid (R2.out (lessL L wo) a3 (wo + 1 - 1) c3 w3 S3.hm S3.hc (SySl.of S3))
    clear b3 row3 hk3 hl3 hF fb hne RP2 XX2 R2 hi hz0 hz1 hz2 S3 HS HQ SL2
    have G3 := Lib.hid (G2.out (lessL L wo) (wo + 1 - 1))
    have E3 := Lib.hid (E2.out (lessL L wo) (wo + 1 - 1))
    generalize repE dev bike ⟨r1, r2, r3, r4, r5, r6⟩ (wo + 1 - 1) (lessL L wo) ppm = q2 at *
    obtain ⟨⟨y1, y2, y3, y4, y5, y6, y7, y8, y9⟩, es⟩ := q2
    unfold evV eC at C2
    dsimp only at G3 E3 C2
    have zr := szs (block_lt RP3)
    have k0 := cell_at RP3 0
    have k1 := cell_at RP3 1
    have k2 := cell_at RP3 2
    have k3 := cell_at RP3 3
    have k4 := cell_at RP3 4
    have k5 := cell_at RP3 5
    replace XX3 := Lib.hid XX3
    clear RP3 G2 E2
    refine onlyN_intro ?_
    go_wp2_with fail
    refine C2.out.mono ?_
    rintro e w4 ⟨rfl, b4⟩
    have X4 := (b4.block _ (block_lt XX3.out)).trans XX3.out
    have B4 := Lib.hid (B3.out.trans (b4.mono B3.out.size))
    clear C2 zr k0 k1 k2 k3 k4 k5 b4 XX3
    have zx := szs (block_lt X4)
    have a0 := cell_at X4 0
    have a1 := cell_at X4 1
    have a2 := cell_at X4 2
    have a3 := cell_at X4 3
    have a4 := cell_at X4 4
    have a5 := cell_at X4 5
    have a6 := cell_at X4 6
    have a7 := cell_at X4 7
    have a8 := cell_at X4 8
    have B5 : Hid (Below W.heap.size W (w4.alloc (.cells #[.int .i64 y1, .int .i64 y2, .int .i64 y3, .int .i64 y4, .int .i64 y5, .int .i64 y6, .int .i64 y7, .int .i64 y8, .int .i64 y9] 26))) := Lib.hid (by have := B4.out; (have hszz := (this).size; (repeat' (first | (with_reducible exact Below.refl _ _) | (with_reducible assumption) | (with_reducible refine Below.drew ?_) | (with_reducible refine below_drewN ?_ _) | (with_reducible refine Below.alloc ?_ ?_ _) | (with_reducible refine Below.setCell ?_ ?_ _) | go_size))))
    clear X4
    by_cases h1 : er = 0
    · subst h1
      by_cases h2 : es = 0
      · subst h2
        obtain ⟨g1, g2, g3⟩ := G1.out rfl
        obtain ⟨g4, g5, g6⟩ := G3.out rfl
        obtain ⟨l1, l2⟩ := LW.out
        (try dsimp only at g1 g2 g3 g4 g5 g6)
        rw [← g1, ← g4] at l1
        rw [← g2, ← g5] at l2
        rw [← g1, ← g2] at g3
        have u1 : decide (y3 ≤ x3) = true := decide_eq_true l1
        have u2 : decide (x4 ≤ y4) = true := decide_eq_true l2
        have u3 : decide (x3 ≤ x4) = true := decide_eq_true g3
        clear G1 G3 E1 E3 LW g1 g2 g3 g4 g5 g6 l1 l2 EZ
        go_wp2_with fail
        refine (AW.out _).mono ?_
        rintro e w6 ⟨rfl, b6⟩
        have B6 := Lib.hid (B5.out.trans (b6.mono B5.out.size))
        clear b6
        go_wp2_with fail
        go_returns
        exact ⟨rfl, B6.out⟩
      · have hy := E3.out h2
        unfold zeroE at hy
        cases hy
        have u1 : (es != 0) = true := by simp; exact h2
        have u2 : (es == 0) = false := by simp; exact h2
        have ez := EZ.out
        clear G1 G3 E1 E3 LW EZ h2
        go_wp2_with fail
        refine (AW.out _).mono ?_
        rintro e w6 ⟨rfl, b6⟩
        have B6 := Lib.hid (B5.out.trans (b6.mono B5.out.size))
        clear b6
        go_wp2_with fail
        go_returns
        exact ⟨rfl, B6.out⟩
    · have hx := E1.out h1
      unfold zeroE at hx
      cases hx
      have u1 : (er != 0) = true := by simp; exact h1
      have u2 : (er == 0) = false := by simp; exact h1
      have ez := EZ.out
      by_cases h2 : es = 0
      · subst h2
        clear G1 G3 E1 E3 LW EZ h1
        go_wp2_with fail
        refine (AW.out _).mono ?_
        rintro e w6 ⟨rfl, b6⟩
        have B6 := Lib.hid (B5.out.trans (b6.mono B5.out.size))
        clear b6
        go_wp2_with fail
        go_returns
        exact ⟨rfl, B6.out⟩
      · have hy := E3.out h2
        unfold zeroE at hy
        cases hy
        have u3 : (es != 0) = true := by simp; exact h2
        have u4 : (es == 0) = false := by simp; exact h2
        clear G1 G3 E1 E3 LW EZ h1 h2
        go_wp2_with fail
        refine (AW.out _).mono ?_
        rintro e w6 ⟨rfl, b6⟩
        have B6 := Lib.hid (B5.out.trans (b6.mono B5.out.size))
        clear b6
        go_wp2_with fail
        go_returns
        exact ⟨rfl, B6.out⟩
  · have tcw : ¬ c = wo + 1 := hcw
    obtain ⟨ι, hne, Fw, fb, hF⟩ := grow_family w2
    refine region_chainO (rowPlan w2 52 3 (fun k => match k with | 0 => 0 | 1 => 0 | 2 => wo | _ => n - 1) (fun _ => syf (lessL L wo)) [0, 4, 9] [] [] (fun _ => [])) (0, undef) [] [1, 2, 3, 5, 6, 7, 8, 0, 4, 9, 10] [] mixed (by kernel_rfl) (by kernel_rfl) (fun _ _ h => nomatch h) (rowPlan_ok (by simp) (by simp)) rowPlan_start ?_
    refine wpPure_nil ?_
    simp only [List.map_cons, List.map_nil, Array.getD_eq_getD_getElem?, List.getElem?_toArray, List.getElem?_cons_zero, List.getElem?_cons_succ, Option.getD_some]
    have hF : ∀ w', (rowPlan w2 52 3 (fun k => match k with | 0 => 0 | 1 => 0 | 2 => wo | _ => n - 1) (fun _ => syf (lessL L wo)) [0, 4, 9] [] [] (fun _ => [])).D (0, undef) w' → ∃ i, w' = Fw i := hF
    (repeat (first | (refine wpChainO_skip rfl ?_; simp only [Act.put, List.setIfInBounds_toArray, List.set_cons_succ, List.set_cons_zero]) | (refine wpChainO_quiet hF rfl rfl rfl ?_; intro K hK; go_big_quiet_op; go_big_quiet_on) | (refine wpChainO_pure _ rfl rfl (fun w' _ => by go_simp; try rfl) ?_; simp only [Act.put, List.setIfInBounds_toArray, List.set_cons_succ, List.set_cons_zero])))
    refine wpChainO_main rfl rfl (rowPlan_make rfl (fun w' => by go_simp)) ?_
    rintro ⟨k1, u1⟩ ⟨hk1, a1, c1, hu1⟩
    dsimp only [rowPlan] at hk1 hu1
    subst hk1
    simp only [Nat.zero_add] at hu1
    subst hu1
    simp only [rowPlan_mval, Nat.zero_add, Act.put, List.setIfInBounds_toArray, List.set_cons_succ, List.set_cons_zero]
    refine wpChainO_main rfl rfl (rowPlan_append (ops := #[]) rfl rfl rfl (by show _ < 107; decide) rfl i0 _ 24 Try.underlying47 hi hz0 hz1 hz2 rfl (by decide) rfl (syf_len _) (some ⟨g, o, none⟩) wo c (syf L) rfl (syf_len _) (fun h => by cases h) (syf_one L) (fun w' hb _ => ((SL2.out.below (syf_len L) hb).cut (by omega))) (Nat.zero_add _).symm (fun j hj => ?_) ?_ ?_) ?_
    · have hj : j < 0 + wo := hj
      show cat _ 0 (syf L) j = syf (lessL L wo) j
      simp only [cat, Nat.not_lt_zero, if_false, Nat.sub_zero]
      unfold syf lessL
      simp [show j < wo by omega]
    · show (0 + wo) * 24 ≤ _; omega
    · show 0 + wo ≤ _; unfold maxLen; omega
    rintro ⟨k2, u2⟩ ⟨hk2, a2, c2, hu2⟩
    dsimp only [rowPlan] at hk2 hu2
    subst hk2
    simp only [Nat.zero_add] at hu2
    subst hu2
    simp only [rowPlan_mval, Nat.zero_add, Act.put, List.setIfInBounds_toArray, List.set_cons_succ, List.set_cons_zero]
    (repeat (first | (refine wpChainO_skip rfl ?_; simp only [Act.put, List.setIfInBounds_toArray, List.set_cons_succ, List.set_cons_zero]) | (refine wpChainO_quiet hF rfl rfl rfl ?_; intro K hK; go_big_quiet_op; go_big_quiet_on) | (refine wpChainO_pure _ rfl rfl (fun w' _ => by go_simp; try rfl) ?_; simp only [Act.put, List.setIfInBounds_toArray, List.set_cons_succ, List.set_cons_zero])))
    refine wpChainO_main rfl rfl (rowPlan_append (ops := #[]) rfl rfl rfl (by show _ < 107; decide) rfl i0 _ 24 Try.underlying47 hi hz0 hz1 hz2 rfl (by decide) rfl (syf_len _) (some ⟨g, o + (wo + 1) * 3, none⟩) (n - (wo + 1)) (c - (wo + 1)) (fun i => syf L (wo + 1 + i)) rfl (fun _ => rfl) (fun h => by cases h) (fun i => syf_one L _) (fun w' hb _ => ((SlE.tail SL2.out wo).below (fun _ => rfl) hb)) ?_ (fun j hj => cat_syf L wo j) ?_ ?_) ?_
    · show n - 1 = wo + (n - (wo + 1)); omega
    · show (wo + (n - (wo + 1))) * 24 ≤ _; omega
    · show wo + (n - (wo + 1)) ≤ _; unfold maxLen; omega
    rintro ⟨k3, u3⟩ ⟨hk3, a3, c3, hu3⟩
    dsimp only [rowPlan] at hk3 hu3
    subst hk3
    simp only [Nat.zero_add] at hu3
    subst hu3
    simp only [rowPlan_mval, Nat.zero_add, Act.put, List.setIfInBounds_toArray, List.set_cons_succ, List.set_cons_zero]
    (repeat (first | (refine wpChainO_skip rfl ?_; simp only [Act.put, List.setIfInBounds_toArray, List.set_cons_succ, List.set_cons_zero]) | (refine wpChainO_quiet hF rfl rfl rfl ?_; intro K hK; go_big_quiet_op; go_big_quiet_on) | (refine wpChainO_pure _ rfl rfl (fun w' _ => by go_simp; try rfl) ?_; simp only [Act.put, List.setIfInBounds_toArray, List.set_cons_succ, List.set_cons_zero])))
    refine wpChainO_nil (fun w3 hk3 hl3 => ?_)
    have b3 : Below w2.heap.size w2 w3 := hk3.1
    have row3 : Row w3 w2.heap.size 52 3 (.slice a3 (n - 1) c3) (n - 1) (syf (lessL L wo)) := hk3.2.2 (Nat.succ_ne_zero _)
    obtain ⟨a4, c4, e4, S3⟩ := Row.toSl row3 (syf_len _)
    cases e4
    have RP3 := (b3.block _ (block_lt RP2.out)).trans RP2.out
    have XX3 := (b3.block _ (block_lt XX2.out)).trans XX2.out
    have B3 := Lib.hid (B2.out.trans (b3.mono B2.out.size))
    have C2 := Lib.hid (R2.out (lessL L wo) a3 (n - 1) c3 w3 S3.hm S3.hc (SySl.of S3))
    clear b3 row3 hk3 hl3 hF fb hne RP2 XX2 R2 hi hz0 hz1 hz2 S3 HS HQ SL2
    have G3 := Lib.hid (G2.out (lessL L wo) (n - 1))
    have E3 := Lib.hid (E2.out (lessL L wo) (n - 1))
    generalize repE dev bike ⟨r1, r2, r3, r4, r5, r6⟩ (n - 1) (lessL L wo) ppm = q2 at *
    obtain ⟨⟨y1, y2, y3, y4, y5, y6, y7, y8, y9⟩, es⟩ := q2
    unfold evV eC at C2
    dsimp only at G3 E3 C2
    have zr := szs (block_lt RP3)
    have k0 := cell_at RP3 0
    have k1 := cell_at RP3 1
    have k2 := cell_at RP3 2
    have k3 := cell_at RP3 3
    have k4 := cell_at RP3 4
    have k5 := cell_at RP3 5
    replace XX3 := Lib.hid XX3
    clear RP3 G2 E2
    refine onlyN_intro ?_
    go_wp2_with fail
    refine C2.out.mono ?_
    rintro e w4 ⟨rfl, b4⟩
    have X4 := (b4.block _ (block_lt XX3.out)).trans XX3.out
    have B4 := Lib.hid (B3.out.trans (b4.mono B3.out.size))
    clear C2 zr k0 k1 k2 k3 k4 k5 b4 XX3
    have zx := szs (block_lt X4)
    have a0 := cell_at X4 0
    have a1 := cell_at X4 1
    have a2 := cell_at X4 2
    have a3 := cell_at X4 3
    have a4 := cell_at X4 4
    have a5 := cell_at X4 5
    have a6 := cell_at X4 6
    have a7 := cell_at X4 7
    have a8 := cell_at X4 8
    have B5 : Hid (Below W.heap.size W (w4.alloc (.cells #[.int .i64 y1, .int .i64 y2, .int .i64 y3, .int .i64 y4, .int .i64 y5, .int .i64 y6, .int .i64 y7, .int .i64 y8, .int .i64 y9] 26))) := Lib.hid (by have := B4.out; (have hszz := (this).size; (repeat' (first | (with_reducible exact Below.refl _ _) | (with_reducible assumption) | (with_reducible refine Below.drew ?_) | (with_reducible refine below_drewN ?_ _) | (with_reducible refine Below.alloc ?_ ?_ _) | (with_reducible refine Below.setCell ?_ ?_ _) | go_size))))
    clear X4
    by_cases h1 : er = 0
    · subst h1
      by_cases h2 : es = 0
      · subst h2
        obtain ⟨g1, g2, g3⟩ := G1.out rfl
        obtain ⟨g4, g5, g6⟩ := G3.out rfl
        obtain ⟨l1, l2⟩ := LW.out
        (try dsimp only at g1 g2 g3 g4 g5 g6)
        rw [← g1, ← g4] at l1
        rw [← g2, ← g5] at l2
        rw [← g1, ← g2] at g3
        have u1 : decide (y3 ≤ x3) = true := decide_eq_true l1
        have u2 : decide (x4 ≤ y4) = true := decide_eq_true l2
        have u3 : decide (x3 ≤ x4) = true := decide_eq_true g3
        clear G1 G3 E1 E3 LW g1 g2 g3 g4 g5 g6 l1 l2 EZ
        go_wp2_with fail
        refine (AW.out _).mono ?_
        rintro e w6 ⟨rfl, b6⟩
        have B6 := Lib.hid (B5.out.trans (b6.mono B5.out.size))
        clear b6
        go_wp2_with fail
        go_returns
        exact ⟨rfl, B6.out⟩
      · have hy := E3.out h2
        unfold zeroE at hy
        cases hy
        have u1 : (es != 0) = true := by simp; exact h2
        have u2 : (es == 0) = false := by simp; exact h2
        have ez := EZ.out
        clear G1 G3 E1 E3 LW EZ h2
        go_wp2_with fail
        refine (AW.out _).mono ?_
        rintro e w6 ⟨rfl, b6⟩
        have B6 := Lib.hid (B5.out.trans (b6.mono B5.out.size))
        clear b6
        go_wp2_with fail
        go_returns
        exact ⟨rfl, B6.out⟩
    · have hx := E1.out h1
      unfold zeroE at hx
      cases hx
      have u1 : (er != 0) = true := by simp; exact h1
      have u2 : (er == 0) = false := by simp; exact h1
      have ez := EZ.out
      by_cases h2 : es = 0
      · subst h2
        clear G1 G3 E1 E3 LW EZ h1
        go_wp2_with fail
        refine (AW.out _).mono ?_
        rintro e w6 ⟨rfl, b6⟩
        have B6 := Lib.hid (B5.out.trans (b6.mono B5.out.size))
        clear b6
        go_wp2_with fail
        go_returns
        exact ⟨rfl, B6.out⟩
      · have hy := E3.out h2
        unfold zeroE at hy
        cases hy
        have u3 : (es != 0) = true := by simp; exact h2
        have u4 : (es == 0) = false := by simp; exact h2
        clear G1 G3 E1 E3 LW EZ h1 h2
        go_wp2_with fail
        refine (AW.out _).mono ?_
        rintro e w6 ⟨rfl, b6⟩
        have B6 := Lib.hid (B5.out.trans (b6.mono B5.out.size))
        clear b6
        go_wp2_with fail
        go_returns
        exact ⟨rfl, B6.out⟩
end Go.Proofs.Ytmhnkfcbbjbpfaa
