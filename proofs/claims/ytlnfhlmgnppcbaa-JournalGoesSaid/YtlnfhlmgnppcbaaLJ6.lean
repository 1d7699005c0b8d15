/- The law JournalGoes. -/
import Derived.Test.YtlnfhlmgnppcbaaLJ5
namespace Go.Proofs.Ytlnfhlmgnppcbaa
open Go.RowKit Go.ChangeShapes Go.WideShapes Go.Deep
set_option linter.unusedVariables false
set_option linter.unusedSimpArgs false
theorem StepO.unguard {σ : Type} {P : Program} {p : PlanO σ} {i : Nat} {o : Oper} {a : Act} {s : σ} {Us : List (Nat × Nat × Obj)} (h : StepO P p i { o with guard := none } a s Us) : StepO P p i o a s Us := h
def moreV (k : Nat) (E : Nat → Ev) (v : Ev) : Nat → Ev := fun j => if j < k then E j else v
theorem moreV_ents (k : Nat) (E : Nat → Ev) (v : Ev) : ents (moreV k E v) (k + 1) = ents E k ++ [v] := by
  rw [ents_succ]
  congr 1
  · exact ents_congr fun i hi => by unfold moreV; rw [if_pos hi]
  · unfold moreV; rw [if_neg (by omega)]
theorem goes_on {L : List Nat} (hb : ∀ x ∈ L, x < 256) {v : Ev} (hv : framedB v = true) (h5 : (readE L).1.length < 512) {q : Nat} (hq : (readE L).2 = (q : Int)) :
    readE (L.take q ++ sealB (encE v)) = ((readE L).1 ++ [v], ((L.take q ++ sealB (encE v)).length : Int)) ∧ (∀ x ∈ L.take q ++ sealB (encE v), x < 256) ∧ (sealB (encE v)).length ≤ 104 := by
  obtain ⟨q', h1, h2, h3, h4, _⟩ := readE_form hb
  obtain rfl : q = q' := by omega
  have e : L.take q ++ sealB (encE v) = framesB ((readE L).1 ++ [v]) := by
    rw [framesB_app, ← h3]
    show _ = _ ++ (frameB v ++ [])
    rw [List.append_nil]; rfl
  refine ⟨?_, ?_, frameB_len (framed_in hv)⟩
  · rw [e]
    exact read_frames (fun x hx => by
      rcases List.mem_append.1 hx with h | h
      · exact h4 x h
      · rw [List.mem_singleton.1 h]; exact hv) (by rw [List.length_append]; simp; omega)
  · rw [e]; exact framesB_byte _
set_option maxRecDepth 8000 in
set_option maxHeartbeats 8000000 in
theorem run_journalGoes {H : Type} {enc : TypeId × Value → H} (W : World) (base : Nat) (v0 : Value) (d0 : DataW H) (p0 : List MemPlace) (hv0 : Value.okWide Try.prog W .any base 22 v0) (h0 : DataW.Trod enc Try.prog W 0 (fun _ => true) true 22 v0 d0 p0)
    (v1 : Value) (d1 : DataW H) (p1 : List MemPlace) (hv1 : Value.okWide Try.prog W .any base 24 v1) (h1 : DataW.Trod enc Try.prog W 0 (fun _ => true) true 24 v1 d1 p1) :
    Calls Try.prog 8 #[v0, v1] W fun e w' => e = .returned (.bool true) ∧ Below W.heap.size W w' := by
  obtain ⟨ao, n, c, B, rfl, hs, hB⟩ := open_bytes hv0 h0
  obtain ⟨v, rfl, hv⟩ := open_event hv1 h1
  clear hv0 h0 hv1 h1 hv
  have AW := Lib.hid (fun w' => awake12 w')
  have hmc := hs.hm
  have hcc := hs.hc
  have X0 := Lib.hid (heap_alloc_new W (.cells (eC v) 24))
  have B0 : Hid (Below W.heap.size W (W.alloc (.cells (eC v) 24))) := Lib.hid (by (repeat' (first | (with_reducible exact Below.refl _ _) | (with_reducible assumption) | (with_reducible refine Below.drew ?_) | (with_reducible refine below_drewN ?_ _) | (with_reducible refine Below.alloc ?_ ?_ _) | (with_reducible refine Below.setCell ?_ ?_ _) | go_size)))
  obtain ⟨wb, hwb⟩ : ∃ wb, wb = W.alloc (.cells (eC v) 24) := ⟨_, rfl⟩
  rw [← hwb] at X0 B0
  have HW := Lib.hid hwb
  clear hwb
  by_cases hn : 4000 < n
  · have tn : (4000 : Int) < (n : Int) := by omega
    obtain ⟨v1, v2, v3, v4, v5, v6, v7, v8, v9⟩ := v
    unfold eC at *
    dsimp only at X0 HW ⊢
    go_enter Try.func8, Try.ntmps8
    go_wp2_with fail
    rw [← HW.out]
    refine (AW.out _).mono ?_
    rintro e w1 ⟨rfl, b1⟩
    have B1 := Lib.hid (B0.out.trans (b1.mono B0.out.size))
    clear b1
    go_wp2_with fail
    go_returns
    exact ⟨rfl, B1.out⟩
  · have t40 : decide ((4000 : Int) < (n : Int)) = false := decide_eq_false (by omega)
    have tn : (n : Int) ≤ 4000 := by omega
    obtain ⟨q, hq1, hq, hw, hlen, hrp⟩ := write_read (byte_ents hB)
    have N1 := Lib.hid (read17 ao n c B wb (hs.below B0.out) hB (by omega))
    have N3 := Lib.hid (fun w' (hb : Below W.heap.size W w') => repair19 ao n c B w' (hs.below hb) hB (by omega))
    have HG := Lib.hid (fun hv h5 => goes_on (byte_ents hB) (v := v) hv h5 hq1)
    have NO := Lib.hid (fun (hf : framedB v = false) => append_no (L := (ents B n).take q) hf)
    have YES := Lib.hid (fun (hf : framedB v = true) => append_yes (L := (ents B n).take q) hf)
    have AP := Lib.hid (fun (a3 : Option Addr) (k3 c3 : Nat) (R3 : Nat → Nat) (w' : World) (s3 : BSl w' a3 k3 c3 R3) (hk : k3 ≤ 4000) => append13 a3 k3 c3 R3 v w' s3 (by omega))
    rw [hrp, ents_len] at N3
    rw [ents_len] at hq
    obtain ⟨⟨l, x⟩, hR⟩ : ∃ X, readE (ents B n) = X := ⟨_, rfl⟩
    rw [hR] at N1 HG hq1
    dsimp only at N1 N3 HG hq1
    subst hq1
    have HTL : Hid (((ents B n).take q).length = q) := Lib.hid (by rw [List.length_take, ents_len]; omega)
    generalize (ents B n).take q = T at *
    obtain ⟨f, hf⟩ : ∃ f, f = framedB v := ⟨_, rfl⟩
    obtain ⟨Z, hZ⟩ : ∃ Z, Z = sealB (encE v) := ⟨_, rfl⟩
    obtain ⟨Y, hY⟩ : ∃ Y, Y = appendE T v := ⟨_, rfl⟩
    rw [← hf] at HG NO YES
    rw [← hZ] at HG YES
    rw [← hY] at NO YES
    clear hf hZ hw hlen hrp hR hs hB
    have HY := Lib.hid hY
    clear hY
    have XV : Hid (v = v) := Lib.hid rfl
    obtain ⟨y, hy⟩ : ∃ y, y = v := ⟨_, rfl⟩
    have HVY := Lib.hid hy
    clear hy XV
    obtain ⟨v1, v2, v3, v4, v5, v6, v7, v8, v9⟩ := v
    unfold eC at *
    dsimp only at X0 HW AP ⊢
    go_enter Try.func8, Try.ntmps8
    go_wp2_with fail
    rw [← HW.out]
    refine N1.out.mono ?_
    rintro e w1 ⟨u1, k1, E1, rfl, l1, r1, b1⟩
    obtain ⟨a1, c1, rfl, s1⟩ := EvRow.toSl r1
    have B1 := Lib.hid (B0.out.trans (b1.mono B0.out.size))
    have X1 := Lib.hid ((b1.block _ (block_lt X0.out)).trans X0.out)
    have S1 := Lib.hid s1
    have L1 := Lib.hid l1
    clear N1 r1 b1 s1 l1 HW X0 B0
    go_wp2_with fail
    refine (N3.out _ B1.out).mono ?_
    rintro e w3 ⟨u3, k3, R3, rfl, l3, r3, b3⟩
    obtain ⟨a3, c3, rfl, s3⟩ := BRow.toSl r3
    have hk3 : k3 = q := by have := congrArg List.length l3; rw [ents_len, HTL.out] at this; exact this
    subst hk3
    have B3 := Lib.hid (B1.out.trans (b3.mono B1.out.size))
    have X3 := (b3.block _ (block_lt X1.out)).trans X1.out
    have S3 := Lib.hid (S1.out.below b3)
    have AP1 := AP.out a3 k3 c3 R3 w3 s3 (by omega)
    rw [l3, ← HY.out] at AP1
    replace AP1 := Lib.hid AP1
    have y0 := cell_at X3 0
    have y1 := cell_at X3 1
    have y2 := cell_at X3 2
    have y3 := cell_at X3 3
    have y4 := cell_at X3 4
    have y5 := cell_at X3 5
    have y6 := cell_at X3 6
    have y7 := cell_at X3 7
    have y8 := cell_at X3 8
    have zx := szs (block_lt X3)
    clear N3 r3 b3 s3 l3 S1 X1 B1 AP
    go_wp2_with fail
    refine AP1.out.mono ?_
    rintro e w4 ⟨u4, k4, R4, rfl, l4, r4, b4⟩
    obtain ⟨a4, c4, rfl, s4⟩ := BRow.toSl r4
    have B4 := Lib.hid (B3.out.trans (b4.mono B3.out.size))
    have X4 := Lib.hid ((b4.block _ (block_lt X3)).trans X3)
    have S4 := Lib.hid (S3.out.below b4)
    have L4 := Lib.hid l4
    have SB4 := Lib.hid s4
    clear AP1 r4 b4 s4 l4 X3 y0 y1 y2 y3 y4 y5 y6 y7 y8 zx B3 S3 HY
    cases f with
    | false =>
      obtain rfl := NO.out rfl
      clear NO YES HG
      go_wp2_with fail
      refine (AW.out _).mono ?_
      rintro e w5 ⟨rfl, b5⟩
      have B5 := Lib.hid (B4.out.trans (b5.mono B4.out.size))
      clear b5
      go_wp2_with fail
      go_returns
      exact ⟨rfl, B5.out⟩
    | true =>
      obtain rfl := YES.out rfl
      dsimp only at L4 ⊢
      clear NO YES
      by_cases h5 : 512 ≤ k1
      · have t5 : (512 : Int) ≤ (k1 : Int) := by omega
        clear HG
        go_wp2_with fail
        refine (AW.out _).mono ?_
        rintro e w5 ⟨rfl, b5⟩
        have B5 := Lib.hid (B4.out.trans (b5.mono B4.out.size))
        clear b5
        go_wp2_with fail
        go_returns
        exact ⟨rfl, B5.out⟩
      · have t5 : (k1 : Int) < 512 := by omega
        have hl : l.length < 512 := by rw [← L1.out, ents_len]; omega
        obtain ⟨g1, g2, g3⟩ := HG.out rfl hl
        have hk4 : k4 ≤ 4104 := by
          have h1 := congrArg List.length L4.out
          rw [ents_len, List.length_append, HTL.out] at h1
          omega
        have CR := read17 a4 k4 c4 R4 w4 SB4.out (ents_byte L4.out g2) (by omega)
        rw [L4.out, g1] at CR
        dsimp only at CR
        rw [← L4.out, ents_len] at CR
        replace CR := Lib.hid CR
        clear g1 g2 g3 HG SB4 L4 hl
        go_wp2_with fail
        refine CR.out.mono ?_
        rintro e w5 ⟨u5, k5, E5, rfl, l5, r5, b5⟩
        obtain ⟨a5, c5, rfl, s5⟩ := EvRow.toSl r5
        have B5 := Lib.hid (B4.out.trans (b5.mono B4.out.size))
        have X5 := (b5.block _ (block_lt X4.out)).trans X4.out
        have S5 := Lib.hid (S4.out.below b5)
        have Z5 := Lib.hid s5
        have L5 := Lib.hid l5
        have y0 := cell_at X5 0
        have y1 := cell_at X5 1
        have y2 := cell_at X5 2
        have y3 := cell_at X5 3
        have y4 := cell_at X5 4
        have y5 := cell_at X5 5
        have y6 := cell_at X5 6
        have y7 := cell_at X5 7
        have y8 := cell_at X5 8
        clear CR r5 b5 s5 l5 X5 X4 S4 B4
        have te : ((k4 : Int) == (k4 : Int)) = true := by simp
        obtain ⟨i0, hi, hz0, hz1, hz2⟩ := info_parts infoEv
        go_wp2_with fail
        obtain ⟨ι, hne, Fw, fb, hF⟩ := grow_family w5
        (have f0 := fun i => cell_kept (fb i) y0; have f1 := fun i => cell_kept (fb i) y1; have f2 := fun i => cell_kept (fb i) y2; have f3 := fun i => cell_kept (fb i) y3; have f4 := fun i => cell_kept (fb i) y4; have f5 := fun i => cell_kept (fb i) y5; have f6 := fun i => cell_kept (fb i) y6; have f7 := fun i => cell_kept (fb i) y7; have f8 := fun i => cell_kept (fb i) y8); (clear y0 y1 y2 y3 y4 y5 y6 y7 y8)
        refine region_chainO (rowPlan w5 24 9 (fun k => match k with | 0 => 0 | 1 => 0 | 2 => k1 | _ => k1 + 1) (fun _ j => evs (moreV k1 E1 ⟨v1, v2, v3, v4, v5, v6, v7, v8, v9⟩ j)) [6, 8, 11] [(10, fun b => .slice (some ⟨b, 0, none⟩) 1 1, .cells #[.int .i64 v1, .int .i64 v2, .int .i64 v3, .int .i64 v4, .int .i64 v5, .int .i64 v6, .int .i64 v7, .int .i64 v8, .int .i64 v9] 24)] [] (fun i => if i = 11 then [10] else [])) (0, undef) [] [0, 1, 2, 3, 4, 5, 7, 9, 10, 6, 8, 11] [12, 13, 14, 15, 16, 17] mixed (by kernel_rfl) (by kernel_rfl) ?hU (rowPlan_ok (by simp) (by simp)) rowPlan_start ?_
        case hU =>
          intro j k hk
          have hk2 : k ∈ (if j = 11 then [10] else []) := hk
          clear hk
          split at hk2
          · rename_i hj
            obtain rfl := List.mem_singleton.1 hk2
            subst hj; show Region.waitsFor .any _ 11 10 = true; kernel_rfl
          · cases hk2
        refine wpPure_nil ?_
        simp only [List.map_cons, List.map_nil, Array.getD_eq_getD_getElem?, List.getElem?_toArray, List.getElem?_cons_zero, List.getElem?_cons_succ, Option.getD_some]
        have hF : ∀ w', (rowPlan w5 24 9 (fun k => match k with | 0 => 0 | 1 => 0 | 2 => k1 | _ => k1 + 1) (fun _ j => evs (moreV k1 E1 ⟨v1, v2, v3, v4, v5, v6, v7, v8, v9⟩ j)) [6, 8, 11] [(10, fun b => .slice (some ⟨b, 0, none⟩) 1 1, .cells #[.int .i64 v1, .int .i64 v2, .int .i64 v3, .int .i64 v4, .int .i64 v5, .int .i64 v6, .int .i64 v7, .int .i64 v8, .int .i64 v9] 24)] [] (fun i => if i = 11 then [10] else [])).D (0, undef) w' → ∃ i, w' = Fw i := hF
        (repeat (first | (refine wpChainO_skip rfl ?_; simp only [Act.put, List.setIfInBounds_toArray, List.set_cons_succ, List.set_cons_zero]) | (refine wpChainO_quiet hF rfl rfl rfl ?_; intro K hK; go_big_quiet_op; go_big_quiet_on) | (refine wpChainO_pure _ rfl rfl (fun w' _ => by go_simp; try rfl) ?_; simp only [Act.put, List.setIfInBounds_toArray, List.set_cons_succ, List.set_cons_zero])))
        refine wpChainO_alloc _ _ rfl (List.mem_cons_self ..) rfl (fun w' => by go_simp) (fun b10 hb10 => ?_)
        simp only [Act.put, List.setIfInBounds_toArray, List.set_cons_succ, List.set_cons_zero]
        refine wpChainO_main rfl rfl (rowPlan_make rfl (fun w' => by go_simp)) ?_
        rintro ⟨m1, u1⟩ ⟨hm1, e1, g1, hu1⟩
        dsimp only [rowPlan] at hm1 hu1
        subst hm1
        simp only [Nat.zero_add] at hu1
        subst hu1
        simp only [rowPlan_mval, Nat.zero_add, Act.put, List.setIfInBounds_toArray, List.set_cons_succ, List.set_cons_zero]
        refine wpChainO_main rfl rfl (StepO.unguard (rowPlan_append (ops := #[]) rfl rfl rfl (by show _ < 63; decide) rfl i0 _ 72 Try.underlying30 hi hz0 hz1 hz2 rfl (by decide) rfl (fun _ => evs_len _) a1 k1 c1 (fun j => evs (E1 j)) rfl (fun _ => evs_len _) S5.out.hno (fun i => evs_one _) (fun w' hb _ => (S5.out.below hb).sl) (Nat.zero_add _).symm (fun j hj => ?_) ?_ ?_)) ?_
        · simp only [cat, Nat.not_lt_zero, if_false, Nat.sub_zero]
          show evs (E1 j) = evs (moreV k1 E1 _ j)
          unfold moreV; rw [if_pos (by simpa using hj)]
        · show (0 + k1) * 72 ≤ _; omega
        · show 0 + k1 ≤ _; unfold maxLen; omega
        rintro ⟨m2, u2⟩ ⟨hm2, e2, g2, hu2⟩
        dsimp only [rowPlan] at hm2 hu2
        subst hm2
        simp only [Nat.zero_add] at hu2
        subst hu2
        simp only [rowPlan_mval, Nat.zero_add, Act.put, List.setIfInBounds_toArray, List.set_cons_succ, List.set_cons_zero]
        refine wpChainO_main rfl rfl (StepO.unguard (rowPlan_append (ops := #[]) rfl rfl rfl (by show _ < 63; decide) rfl i0 _ 72 Try.underlying30 hi hz0 hz1 hz2 rfl (by decide) rfl (fun _ => evs_len _) (some ⟨b10, 0, none⟩) 1 1 (fun _ => evs ⟨v1, v2, v3, v4, v5, v6, v7, v8, v9⟩) rfl (fun _ => evs_len _) (fun h => by cases h) (fun i => evs_one _) (fun w' hb hU => ?_) rfl (fun j hj => ?_) ?_ ?_)) ?_
        · have hx := hU (10, b10, .cells #[.int .i64 v1, .int .i64 v2, .int .i64 v3, .int .i64 v4, .int .i64 v5, .int .i64 v6, .int .i64 v7, .int .i64 v8, .int .i64 v9] 24) (by simp [usedBy, rowPlan])
          intro i hi
          obtain rfl : i = 0 := by omega
          refine ⟨b10, 0, rfl, fun j hj => ?_⟩
          rw [cell_at hx]
          rcases nine_cases hj with rfl | rfl | rfl | rfl | rfl | rfl | rfl | rfl | rfl <;> rfl
        · have hj : j < k1 + 1 := hj
          by_cases h : j < k1
          · show cat (fun j => evs (moreV k1 E1 _ j)) k1 _ j = _
            simp [cat, h]
          · obtain rfl : j = k1 := by omega
            show cat (fun i => evs (moreV j E1 _ i)) j _ j = _
            simp [cat, moreV]
        · show (k1 + 1) * 72 ≤ _; omega
        · show k1 + 1 ≤ _; unfold maxLen; omega
        rintro ⟨m3, u3⟩ ⟨hm3, e3, g3, hu3⟩
        dsimp only [rowPlan] at hm3 hu3
        subst hm3
        simp only [Nat.zero_add] at hu3
        subst hu3
        simp only [rowPlan_mval, Nat.zero_add, Act.put, List.setIfInBounds_toArray, List.set_cons_succ, List.set_cons_zero]
        refine wpChainO_nil (fun w6 hk6 hl6 => ?_)
        have b6 : Below w5.heap.size w5 w6 := hk6.1
        have row6 : EvRow w6 w5.heap.size (.slice e3 (k1 + 1) g3) (k1 + 1) (moreV k1 E1 ⟨v1, v2, v3, v4, v5, v6, v7, v8, v9⟩) := hk6.2.2 (Nat.succ_ne_zero _)
        obtain ⟨e3', g3', he, s6⟩ := EvRow.toSl row6
        cases he
        have B6 := Lib.hid (B5.out.trans (b6.mono B5.out.size))
        have CE := same21 a5 k5 c5 E5 e3 (k1 + 1) g3 _ w6 (Z5.out.below b6) s6
        rw [L5.out, moreV_ents, L1.out, decide_eq_true rfl] at CE
        replace CE := Lib.hid CE
        clear b6 row6 s6 hk6 hl6 hF fb hi hz0 hz1 hz2 hne hb10 f0 f1 f2 f3 f4 f5 f6 f7 f8 B5 S5 Z5
        go_wp2_with fail
        refine CE.out.mono ?_
        rintro e w7 ⟨rfl, b7⟩
        have B7 := Lib.hid (B6.out.trans (b7.mono B6.out.size))
        clear b7 CE
        go_wp2_with fail
        refine (AW.out _).mono ?_
        rintro e w8 ⟨rfl, b8⟩
        have B8 := Lib.hid (B7.out.trans (b8.mono B7.out.size))
        clear b8 AW
        go_wp2_with fail
        refine onlyN_intro ?_
        go_wp2_with fail
        go_returns
        exact ⟨rfl, B8.out⟩
end Go.Proofs.Ytlnfhlmgnppcbaa
