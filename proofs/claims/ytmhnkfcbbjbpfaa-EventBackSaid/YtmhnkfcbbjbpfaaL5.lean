/- The law EventBack. -/
import Derived.Test.YtmhnkfcbbjbpfaaL4
namespace Go.Proofs.Ytmhnkfcbbjbpfaa
open Go.RowKit Go.ChangeShapes Go.WideShapes Go.Deep
set_option linter.unusedVariables false
set_option linter.unusedSimpArgs false
theorem readL_in {l : List Nat} (hb : ∀ x ∈ l, x < 256) : ∀ (k : Nat) (a : Int) (acc : List Int), (∀ x ∈ acc, -9223372036854775808 ≤ x ∧ x ≤ 9223372036854775807) → ∀ x ∈ (readL l k a acc).1, -9223372036854775808 ≤ x ∧ x ≤ 9223372036854775807
  | 0, a, acc, h => h
  | k + 1, a, acc, h => by
    by_cases h0 : (intE l a).2.2 = 0
    · rw [readL_step h0]
      refine readL_in hb k _ _ (fun x hx => ?_)
      rcases List.mem_append.1 hx with hx | hx
      · exact h x hx
      · obtain rfl := List.mem_singleton.1 hx
        exact intE_in' l hb a
    · rw [readL_stop h0]
      intro x hx
      simp at hx
theorem dec_in {l : List Nat} (hb : ∀ x ∈ l, x < 256) : inN (decE l).1 := by
  have hz : inN zeroE := by
    intro x hx
    simp only [nums, zeroE, List.mem_cons, List.not_mem_nil, or_false] at hx
    omega
  unfold decE
  split
  · exact hz
  · split
    · exact hz
    · dsimp only
      have h := readL_in hb 9 0 [] (fun x hx => by simp at hx)
      generalize (readL l 9 0 []).1 = ms at *
      have hg : ∀ j, -9223372036854775808 ≤ ms.getD j 0 ∧ ms.getD j 0 ≤ 9223372036854775807 := fun j => by
        rcases Nat.lt_or_ge j ms.length with hj | hj
        · have : ms.getD j 0 = ms[j] := by rw [List.getD, List.getElem?_eq_getElem hj]; rfl
          rw [this]; exact h _ (List.getElem_mem _)
        · have : ms.getD j 0 = 0 := by rw [List.getD, List.getElem?_eq_none hj]; rfl
          rw [this]; omega
      intro x hx
      simp only [nums, ofNums, List.mem_cons, List.not_mem_nil, or_false] at hx
      rcases hx with rfl | rfl | rfl | rfl | rfl | rfl | rfl | rfl | rfl <;> exact hg _
set_option maxRecDepth 4000 in
set_option maxHeartbeats 4000000 in
theorem run_eventBack {H : Type} {enc : TypeId × Value → H} (W : World) (base : Nat) (v0 : Value) (d0 : DataW H) (p0 : List MemPlace) (hv0 : Value.okWide Try.prog W .any base 26 v0) (h0 : DataW.Trod enc Try.prog W 0 (fun _ => true) true 26 v0 d0 p0)
    (v1 : Value) (d1 : DataW H) (p1 : List MemPlace) (hv1 : Value.okWide Try.prog W .any base 39 v1) (h1 : DataW.Trod enc Try.prog W 0 (fun _ => true) true 39 v1 d1 p1) :
    Calls Try.prog 10 #[v0, v1] W fun e w' => e = .returned (.bool true) ∧ Below W.heap.size W w' := by
  obtain ⟨v, rfl, hv⟩ := open_event hv0 h0
  obtain ⟨ao, n, c, B, rfl, hs, hB⟩ := open_bytes hv1 h1
  clear hv0 h0 hv1 h1
  have AW := Lib.hid (fun w' => awake14 w')
  have hmc := hs.hm
  have hcc := hs.hc
  have HS := Lib.hid hs
  have HB := Lib.hid hB
  have N1 := Lib.hid (fun w' => encode28 v w' hv)
  have HDE := Lib.hid (dec_enc hv)
  have HDL := Lib.hid (encE_len hv)
  have EV := fun w' => (eqEv v v w').2
  rw [decide_eq_true rfl] at EV
  clear hs hB hv
  obtain ⟨l, hl⟩ : ∃ l, l = encE v := ⟨_, rfl⟩
  have HLB : Hid (∀ x ∈ l, x < 256) := Lib.hid (by rw [hl]; exact encL_byte _)
  rw [← hl] at N1 HDE HDL
  clear hl
  have X0 := Lib.hid (heap_alloc_new W (.cells (eC v) 26))
  have B0 : Hid (Below W.heap.size W (W.alloc (.cells (eC v) 26))) := Lib.hid (by (repeat' (first | (with_reducible exact Below.refl _ _) | (with_reducible assumption) | (with_reducible refine Below.drew ?_) | (with_reducible refine below_drewN ?_ _) | (with_reducible refine Below.alloc ?_ ?_ _) | (with_reducible refine Below.setCell ?_ ?_ _) | go_size)))
  unfold eC at *
  obtain ⟨v1, v2, v3, v4, v5, v6, v7, v8, v9⟩ := v
  dsimp only at N1 EV X0 B0 ⊢
  obtain ⟨wb, hwb⟩ : ∃ wb, wb = W.alloc (.cells #[.int .i64 v1, .int .i64 v2, .int .i64 v3, .int .i64 v4, .int .i64 v5, .int .i64 v6, .int .i64 v7, .int .i64 v8, .int .i64 v9] 26) := ⟨_, rfl⟩
  rw [← hwb] at X0 B0
  have HW := Lib.hid hwb
  clear hwb
  by_cases hn : 300 < n
  · have tn : (300 : Int) < (n : Int) := by omega
    go_enter Try.func10, Try.ntmps10
    go_wp2_with fail
    rw [← HW.out]
    refine (AW.out _).mono ?_
    rintro e w1 ⟨rfl, b1⟩
    have B1 := Lib.hid (B0.out.trans (b1.mono B0.out.size))
    clear b1
    go_wp2_with fail
    go_returns
    exact ⟨rfl, B1.out⟩
  · have tn : (n : Int) ≤ 300 := by omega
    have D2 := Lib.hid (fun w' (hb : Below W.heap.size W w') => decode25 ao n c B w' (HS.out.below hb) HB.out (by omega))
    have HER := Lib.hid (dec_err (ents B n))
    have HIN := Lib.hid (dec_in (byte_ents HB.out))
    have HED := Lib.hid (fun h => enc_dec (byte_ents HB.out) h)
    generalize decE (ents B n) = q at *
    obtain ⟨y, er⟩ := q
    dsimp only at HER HIN HED
    go_enter Try.func10, Try.ntmps10
    go_wp2_with fail
    rw [← HW.out]
    refine (N1.out _).mono ?_
    rintro e w1 ⟨u, k, R, rfl, hR, hrow, b1⟩
    obtain ⟨bo, bc, rfl, S1⟩ := BRow.toSl hrow
    have hk : k ≤ 90 := by
      have := congrArg List.length hR
      rw [ents_len] at this
      have := HDL.out
      omega
    have D1 := decode25 bo k bc R w1 S1 (fun i hi => HLB.out _ (by rw [← hR]; exact mem_ents.2 ⟨i, hi, rfl⟩)) (by omega)
    rw [hR, HDE.out] at D1
    unfold evV eC at D1
    dsimp only at D1
    replace D1 := Lib.hid D1
    clear hR hrow S1 N1 HW
    go_wp2_with fail
    refine D1.out.mono ?_
    rintro e w2 ⟨rfl, b2⟩
    have b02 := b1.trans (b2.mono b1.size)
    clear D1 b1 b2
    have E2 := (b02.block _ (block_lt X0.out)).trans X0.out
    have ze := szs (block_lt E2)
    have a0 := cell_at E2 0
    have a1 := cell_at E2 1
    have a2 := cell_at E2 2
    have a3 := cell_at E2 3
    have a4 := cell_at E2 4
    have a5 := cell_at E2 5
    have a6 := cell_at E2 6
    have a7 := cell_at E2 7
    have a8 := cell_at E2 8
    go_wp2_with fail
    obtain ⟨w3, hw3⟩ : ∃ w3, w3 = w2.alloc (.cells #[.int .i64 v1, .int .i64 v2, .int .i64 v3, .int .i64 v4, .int .i64 v5, .int .i64 v6, .int .i64 v7, .int .i64 v8, .int .i64 v9] 26) := ⟨_, rfl⟩
    rw [← hw3]
    have b3 : Below w2.heap.size w2 w3 := by rw [hw3]; (repeat' (first | (with_reducible exact Below.refl _ _) | (with_reducible assumption) | (with_reducible refine Below.drew ?_) | (with_reducible refine below_drewN ?_ _) | (with_reducible refine Below.alloc ?_ ?_ _) | (with_reducible refine Below.setCell ?_ ?_ _) | go_size))
    have b03 := b02.trans (b3.mono b02.size)
    have B3 := Lib.hid (B0.out.trans (b03.mono B0.out.size))
    clear hw3 b3 b02 b03 a0 a1 a2 a3 a4 a5 a6 a7 a8 ze E2 X0 EV
    refine (D2.out _ B3.out).mono ?_
    rintro e w4 ⟨rfl, b4⟩
    have B4 := Lib.hid (B3.out.trans (b4.mono B3.out.size))
    clear b4 D2
    by_cases her : er = 0
    · subst her
      have N2 := Lib.hid (fun w' => encode28 y w' HIN.out)
      have HL := Lib.hid (HED.out rfl)
      have HL2 := Lib.hid (encE_len HIN.out)
      have HEB := Lib.hid (encL_byte (nums y))
      obtain ⟨y1, y2, y3, y4, y5, y6, y7, y8, y9⟩ := y
      unfold evV eC at *
      dsimp only at N2 ⊢
      go_wp2_with fail
      obtain ⟨w5, hw5⟩ : ∃ w5, w5 = w4.alloc (.cells #[.int .i64 y1, .int .i64 y2, .int .i64 y3, .int .i64 y4, .int .i64 y5, .int .i64 y6, .int .i64 y7, .int .i64 y8, .int .i64 y9] 26) := ⟨_, rfl⟩
      rw [← hw5]
      have b5 : Below w4.heap.size w4 w5 := by rw [hw5]; (repeat' (first | (with_reducible exact Below.refl _ _) | (with_reducible assumption) | (with_reducible refine Below.drew ?_) | (with_reducible refine below_drewN ?_ _) | (with_reducible refine Below.alloc ?_ ?_ _) | (with_reducible refine Below.setCell ?_ ?_ _) | go_size))
      have B5 := Lib.hid (B4.out.trans (b5.mono B4.out.size))
      clear hw5 b5
      refine (N2.out _).mono ?_
      rintro e w6 ⟨u, k2, R2, rfl, hR, hrow, b6⟩
      obtain ⟨bo2, bc2, rfl, S2⟩ := BRow.toSl hrow
      have B6 := Lib.hid (B5.out.trans (b6.mono B5.out.size))
      have SB := sameBytes27 bo2 k2 bc2 R2 ao n c B w6 S2 (HS.out.below B6.out) (fun i hi => HEB.out _ (by show _ ∈ encE _; rw [← hR]; exact mem_ents.2 ⟨i, hi, rfl⟩)) HB.out
      rw [decide_eq_true (hR.trans HL.out)] at SB
      replace SB := Lib.hid SB
      clear hR hrow S2 N2 b6
      go_wp2_with fail
      refine SB.out.mono ?_
      rintro e w7 ⟨rfl, rfl⟩
      go_wp2_with fail
      refine (AW.out _).mono ?_
      rintro e w8 ⟨rfl, b8⟩
      have B8 := Lib.hid (B6.out.trans (b8.mono B6.out.size))
      clear b8
      go_wp2_with fail
      go_returns
      exact ⟨rfl, B8.out⟩
    · have hy := HER.out her
      subst hy
      have EZ := fun w' => (eqEv zeroE zeroE w').1
      rw [decide_eq_true rfl] at EZ
      have t1 : (er != 0) = true := by simp; exact her
      have t2 : (er == 0) = false := by simp; exact her
      clear HER HIN HED her
      unfold evV eC zeroE at *
      dsimp only at EZ ⊢
      go_wp2_with fail
      refine (AW.out _).mono ?_
      rintro e w8 ⟨rfl, b8⟩
      have b4 : Below w4.heap.size w4 (w4.alloc (.cells #[.int .i64 0, .int .i64 0, .int .i64 0, .int .i64 0, .int .i64 0, .int .i64 0, .int .i64 0, .int .i64 0, .int .i64 0] 26)) := by (repeat' (first | (with_reducible exact Below.refl _ _) | (with_reducible assumption) | (with_reducible refine Below.drew ?_) | (with_reducible refine below_drewN ?_ _) | (with_reducible refine Below.alloc ?_ ?_ _) | (with_reducible refine Below.setCell ?_ ?_ _) | go_size))
      have B8 := Lib.hid (B4.out.trans ((b4.trans (b8.mono b4.size)).mono B4.out.size))
      clear b8 b4
      go_wp2_with fail
      go_returns
      exact ⟨rfl, B8.out⟩
end Go.Proofs.Ytmhnkfcbbjbpfaa
