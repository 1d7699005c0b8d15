/- slices.CompactFunc at events: the first of each run of one number. -/
import Derived.Test.YtlnfhlmgnppcbaaE2
import Derived.Test.YtlnfhlmgnppcbaaBC
import Derived.Test.YtlnfhlmgnppcbaaBB
namespace Go.Proofs.Ytlnfhlmgnppcbaa
open Go.RowKit Go.ChangeShapes Go.WideShapes Go.Deep
set_option linter.unusedVariables false
set_option linter.unusedSimpArgs false
def evs (v : Ev) : List Value := [.int .i64 v.dev, .int .i64 v.seq, .int .i64 v.at', .int .i64 v.late, .int .i64 v.kind, .int .i64 v.bike, .int .i64 v.place, .int .i64 v.rider, .int .i64 v.ride]
theorem evs_len (v : Ev) : (evs v).length = 9 := rfl
/-- Events in a row that the call owns. -/
def EvRow (w : World) (base : Nat) (v : Value) (n : Nat) (F : Nat → Ev) : Prop := Row w base 24 9 v n (fun i => evs (F i))
structure EvAt (w : World) (b o : Nat) (v : Ev) : Prop where
  c0 : w.cell? ⟨b, o, none⟩ = some (.int .i64 v.dev)
  c1 : w.cell? ⟨b, o + 1, none⟩ = some (.int .i64 v.seq)
  c2 : w.cell? ⟨b, o + 2, none⟩ = some (.int .i64 v.at')
  c3 : w.cell? ⟨b, o + 3, none⟩ = some (.int .i64 v.late)
  c4 : w.cell? ⟨b, o + 4, none⟩ = some (.int .i64 v.kind)
  c5 : w.cell? ⟨b, o + 5, none⟩ = some (.int .i64 v.bike)
  c6 : w.cell? ⟨b, o + 6, none⟩ = some (.int .i64 v.place)
  c7 : w.cell? ⟨b, o + 7, none⟩ = some (.int .i64 v.rider)
  c8 : w.cell? ⟨b, o + 8, none⟩ = some (.int .i64 v.ride)
theorem EvAt.of {w : World} {b o : Nat} {v : Ev} (h : ∀ j, j < 9 → w.cell? ⟨b, o + j, none⟩ = (evs v)[j]?) : EvAt w b o v :=
  ⟨h 0 (by decide), h 1 (by decide), h 2 (by decide), h 3 (by decide), h 4 (by decide), h 5 (by decide), h 6 (by decide), h 7 (by decide), h 8 (by decide)⟩
theorem EvRow.at {w : World} {base b n c : Nat} {F : Nat → Ev} (h : EvRow w base (.slice (some ⟨b, 0, none⟩) n c) n F) {i : Nat} (hi : i < n) : EvAt w b (i * 9) (F i) :=
  EvAt.of fun j hj => Row.cell h (fun i => rfl) hi hj
theorem EvRow.at2 {w : World} {base b n c : Nat} {F : Nat → Ev} (h : EvRow w base (.slice (some ⟨b, 0, none⟩) n c) n F) {k i : Nat} (hi : k + i < n) : EvAt w b (k * 9 + i * 9) (F (k + i)) := by
  rw [← Nat.add_mul]; exact h.at hi
theorem EvRow.put {w : World} {base b n c : Nat} {F : Nat → Ev} (h : EvRow w base (.slice (some ⟨b, 0, none⟩) n c) n F) {i : Nat} (hi : i < n) (x : Ev) : EvRow (putCells w b (i * 9) (evs x)) base (.slice (some ⟨b, 0, none⟩) n c) n (upd F i x) :=
  Row.congr (Row.put h (fun i => rfl) hi (evs x) rfl) fun j _ => by
    by_cases hj : j = i
    · subst hj; rw [upd_same, upd_same]
    · rw [upd_ne hj, upd_ne hj]
def Compacted (w : World) (base b n c : Nat) (F : Nat → Ev) (e : Ending) (w' : World) : Prop :=
  ∃ (m : Nat) (F' : Nat → Ev), e = .returned (.slice (some ⟨b, 0, none⟩) m c) ∧ m ≤ n ∧ ents F' m = firstsE (ents F n) ∧ EvRow w' base (.slice (some ⟨b, 0, none⟩) m c) m F' ∧ Off (fun k => k = b) w w'
set_option maxHeartbeats 4000000 in
theorem compact85 (base b n c : Nat) (F : Nat → Ev) (w : World) (hR : EvRow w base (.slice (some ⟨b, 0, none⟩) n c) n F) : Calls Try.prog 85 #[.slice (some ⟨b, 0, none⟩) n c, .func (.func 86) #[] #[]] w (Compacted w base b n c F) := by
  obtain ⟨hb, hn, hc⟩ : b < w.heap.size ∧ n ≤ c ∧ c ≤ 9223372036854775807 := by
    rcases Row.shape hR with ⟨h, _⟩ | ⟨g', cap', he, _, h1, h2, h3⟩
    · cases h
    · cases he; exact ⟨h1, h2, h3⟩
  have HR := Lib.hid hR
  clear hR
  have zb := szs hb
  by_cases h2 : n < 2
  · have t2 : (n : Int) < 2 := by omega
    have HF := Lib.hid (firsts_few F h2)
    clear h2
    go_enter Try.func85, Try.ntmps85
    go_wp2_with fail
    go_returns
    exact ⟨n, F, rfl, Nat.le_refl _, HF.out.symm, HR.out, Off.refl _ _⟩
  · have t2 : (2 : Int) ≤ (n : Int) := by omega
    go_enter Try.func85, Try.ntmps85
    go_wp2_with fail
    go_loopw [5] (fun i wr => ∃ k : Nat, i = .int .i64 k ∧ 1 ≤ k ∧ k ≤ n ∧ Hid (firstsE (ents F k) = ents F k ∧ Below w.heap.size w wr)) (fun i _ => n - (intOf i).toNat)
    case atStart => exact ⟨1, rfl, by omega, by omega, Lib.hid ⟨rfl, by (repeat' (first | (with_reducible exact Below.refl _ _) | (with_reducible assumption) | (with_reducible refine Below.drew ?_) | (with_reducible refine below_drewN ?_ _) | (with_reducible refine Below.alloc ?_ ?_ _) | (with_reducible refine Below.setCell ?_ ?_ _) | go_size))⟩⟩
    case round =>
      obtain ⟨k, rfl, hk1, hk, hrel⟩ := hrel
      obtain ⟨kk, rfl⟩ : ∃ kk, k = kk + 1 := ⟨k - 1, by omega⟩
      by_cases hlt : kk + 1 < n
      · have k1 : ((kk : Int) + 1) < (n : Int) := by omega
        have k2 : (kk : Int) < (n : Int) := by omega
        have C47 := fun w' => set86 (F (kk + 1)) (F kk) w'
        have RR : EvRow wr base (.slice (some ⟨b, 0, none⟩) n c) n F := Row.off (X := fun _ => False) HR.out (Off.of_below hrel.out.2) (fun _ _ h => h)
        have A1 := RR.at hlt
        have A0 := RR.at (show kk < n by omega)
        have zr := szs (Nat.lt_of_lt_of_le hb hrel.out.2.size)
        obtain ⟨r, hr⟩ : ∃ r, r = sameN (F (kk + 1)) (F kk) := ⟨_, rfl⟩
        obtain ⟨v, hv⟩ : ∃ v, v = F (kk + 1) := ⟨_, rfl⟩
        obtain ⟨u, hu⟩ : ∃ u, u = F kk := ⟨_, rfl⟩
        rw [← hr] at C47
        rw [← hv] at A1 C47
        rw [← hu] at A0 C47
        have HV := Lib.hid hv
        have HU := Lib.hid hu
        have HS := Lib.hid hr
        clear RR hr hv hu
        unfold eC at C47
        obtain ⟨v1, v2, v3, v4, v5, v6, v7, v8, v9⟩ := v
        obtain ⟨n1, n2, n3, n4, n5, n6, n7, n8, n9⟩ := u
        (have a0 := (A1).c0; have a1 := (A1).c1; have a2 := (A1).c2; have a3 := (A1).c3; have a4 := (A1).c4; have a5 := (A1).c5; have a6 := (A1).c6; have a7 := (A1).c7; have a8 := (A1).c8); (try dsimp only at a0 a1 a2 a3 a4 a5 a6 a7 a8)
        (have d0 := (A0).c0; have d1 := (A0).c1; have d2 := (A0).c2; have d3 := (A0).c3; have d4 := (A0).c4; have d5 := (A0).c5; have d6 := (A0).c6; have d7 := (A0).c7; have d8 := (A0).c8); (try dsimp only at d0 d1 d2 d3 d4 d5 d6 d7 d8)
        dsimp only at C47
        have C47 := Lib.hid C47
        clear A1 A0
        have HREL := hrel
        clear hrel
        go_wp2_with fail
        (obtain ⟨ι, hne, Fw, fb, hF⟩ := dfamily wr); have hF : ∀ w', (dPlan wr (fun i => .bool r) [10] [] []).D () w' → ∃ i, w' = Fw i := hF
        (have f0 := fun i => cell_kept (fb i) a0; have f1 := fun i => cell_kept (fb i) a1; have f2 := fun i => cell_kept (fb i) a2; have f3 := fun i => cell_kept (fb i) a3; have f4 := fun i => cell_kept (fb i) a4; have f5 := fun i => cell_kept (fb i) a5; have f6 := fun i => cell_kept (fb i) a6; have f7 := fun i => cell_kept (fb i) a7; have f8 := fun i => cell_kept (fb i) a8); (clear a0 a1 a2 a3 a4 a5 a6 a7 a8)
        (have g0 := fun i => cell_kept (fb i) d0; have g1 := fun i => cell_kept (fb i) d1; have g2 := fun i => cell_kept (fb i) d2; have g3 := fun i => cell_kept (fb i) d3; have g4 := fun i => cell_kept (fb i) d4; have g5 := fun i => cell_kept (fb i) d5; have g6 := fun i => cell_kept (fb i) d6; have g7 := fun i => cell_kept (fb i) d7; have g8 := fun i => cell_kept (fb i) d8); (clear d0 d1 d2 d3 d4 d5 d6 d7 d8)
        (refine region_chain (dPlan wr (fun i => .bool r) [10] [] []) () [] [0, 1, 2, 3, 4, 5, 6, 7, 8, 9, 10] [] mixed (by kernel_rfl) (by kernel_rfl) (dPlan_ok (by simp) (by simp)) (dPlan_start _ _ _ _ _) ?_; refine wpPure_nil ?_; simp only [List.map_cons, List.map_nil, Array.getD_eq_getD_getElem?, List.getElem?_toArray, List.getElem?_cons_zero, List.getElem?_cons_succ, Option.getD_some])
        (repeat (first | (refine wpChain_skip rfl ?_; simp only [Act.put, List.setIfInBounds_toArray, List.set_cons_succ, List.set_cons_zero]) | (refine wpChain_quiet hF rfl rfl rfl ?_; intro K hK; go_big_quiet_op; go_big_quiet_on) | (refine wpChain_pure _ rfl rfl (fun w' _ => by go_simp; try rfl) ?_; simp only [Act.put, List.setIfInBounds_toArray, List.set_cons_succ, List.set_cons_zero])))
        refine wpChain_dcall 86 _ rfl rfl (fun w' => by go_simp) (fun w' hb => C47.out w') ?_
        simp only [Act.put, List.setIfInBounds_toArray, List.set_cons_succ, List.set_cons_zero]
        refine wpChain_nil (fun w4 hb4 hl4 => ?_)
        have B4 : Hid (Grew wr w4) := hb4
        clear hb4 hl4 hF fb hne C47 f0 f1 f2 f3 f4 f5 f6 f7 f8 g0 g1 g2 g3 g4 g5 g6 g7 g8
        go_wp2_with fail
        refine onlyN_intro ?_
        cases r
        · go_wp2_with fail
          go_roundw
          case rel => 
            refine ⟨kk + 2, by go_num, by omega, by omega, Lib.hid ⟨?_, ?_⟩⟩
            · rw [firsts_step F (by omega), HREL.out.1, ents_succ F (kk + 1), if_neg]
              rw [Nat.add_sub_cancel, sameN_comm, ← HS.out]; decide
            · exact HREL.out.2.trans (B4.out.1.mono HREL.out.2.size)
          case measure => simp [intOf]; omega
        · have HEQ : Hid (firstsE (ents F (kk + 2)) = ents F (kk + 1)) := Lib.hid (by
            rw [firsts_step F (show 0 < kk + 1 by omega), if_pos (by rw [Nat.add_sub_cancel, sameN_comm, ← HS.out]), HREL.out.1])
          have BW := Lib.hid (HREL.out.2.trans (B4.out.1.mono HREL.out.2.size))
          have O4 := Lib.hid (Off.of_below (X := fun k => k = b) BW.out)
          clear HREL B4 C47 HS HV HU hF zr
          go_wp2_with fail
          obtain ⟨m, hm⟩ : ∃ m, n - (kk + 1) = m := ⟨_, rfl⟩
          obtain ⟨c2, hc2⟩ : ∃ c2, c - (kk + 1) = c2 := ⟨_, rfl⟩
          rw [hm, hc2]
          have hmn : kk + 1 + m = n := by omega
          have hm1 : m ≤ c2 := by omega
          have hm2 : c2 ≤ 9223372036854775807 := by omega
          clear hm hc2 ι Fw
          go_loopw [5, 7] (fun s5 s7 wr => ∃ (j i : Nat) (F' : Nat → Ev), s5 = .int .i64 j ∧ s7 = .int .i64 ((i : Int) + 1) ∧ i + 1 ≤ m ∧ j ≤ kk + 1 + i ∧ Hid (ents F' j = firstsE (ents F (kk + 1 + (i + 1))) ∧ (∀ x, j ≤ x → F' x = F x) ∧ EvRow wr base (.slice (some ⟨b, 0, none⟩) n c) n F' ∧ Off (fun k => k = b) w wr)) (fun _ s7 _ => m - (intOf s7).toNat)
          case atStart => exact ⟨kk + 1, 0, F, rfl, rfl, by omega, by omega, Lib.hid ⟨HEQ.out.symm, fun x _ => rfl, Row.off (X := fun _ => False) HR.out (Off.of_below BW.out) (fun _ _ h => h), O4.out⟩⟩
          case round =>
            obtain ⟨j, i, F', rfl, rfl, hi, hj, hrel⟩ := hrel
            have HREL := hrel
            clear hrel O4 BW HEQ
            have zr := szs (Nat.lt_of_lt_of_le hb HREL.out.2.2.2.size)
            by_cases hlt2 : i + 1 < m
            · have i1 : ((i : Int) + 1) < (m : Int) := by omega
              have i2 : (i : Int) < (m : Int) := by omega
              have RR := HREL.out.2.2.1
              have A1 := RR.at2 (k := kk + 1) (i := i + 1) (by omega)
              have A0 := RR.at2 (k := kk + 1) (i := i) (by omega)
              have e1 : F' (kk + 1 + (i + 1)) = F (kk + 1 + (i + 1)) := HREL.out.2.1 _ (by omega)
              have e0 : F' (kk + 1 + i) = F (kk + 1 + i) := HREL.out.2.1 _ (by omega)
              rw [e1] at A1
              rw [e0] at A0
              have C47 := fun w' => set86 (F (kk + 1 + (i + 1))) (F (kk + 1 + i)) w'
              obtain ⟨r, hr⟩ : ∃ r, r = sameN (F (kk + 1 + (i + 1))) (F (kk + 1 + i)) := ⟨_, rfl⟩
              obtain ⟨v, hv⟩ : ∃ v, v = F (kk + 1 + (i + 1)) := ⟨_, rfl⟩
              obtain ⟨u, hu⟩ : ∃ u, u = F (kk + 1 + i) := ⟨_, rfl⟩
              rw [← hr] at C47
              rw [← hv] at A1 C47
              rw [← hu] at A0 C47
              have HV := Lib.hid hv
              have HS := Lib.hid hr
              clear RR hr hv hu e1 e0
              unfold eC at C47
              obtain ⟨x1, x2, x3, x4, x5, x6, x7, x8, x9⟩ := v
              obtain ⟨y1, y2, y3, y4, y5, y6, y7, y8, y9⟩ := u
              (have a0 := (A1).c0; have a1 := (A1).c1; have a2 := (A1).c2; have a3 := (A1).c3; have a4 := (A1).c4; have a5 := (A1).c5; have a6 := (A1).c6; have a7 := (A1).c7; have a8 := (A1).c8); (try dsimp only at a0 a1 a2 a3 a4 a5 a6 a7 a8)
              (have d0 := (A0).c0; have d1 := (A0).c1; have d2 := (A0).c2; have d3 := (A0).c3; have d4 := (A0).c4; have d5 := (A0).c5; have d6 := (A0).c6; have d7 := (A0).c7; have d8 := (A0).c8); (try dsimp only at d0 d1 d2 d3 d4 d5 d6 d7 d8)
              dsimp only at C47
              have C47 := Lib.hid C47
              clear A1 A0
              go_wp2_with fail
              (obtain ⟨ι, hne, Fw, fb, hF⟩ := dfamily wr); have hF : ∀ w', (dPlan wr (fun i => .bool r) [10] [] []).D () w' → ∃ i, w' = Fw i := hF
              (have f0 := fun i => cell_kept (fb i) a0; have f1 := fun i => cell_kept (fb i) a1; have f2 := fun i => cell_kept (fb i) a2; have f3 := fun i => cell_kept (fb i) a3; have f4 := fun i => cell_kept (fb i) a4; have f5 := fun i => cell_kept (fb i) a5; have f6 := fun i => cell_kept (fb i) a6; have f7 := fun i => cell_kept (fb i) a7; have f8 := fun i => cell_kept (fb i) a8); (clear a0 a1 a2 a3 a4 a5 a6 a7 a8)
              (have g0 := fun i => cell_kept (fb i) d0; have g1 := fun i => cell_kept (fb i) d1; have g2 := fun i => cell_kept (fb i) d2; have g3 := fun i => cell_kept (fb i) d3; have g4 := fun i => cell_kept (fb i) d4; have g5 := fun i => cell_kept (fb i) d5; have g6 := fun i => cell_kept (fb i) d6; have g7 := fun i => cell_kept (fb i) d7; have g8 := fun i => cell_kept (fb i) d8); (clear d0 d1 d2 d3 d4 d5 d6 d7 d8)
              (refine region_chain (dPlan wr (fun i => .bool r) [10] [] []) () [] [0, 1, 2, 3, 4, 5, 6, 7, 8, 9, 10, 11] [] mixed (by kernel_rfl) (by kernel_rfl) (dPlan_ok (by simp) (by simp)) (dPlan_start _ _ _ _ _) ?_; refine wpPure_nil ?_; simp only [List.map_cons, List.map_nil, Array.getD_eq_getD_getElem?, List.getElem?_toArray, List.getElem?_cons_zero, List.getElem?_cons_succ, Option.getD_some])
              (repeat (first | (refine wpChain_skip rfl ?_; simp only [Act.put, List.setIfInBounds_toArray, List.set_cons_succ, List.set_cons_zero]) | (refine wpChain_quiet hF rfl rfl rfl ?_; intro K hK; go_big_quiet_op; go_big_quiet_on) | (refine wpChain_pure _ rfl rfl (fun w' _ => by go_simp; try rfl) ?_; simp only [Act.put, List.setIfInBounds_toArray, List.set_cons_succ, List.set_cons_zero])))
              refine wpChain_dcall 86 _ rfl rfl (fun w' => by go_simp) (fun w' hb => C47.out w') ?_
              simp only [Act.put, List.setIfInBounds_toArray, List.set_cons_succ, List.set_cons_zero]
              (repeat (first | (refine wpChain_skip rfl ?_; simp only [Act.put, List.setIfInBounds_toArray, List.set_cons_succ, List.set_cons_zero]) | (refine wpChain_quiet hF rfl rfl rfl ?_; intro K hK; go_big_quiet_op; go_big_quiet_on) | (refine wpChain_pure _ rfl rfl (fun w' _ => by go_simp; try rfl) ?_; simp only [Act.put, List.setIfInBounds_toArray, List.set_cons_succ, List.set_cons_zero])))
              refine wpChain_nil (fun w4 hb4 hl4 => ?_)
              have B4 : Hid (Grew wr w4) := hb4
              clear hb4 hl4 hF fb hne C47 f0 f1 f2 f3 f4 f5 f6 f7 f8 g0 g1 g2 g3 g4 g5 g6 g7 g8
              go_wp2_with fail
              refine onlyN_intro ?_
              have RR4 : EvRow w4 base (.slice (some ⟨b, 0, none⟩) n c) n F' := Row.off (X := fun _ => False) HREL.out.2.2.1 (Off.of_below B4.out.1) (fun _ _ h => h)
              have z4 := szs (Nat.lt_of_lt_of_le hb (Nat.le_trans HREL.out.2.2.2.size B4.out.1.size))
              have ST := firsts_step F (show 0 < kk + 1 + (i + 1) by omega)
              have e2 : kk + 1 + (i + 1) - 1 = kk + 1 + i := by omega
              rw [e2, sameN_comm, ← HS.out] at ST
              have OW := Lib.hid (HREL.out.2.2.2.trans (Off.of_below (X := fun k => k = b) B4.out.1) (fun _ _ h => h))
              cases r
              · rw [if_neg (by decide)] at ST
                have HST := Lib.hid ST
                have A2 := RR4.at2 (k := kk + 1) (i := i + 1) (by omega)
                have A3 := RR4.at (show j < n by omega)
                have e1 : F' (kk + 1 + (i + 1)) = F (kk + 1 + (i + 1)) := HREL.out.2.1 _ (by omega)
                rw [e1, ← HV.out] at A2
                have fr : ∀ o, w4.frozen? ⟨b, o, none⟩ = false := fun o => Row.free RR4 o
                have tj : (j : Int) < (n : Int) := by omega
                have HR4 := Lib.hid RR4
                (have a0 := (A2).c0; have a1 := (A2).c1; have a2 := (A2).c2; have a3 := (A2).c3; have a4 := (A2).c4; have a5 := (A2).c5; have a6 := (A2).c6; have a7 := (A2).c7; have a8 := (A2).c8); (try dsimp only at a0 a1 a2 a3 a4 a5 a6 a7 a8)
                have d0 := A3.c0
                have d1 := A3.c1
                have d2 := A3.c2
                have d3 := A3.c3
                have d4 := A3.c4
                have d5 := A3.c5
                have d6 := A3.c6
                have d7 := A3.c7
                have d8 := A3.c8
                clear ST e2 RR4 A2 A3 e1 zr
                go_wp2_with fail
                go_roundw
                case rel =>
                  have hput := (HR4.out).put (show j < n by omega) ⟨x1, x2, x3, x4, x5, x6, x7, x8, x9⟩
                  refine ⟨j + 1, i + 1, upd F' j (F (kk + 1 + (i + 1))), by go_num, by go_num, by omega, by omega, Lib.hid ⟨?_, fun x hx => ?_, ?_, ?_⟩⟩
                  · rw [ents_push, HREL.out.1]; exact HST.out.symm
                  · rw [upd_ne (by omega)]; exact HREL.out.2.1 x (by omega)
                  · rw [← HV.out]; exact hput
                  · exact off_putCells (X := fun k => k = b) rfl (evs ⟨x1, x2, x3, x4, x5, x6, x7, x8, x9⟩) (j * 9) w4 OW.out
                case measure => simp [intOf]; omega
              · rw [if_pos rfl] at ST
                have HST := Lib.hid ST
                have HR4 := Lib.hid RR4
                clear ST e2 RR4 zr
                go_wp2_with fail
                go_roundw
                case rel =>
                  exact ⟨j, i + 1, F', rfl, by go_num, by omega, by omega, Lib.hid ⟨HREL.out.1.trans HST.out.symm, HREL.out.2.1, HR4.out, OW.out⟩⟩
                case measure => simp [intOf]; omega
            · obtain rfl : m = i + 1 := by omega
              obtain ⟨w5, hcl, hr5, ho5⟩ := clear_rest (P := Try.prog) (fun i => evs_len _) HREL.out.2.2.1 (k := j) (by omega) Try.underlying30 (zv := .agg #[.int .i64 0, .int .i64 0, .int .i64 0, .int .i64 0, .int .i64 0, .int .i64 0, .int .i64 0, .int .i64 0, .int .i64 0]) (fun w => by kernel_rfl) (by rfl) (by simp [Value.cells]; rfl)
              have H5 := Lib.hid hr5
              have O5 := Lib.hid ho5
              have tj : (j : Int) ≤ (n : Int) := by omega
              have tc : (j : Int) ≤ (c : Int) := by omega
              clear hr5 ho5
              go_wp2_with fail
              go_returns
              refine ⟨j, F', rfl, by omega, ?_, H5.out, HREL.out.2.2.2.trans O5.out (fun _ _ h => h)⟩
              rw [HREL.out.1, hmn]
      · obtain rfl : n = kk + 1 := by omega
        go_wp2_with fail
        go_returns
        exact ⟨_, F, rfl, Nat.le_refl _, hrel.out.1.symm, Row.off (X := fun _ => False) HR.out (Off.of_below hrel.out.2) (fun _ _ h => h), Off.of_below hrel.out.2⟩
end Go.Proofs.Ytlnfhlmgnppcbaa
