/- The law RoadBest. -/
import Derived.Test.YtbmlnjdfnjjjhaaL2
import Derived.Test.YtbmlnjdfnjjjhaaL4
namespace Go.Proofs.Ytbmlnjdfnjjjhaa
open Go.RowKit Go.ChangeShapes Go.WideShapes Go.Deep
set_option linter.unusedVariables false
set_option linter.unusedSimpArgs false
open Rd
theorem wkL_node {n m : Nat} {E : Nat → Ed} (hr : Right n m E) : ∀ {l : List Int} {u s t : Int}, 0 ≤ u ∧ u < n → wkL m E u l = some (s, t) → 0 ≤ t ∧ t < n
  | [], u, s, t, hu, h => by simp [wkL] at h; obtain ⟨rfl, rfl⟩ := h; exact hu
  | x :: l, u, s, t, hu, h => by
    unfold wkL at h
    split at h
    · rename_i hx
      rw [Option.map_eq_some_iff] at h
      obtain ⟨⟨s', t'⟩, h1, h2⟩ := h
      simp at h2
      have := wkL_node hr (hr.ht x.toNat (by omega)) h1
      rw [h2.2] at this; exact this
    · cases h
theorem open_list {H : Type} {enc : TypeId × Value → H} {W : World} {base : Nat} {v : Value} {d : DataW H} {p : List MemPlace} (hv : Value.okWide Try.prog W .any base 27 v) (h : DataW.Trod enc Try.prog W 0 (fun _ => true) true 27 v d p) :
    ∃ (a : Option Addr) (c : Nat) (l : List Int), v = .slice a l.length c ∧ l.length ≤ c ∧ c ≤ 9223372036854775807 ∧ Ints W a l.length (fun i => l.getD i 0) := by
  obtain ⟨a, n, c, K, rfl, h1, h2, h3⟩ := open_nums hv h
  have e : ((List.range n).map K).length = n := by simp
  refine ⟨a, c, (List.range n).map K, by rw [e], by omega, h2, ?_⟩
  rw [e]
  exact h3.congr fun i hi => by simp [List.getD, hi]
set_option maxHeartbeats 8000000 in
set_option maxRecDepth 100000 in
theorem run_roadBest {H : Type} {enc : TypeId × Value → H} (W : World) (base : Nat) (v0 : Value) (d0 : DataW H) (p0 : List MemPlace) (hv0 : Value.okWide Try.prog W .any base 24 v0) (h0 : DataW.Trod enc Try.prog W 0 (fun _ => true) true 24 v0 d0 p0)
    (v1 : Value) (d1 : DataW H) (p1 : List MemPlace) (hv1 : Value.okWide Try.prog W .any base 3 v1) (h1 : DataW.Trod enc Try.prog W 0 (fun _ => true) true 3 v1 d1 p1)
    (v2 : Value) (d2 : DataW H) (p2 : List MemPlace) (hv2 : Value.okWide Try.prog W .any base 27 v2) (h2 : DataW.Trod enc Try.prog W 0 (fun _ => true) true 27 v2 d2 p2) :
    Calls Try.prog 7 #[v0, v1, v2] W fun e w' => e = .returned (.bool true) ∧ Below W.heap.size W w' := by
  obtain ⟨N, ao, m, c, E, rfl, _, hn, _⟩ := open_road hv0 h0
  obtain ⟨src, rfl, rfl, rfl, _⟩ := open_int Try.underlying3 hv1 h1
  obtain ⟨aw, cw, l, rfl, hlc, hcw, hl⟩ := open_list hv2 h2
  clear hv0 h0 hv1 h1 hv2 h2
  obtain ⟨w0, hw0⟩ : ∃ w0, w0 = W.alloc (.cells #[.int .i64 N, .slice ao m c] 24) := ⟨_, rfl⟩
  have b0 : Below W.heap.size W w0 := by rw [hw0]; exact (Below.refl _ _).alloc (Nat.le_refl _) _
  have x0 : w0.heap[W.heap.size]? = some (.cells #[.int .i64 N, .slice ao m c] 24) := by rw [hw0]; exact heap_alloc_new W _
  have r0 : w0.cell? ⟨W.heap.size, 0, none⟩ = some (.int .i64 N) := cell_at x0 0
  have r1 : w0.cell? ⟨W.heap.size, 1, none⟩ = some (.slice ao m c) := cell_at x0 1
  have B0 := Lib.hid b0
  have HW := Lib.hid hw0
  have n0 := Lib.hid (hn.below b0)
  have k0 := Lib.hid (hl.below b0)
  have FW := few9 N ao m c w0 hn.hm hn.hc
  obtain ⟨f, hf⟩ : ∃ f, f = decide (m ≤ 60 ∨ (512 < m ∧ m ≤ 600)) := ⟨_, rfl⟩
  rw [← hf] at FW
  have HFW := Lib.hid FW
  obtain ⟨q, hq⟩ : ∃ q, q = l.length := ⟨_, rfl⟩
  rw [← hq] at k0 hlc ⊢
  have HQ := Lib.hid hq
  clear hn b0 x0 hw0 FW hf hl hq
  go_enter Try.func7, Try.ntmps7
  go_wp2_with fail
  rw [← HW.out]
  clear HW
  refine HFW.out.mono ?_
  rintro e w1 ⟨rfl, b1⟩
  have d0 := cell_kept b1 r0
  have d1 := cell_kept b1 r1
  have zd := szs (cell_lt d0)
  dsimp only at zd
  have B1 := Lib.hid (B0.out.trans (b1.mono B0.out.size))
  have n1 := Lib.hid (n0.out.below b1)
  have k1 := Lib.hid (k0.out.below b1)
  clear b1 r0 r1
  have AW : Hid (∀ w', Calls Try.prog 10 #[] w' fun e w'' => e = .returned (.bool true) ∧ Below w'.heap.size w' w'') := Lib.hid awake10
  cases f
  · go_wp2_with fail
    refine (AW.out _).mono ?_
    rintro e w2 ⟨rfl, b2⟩
    have B2 := Lib.hid (B1.out.trans (b2.mono B1.out.size))
    clear b2
    go_wp2_with fail
    go_returns
    exact ⟨rfl, B2.out⟩
  by_cases hq100 : 100 < q
  · have tq : (100 : Int) < (q : Int) := by omega
    go_wp2_with fail
    refine (AW.out _).mono ?_
    rintro e w2 ⟨rfl, b2⟩
    have B2 := Lib.hid (B1.out.trans (b2.mono B1.out.size))
    clear b2
    go_wp2_with fail
    go_returns
    exact ⟨rfl, B2.out⟩
  have tq : (q : Int) ≤ 100 := by omega
  have CK := check14 N ao m c E w1 n1.out
  obtain ⟨re, hre⟩ : ∃ x, x = roadE N m E := ⟨_, rfl⟩
  rw [← hre] at CK
  have HCK := Lib.hid CK
  have HRE := Lib.hid hre
  clear CK hre
  go_wp2_with fail
  refine HCK.out.mono ?_
  rintro e w2 ⟨rfl, b2⟩
  have e0 := cell_kept b2 d0
  have e1 := cell_kept b2 d1
  have ze := szs (cell_lt e0)
  dsimp only at ze
  have B2 := Lib.hid (B1.out.trans (b2.mono B1.out.size))
  have n2 := Lib.hid (n1.out.below b2)
  have k2 := Lib.hid (k1.out.below b2)
  clear b2 d0 d1 zd
  by_cases hre0 : re = 0
  · subst hre0
    have ND := node21 N src (.slice ao m c) w2 rfl
    obtain ⟨nb, hnb⟩ : ∃ x, x = nodeB N src := ⟨_, rfl⟩
    rw [← hnb] at ND
    have HND := Lib.hid ND
    have HNB := Lib.hid hnb
    clear ND hnb
    go_wp2_with fail
    refine HND.out.mono ?_
    rintro e w3 ⟨rfl, b3⟩
    have f0 := cell_kept b3 e0
    have f1 := cell_kept b3 e1
    have zf := szs (cell_lt f0)
    dsimp only at zf
    have B3 := Lib.hid (B2.out.trans (b3.mono B2.out.size))
    have n3 := Lib.hid (n2.out.below b3)
    have k3 := Lib.hid (k2.out.below b3)
    clear b3 e0 e1 ze
    cases nb
    · go_wp2_with fail
      refine (AW.out _).mono ?_
      rintro e w4 ⟨rfl, b4⟩
      have B4 := Lib.hid (B3.out.trans (b4.mono B3.out.size))
      clear b4
      go_wp2_with fail
      go_returns
      exact ⟨rfl, B4.out⟩
    obtain ⟨n, hN, hr⟩ := right_of HRE.out.symm
    have hsr : 0 ≤ src ∧ src < N := by have h := HNB.out; simp [nodeB] at h; exact h
    obtain ⟨s, hs⟩ : ∃ s : Nat, src = (s : Int) := ⟨src.toNat, by omega⟩
    subst hN hs
    have hsn : s < n := by omega
    have HR := Lib.hid hr
    have hm512 := hr.m2
    have hn64 := hr.n2
    have WK := walk22 n m c ao E s aw l cw w3 n3.out hr (by rw [← HQ.out]; exact k3.out) (by rw [← HQ.out]; exact hlc) hcw (by rw [← HQ.out]; omega)
    rw [← HQ.out] at WK
    have HWK := Lib.hid WK
    clear WK hr hsr
    go_wp2_with fail
    refine HWK.out.mono ?_
    rintro e w4 ⟨rfl, b4⟩
    have g0 := cell_kept b4 f0
    have g1 := cell_kept b4 f1
    have zg := szs (cell_lt g0)
    dsimp only at zg
    have B4 := Lib.hid (B3.out.trans (b4.mono B3.out.size))
    have n4 := Lib.hid (n3.out.below b4)
    have k4 := Lib.hid (k3.out.below b4)
    clear b4 f0 f1 zf HWK
    obtain ⟨o, ho⟩ : ∃ o, o = wkL m E s l := ⟨_, rfl⟩
    rw [← ho]
    have HO := Lib.hid ho
    clear ho
    cases o with
    | none =>
      unfold wv
      go_wp2_with fail
      refine (AW.out _).mono ?_
      rintro e w5 ⟨rfl, b5⟩
      have B5 := Lib.hid (B4.out.trans (b5.mono B4.out.size))
      clear b5
      go_wp2_with fail
      go_returns
      exact ⟨rfl, B5.out⟩
    | some st =>
      obtain ⟨s1, t1⟩ := st
      have htn := wkL_node HR.out (show 0 ≤ (s : Int) ∧ (s : Int) < (n : Int) by omega) HO.out.symm
      obtain ⟨t, ht⟩ : ∃ t : Nat, t1 = (t : Int) := ⟨t1.toNat, by omega⟩
      subst ht
      have htn' : t < n := by omega
      have hrc := wkL_rc (n := n) HO.out.symm
      have hcan : Rd.Can (gr Ed.til Ed.frm n m E) t s := hrc.best HR.out.bwd
      have hle := hcan.best.2 _ _ hrc
      have hrn := hrc.nonneg HR.out.bwd
      rw [← HQ.out] at hle hrn
      have hwv := (wayV_ok (E := E) HRE.out.symm hsn htn').1 hcan
      have hed := can_edg HR.out.bwd hcan
      have hfew := can_few HR.out.bwd ⟨by omega, by omega⟩ hcan
      obtain ⟨L, hL⟩ : ∃ L, L = wayL n m E t (edg (gr Ed.til Ed.frm n m E) t s).toNat s := ⟨_, rfl⟩
      have hLl : (L.length : Int) = edg (gr Ed.til Ed.frm n m E) t s := by rw [hL, wayL_len, Int.toNat_of_nonneg hed.1]
      have hLw := wayL_walk HR.out.bwd (edg (gr Ed.til Ed.frm n m E) t s).toNat s hcan (by rw [Int.toNat_of_nonneg hed.1])
      rw [← hL] at hLw
      have hLeast : sec (gr Ed.til Ed.frm n m E) t s = s1 → L.length = q → ∀ i, i < q → (∀ j, j < i → L.getD j 0 = l.getD j 0) → L.getD i 0 ≤ l.getD i 0 := fun h1 h2 i hi hj => by
        have := wayL_least HR.out.bwd (edg (gr Ed.til Ed.frm n m E) t s).toNat s l hcan (by rw [Int.toNat_of_nonneg hed.1]) (by rw [← HQ.out, ← h2, hL, wayL_len]) (by rw [h1]; exact HO.out.symm) i (by have := hLl; omega) (by rw [← hL]; exact hj)
        rw [← hL] at this; exact this
      have WY := way19 n ao m c E s t w4 n4.out
      obtain ⟨sb, hsb⟩ : ∃ x, x = sec (gr Ed.til Ed.frm n m E) t s := ⟨_, rfl⟩
      rw [← hsb] at hle hLw hLeast hed
      rw [← hLl] at hle hed hfew
      have HWY := Lib.hid WY
      have HWV := Lib.hid hwv
      have HL := Lib.hid hL
      have HLW := Lib.hid hLw
      have HLE := Lib.hid hLeast
      have t64 : (L.length : Int) ≤ 64 := by omega
      have hle' : sb < s1 ∨ (sb = s1 ∧ (L.length : Int) ≤ (q : Int)) := hle
      have tt : (t : Int) < (n : Int) := by omega
      have bsb : 0 ≤ sb ∧ sb ≤ 64000 := by omega
      have bs1 : 0 ≤ s1 ∧ s1 ≤ 100000 := by omega
      unfold wv
      clear hrc hcan hle hrn hwv hed hfew hL hLl hLw hLeast WY hsb htn
      go_wp2_with fail
      refine HWY.out.mono ?_
      rintro e w5 hT
      obtain ⟨a3, c3, rfl, u3, x3, i3, b5⟩ := hT.val
      rw [HWV.out, ← HL.out] at u3 i3 ⊢
      dsimp only at u3 i3 ⊢
      have v0 := cell_kept b5 g0
      have v1 := cell_kept b5 g1
      have zv := szs (cell_lt v0)
      dsimp only at zv
      have B5 := Lib.hid (B4.out.trans (b5.mono B4.out.size))
      have n5 := Lib.hid (n4.out.below b5)
      have k5 := Lib.hid (k4.out.below b5)
      have WK := walk22 n m c ao E s a3 L c3 w5 n5.out HR.out i3 u3 x3 (by omega)
      rw [HLW.out] at WK
      have I5 := Lib.hid i3
      obtain ⟨ll, hll⟩ : ∃ x, x = L.length := ⟨_, rfl⟩
      rw [← hll] at WK I5 u3 t64 hle' ⊢
      rw [← hll] at HLE
      have HLL := Lib.hid hll
      have HWK := Lib.hid WK
      clear WK i3 b5 g0 g1 zg hT hll
      go_wp2_with fail
      refine HWK.out.mono ?_
      rintro e w6 ⟨rfl, b6⟩
      have B6 := Lib.hid (B5.out.trans (b6.mono B5.out.size))
      have k6 := Lib.hid (k5.out.below b6)
      have I6 := Lib.hid (I5.out.below b6)
      unfold wv
      clear b6 v0 v1 zv HWK
      rcases hle' with h1 | ⟨rfl, h1⟩
      · have gg : (sb == s1) = false := by simp; omega
        go_wp2_with fail
        refine (AW.out _).mono ?_
        rintro e w7 ⟨rfl, b7⟩
        have B7 := Lib.hid (B6.out.trans (b7.mono B6.out.size))
        clear b7
        go_wp2_with fail
        go_returns
        exact ⟨rfl, B7.out⟩
      · by_cases h2 : ll < q
        · have t2 : (ll : Int) < (q : Int) := by omega
          go_wp2_with fail
          refine (AW.out _).mono ?_
          rintro e w7 ⟨rfl, b7⟩
          have B7 := Lib.hid (B6.out.trans (b7.mono B6.out.size))
          clear b7
          go_wp2_with fail
          go_returns
          exact ⟨rfl, B7.out⟩
        · obtain rfl : ll = q := by omega
          have HLS := Lib.hid (HLE.out rfl rfl)
          clear HLE h1 h2
          go_wp2_with fail
          go_loopw [15] (fun iv wr => ∃ i : Nat, iv = .int .i64 i ∧ i ≤ ll ∧ Hid ((∀ j, j < i → L.getD j 0 = l.getD j 0) ∧ Below w6.heap.size w6 wr)) (fun iv _ => ll - (intOf iv).toNat)
          case atStart => exact ⟨0, rfl, by omega, fun j hj => by omega, Below.refl _ _⟩
          case round =>
            obtain ⟨i, rfl, hi, hrel⟩ := hrel
            have BR := Lib.hid (B6.out.trans (hrel.out.2.mono B6.out.size))
            by_cases hlt : i < ll
            · obtain ⟨g1, o1, hao, hg1, y1⟩ := (I6.out.below hrel.out.2).cell hlt
              subst hao
              obtain ⟨g2, o2, hao, hg2, y2⟩ := (k6.out.below hrel.out.2).cell hlt
              subst hao
              have z1 := szs hg1
              have z2 := szs hg2
              have ti : (i : Int) < (ll : Int) := by omega
              have hls := HLS.out i hlt hrel.out.1
              obtain ⟨x1, hx1⟩ : ∃ x, x = L.getD i 0 := ⟨_, rfl⟩
              obtain ⟨x2, hx2⟩ : ∃ x, x = l.getD i 0 := ⟨_, rfl⟩
              rw [← hx1] at y1 hls
              rw [← hx2] at y2 hls
              have HX1 := Lib.hid hx1
              have HX2 := Lib.hid hx2
              clear hx1 hx2
              by_cases hxx : x1 = x2
              · have HXX := Lib.hid hxx
                subst hxx
                have HN : Hid (∀ j, j < i + 1 → L.getD j 0 = l.getD j 0) := Lib.hid (fun j hj => by
                  by_cases e : j = i
                  · subst e; rw [← HX1.out, ← HX2.out]
                  · exact hrel.out.1 j (by omega))
                go_wp2_with fail
                (refine region_all (fun i : Nat => World.drewN _ i) mixed (by kernel_rfl) ⟨1, rfl⟩ ?_; (repeat (any_goals (first | go_big_quiet_step (fail) | quiet_step (fail) | (refine wpQuiet_step (fun K hK => ?_); go_simp; split <;> (refine hK _ ?_; clear hK K))))); (all_goals (refine wpQuiet_nil (fun nq => ?_))))
                go_wp2_with fail
                go_roundw
                case rel => exact ⟨i + 1, by go_num, by omega, Lib.hid ⟨HN.out, by have := hrel.out.2; (have hszz := (this).size; (repeat' (first | (with_reducible exact Below.refl _ _) | (with_reducible assumption) | (with_reducible refine Below.drew ?_) | (with_reducible refine below_drewN ?_ _) | (with_reducible refine Below.alloc ?_ ?_ _) | (with_reducible refine Below.setCell ?_ ?_ _) | go_size)))⟩⟩
                case measure => simp [intOf]; omega
              · have gg : (x1 != x2) = true := by simp [hxx]
                have hlt2 : x1 < x2 := by omega
                clear hxx
                go_wp2_with fail
                (refine region_all (fun i : Nat => World.drewN _ i) mixed (by kernel_rfl) ⟨1, rfl⟩ ?_; (repeat (any_goals (first | go_big_quiet_step (fail) | quiet_step (fail) | (refine wpQuiet_step (fun K hK => ?_); go_simp; split <;> (refine hK _ ?_; clear hK K))))); (all_goals (refine wpQuiet_nil (fun nq => ?_))))
                obtain ⟨w7, hw7⟩ : ∃ w7, w7 = wr.drewN nq := ⟨_, rfl⟩
                go_wp2_with fail
                rw [← hw7]
                have b7 : Below wr.heap.size wr w7 := by rw [hw7]; exact below_drewN (Below.refl _ _) _
                have y3 := cell_kept b7 y1
                have y4 := cell_kept b7 y2
                have z3 := szs (cell_lt y3)
                have z4 := szs (cell_lt y4)
                dsimp only at z3 z4
                have B7 := Lib.hid (BR.out.trans (b7.mono BR.out.size))
                clear b7 hw7 y1 y2
                (refine region_drawn 10 mixed (by kernel_rfl) ?_; simp only [List.take_succ_cons, List.take_zero, List.drop_succ_cons, List.drop_zero]; (repeat (any_goals (first | go_big_quiet_step (fail) | quiet_step (fail) | (refine wpQuiet_step (fun K hK => ?_); go_simp; split <;> (refine hK _ ?_; clear hK K))))); (all_goals (refine wpQuiet_nil (fun nq => ?_))))
                go_wp2_with fail
                refine (AW.out _).mono ?_
                rintro e w8 ⟨rfl, b8⟩
                have B8 := Lib.hid ((B7.out.trans ((below_drewN (Below.refl _ _) _).mono B7.out.size)).trans (b8.mono (by have := (below_drewN (Below.refl w7.heap.size w7) nq).size; have := B7.out.size; omega)))
                clear b8
                go_wp2_with fail
                go_returns
                exact ⟨rfl, B8.out⟩
            · obtain rfl : i = ll := by omega
              go_wp2_with fail
              refine (AW.out _).mono ?_
              rintro e w7 ⟨rfl, b7⟩
              have B7 := Lib.hid (BR.out.trans (b7.mono BR.out.size))
              clear b7
              go_wp2_with fail
              go_returns
              exact ⟨rfl, B7.out⟩
  · have h0' : (re != 0) = true := by simp [hre0]
    clear hre0
    go_wp2_with fail
    refine (AW.out _).mono ?_
    rintro e w3 ⟨rfl, b3⟩
    have B3 := Lib.hid (B2.out.trans (b3.mono B2.out.size))
    clear b3
    go_wp2_with fail
    go_returns
    exact ⟨rfl, B3.out⟩
end Go.Proofs.Ytbmlnjdfnjjjhaa
