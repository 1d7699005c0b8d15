/- The program's Way walked. -/
import Derived.Test.YtbmlnjdfnjjjhaaY0
import Derived.Test.YtbmlnjdfnjjjhaaP2
import Derived.Test.YtbmlnjdfnjjjhaaB13
namespace Go.Proofs.Ytbmlnjdfnjjjhaa
open Go.RowKit
set_option linter.unusedVariables false
set_option linter.unusedSimpArgs false
open Rd
set_option maxHeartbeats 4000000 in
set_option maxRecDepth 100000 in
theorem way19 (N : Int) (ao : Option Addr) (m c : Nat) (E : Nat → Ed) (src dst : Int) (w : World) (hw : Net w ao m c E) :
    Calls Try.prog 19 #[.agg #[.int .i64 N, .slice ao m c], .int .i64 src, .int .i64 dst] w fun e w' => Wy N m E src dst w e w' := by
  obtain ⟨w0, hw0⟩ : ∃ w0, w0 = w.alloc (.cells #[.int .i64 N, .slice ao m c] 24) := ⟨_, rfl⟩
  have b0 : Below w.heap.size w w0 := by rw [hw0]; exact (Below.refl _ _).alloc (Nat.le_refl _) _
  have x0 : w0.heap[w.heap.size]? = some (.cells #[.int .i64 N, .slice ao m c] 24) := by rw [hw0]; exact heap_alloc_new w _
  have r0 : w0.cell? ⟨w.heap.size, 0, none⟩ = some (.int .i64 N) := cell_at x0 0
  have r1 : w0.cell? ⟨w.heap.size, 1, none⟩ = some (.slice ao m c) := cell_at x0 1
  have B0 := Lib.hid b0
  have HW := Lib.hid hw0
  have zb : w.heap.size < w0.heap.size := block_lt x0
  have n0 := Lib.hid (hw.below b0)
  have CK := check13 N ao m c E w0 n0.out
  obtain ⟨x, hx⟩ : ∃ x, x = roadE N m E := ⟨_, rfl⟩
  rw [← hx] at CK
  have HCK := Lib.hid CK
  have HX := Lib.hid hx
  clear hw b0 x0 hw0 CK hx
  by_cases h0 : x = 0
  · subst h0
    have ND := fun w1 => node24 N src (.slice ao m c) w1 rfl
    have ND2 := fun w1 => node24 N dst (.slice ao m c) w1 rfl
    obtain ⟨q, hq⟩ : ∃ q, q = nodeB N src := ⟨_, rfl⟩
    obtain ⟨q2, hq2⟩ : ∃ q, q = nodeB N dst := ⟨_, rfl⟩
    rw [← hq] at ND
    rw [← hq2] at ND2
    have HND := Lib.hid ND
    have HND2 := Lib.hid ND2
    have HQ := Lib.hid hq
    have HQ2 := Lib.hid hq2
    clear ND hq ND2 hq2
    go_enter Try.func19, Try.ntmps19
    go_wp2_with fail
    go_step3
    go_wp2_with fail
    rw [← HW.out]
    clear HW
    refine HCK.out.mono ?_
    rintro e w1 ⟨rfl, b1⟩
    have d0 := cell_kept b1 r0
    have d1 := cell_kept b1 r1
    have zd := szs (cell_lt d0)
    dsimp only at zd
    have B1 := Lib.hid b1
    have n1 := Lib.hid (n0.out.below b1)
    clear b1
    go_wp2_with fail
    refine (HND.out _).mono ?_
    rintro e w2 ⟨rfl, b2⟩
    have e0 := cell_kept b2 d0
    have e1 := cell_kept b2 d1
    have ze := szs (cell_lt e0)
    dsimp only at ze
    have B2 := Lib.hid ((B0.out.trans (B1.out.mono B0.out.size)).trans (b2.mono (by have := B0.out.size; have := B1.out.size; omega)))
    have n2 := Lib.hid (n1.out.below b2)
    clear b2 d0 d1 zd
    cases q
    · go_wp2_with fail
      go_returns
      exact ⟨B2.out, .inr (.inl ⟨HX.out.symm, by rw [← HQ.out]; rfl, rfl⟩)⟩
    · go_wp2_with fail
      refine (HND2.out _).mono ?_
      rintro e w3 ⟨rfl, b3⟩
      have g0 := cell_kept b3 e0
      have g1 := cell_kept b3 e1
      have zg := szs (cell_lt g0)
      dsimp only at zg
      have B3 := Lib.hid (B2.out.trans (b3.mono B2.out.size))
      have n3 := Lib.hid (n2.out.below b3)
      clear b3 e0 e1 ze
      cases q2
      · go_wp2_with fail
        go_returns
        exact ⟨B3.out, .inr (.inl ⟨HX.out.symm, by rw [← HQ.out, ← HQ2.out]; rfl, rfl⟩)⟩
      · obtain ⟨n, hn, hr⟩ := right_of HX.out.symm
        have hq : 0 ≤ src ∧ src < N := by have := HQ.out; simp [nodeB] at this; exact this
        have hq2 : 0 ≤ dst ∧ dst < N := by have := HQ2.out; simp [nodeB] at this; exact this
        obtain ⟨s, hs⟩ : ∃ s : Nat, src = (s : Int) := ⟨src.toNat, by omega⟩
        obtain ⟨t, ht⟩ : ∃ t : Nat, dst = (t : Int) := ⟨dst.toNat, by omega⟩
        subst hn hs ht
        have hsn : s < n := by omega
        have htn : t < n := by omega
        have ts : (s : Int) < (n : Int) := by omega
        have tt : (t : Int) < (n : Int) := by omega
        have hm512 := hr.m2
        have hn64 := hr.n2
        have HR := Lib.hid hr
        have OK := Lib.hid hr.bwd
        have SP := Lib.hid (spread28 n m c ao E t w3 n3.out hr htn)
        clear hr hq hq2 r0 r1
        go_wp2_with fail
        refine SP.out.mono ?_
        rintro e w4 ⟨b1, b2, fd, bs, be, rfl, hne, rw1, rw2, hfin, hb4⟩
        have k0 := cell_kept hb4 g0
        have k1 := cell_kept hb4 g1
        have zk := szs (cell_lt k0)
        dsimp only at zk
        have R1 := Lib.hid rw1
        have R2 := Lib.hid rw2
        have FIN := Lib.hid hfin
        have B4 := Lib.hid (B3.out.trans (hb4.mono B3.out.size))
        have n4 := Lib.hid (n3.out.below hb4)
        have p4 : w4.cell? ⟨b2, s, none⟩ = some (.bool (fd s)) := by have := Row.cell rw2 (ff_len fd) hsn (by decide : 0 < 1); simpa [ff] using this
        have z5 := szs (cell_lt p4)
        dsimp only at z5
        have fs := hfin (s : Int)
        obtain ⟨f, hf⟩ : ∃ f, f = fd s := ⟨_, rfl⟩
        rw [← hf] at p4 fs
        have HFS := Lib.hid fs
        clear rw1 rw2 hfin hb4 g0 g1 zg hf fs
        cases f
        · go_wp2_with fail
          go_returns
          exact ⟨B4.out, .inr (.inr ⟨n, s, t, HX.out.symm, rfl, rfl, hsn, rfl, htn, HR.out, .inl ⟨(fun h => by have := HFS.out.1.2 h; cases this), rfl⟩⟩)⟩
        · have CS := Lib.hid (HFS.out.1.1 rfl)
          have hes := Lib.hid (can_edg OK.out CS.out)
          go_wp2_with fail
          go_step3
          go_wp2_with fail
          have zw4 := B4.out.size
          go_loopg [11, 12] (edg (gr Ed.til Ed.frm n m E) t s).toNat (fun K ov av wr => ∃ (a : Nat) (gone : List Int), av = .int .i64 a ∧ a < n ∧ gone.length + K ≤ 64 ∧ Hid (Rd.Can (gr Ed.til Ed.frm n m E) t a ∧ edg (gr Ed.til Ed.frm n m E) t a = (K : Int) ∧ gone ++ wayL n m E t K a = wayL n m E t (edg (gr Ed.til Ed.frm n m E) t s).toNat s ∧ IsL wr w4.heap.size ov gone ∧ Below w4.heap.size w4 wr))
          case atStart => exact ⟨s, [], rfl, hsn, by have := can_few OK.out ⟨by omega, tt⟩ CS.out; have := hes.out; simp; omega, CS.out, by rw [Int.toNat_of_nonneg hes.out.1], rfl, IsL.nil _ _, Below.refl _ _⟩
          case round =>
            obtain ⟨a, gone, rfl, han, hg64, hrel⟩ := hrel
            have m0 := cell_kept hrel.out.2.2.2.2 k0
            have m1 := cell_kept hrel.out.2.2.2.2 k1
            have zm := szs (cell_lt m0)
            dsimp only at zm
            have hca := hrel.out.1
            by_cases hat : a = t
            · subst hat
              have hK : gk = 0 := by have := (home_iff OK.out hca).2 rfl; have := hrel.out.2.1; omega
              subst hK
              have HL := Lib.hid (show gone = wayL n m E a (edg (gr Ed.til Ed.frm n m E) a s).toNat s by have := hrel.out.2.2.1; rwa [show wayL n m E a 0 a = [] from rfl, List.append_nil] at this)
              have HE := Lib.hid (hrel.out.2.2.2.1.base_mono (base := w.heap.size) zw4)
              have HB := Lib.hid (B4.out.trans (hrel.out.2.2.2.2.mono B4.out.size))
              clear hca hrel
              go_wp2_with fail
              go_returns
              exact ⟨HB.out, .inr (.inr ⟨n, s, a, HX.out.symm, rfl, rfl, hsn, rfl, htn, HR.out, .inr ⟨_, CS.out, rfl, by rw [← HL.out]; exact HE.out⟩⟩)⟩
            · have hat' : ((a : Int) == (t : Int)) = false := by simp; omega
              have hat2 : ((a : Int) != (t : Int)) = true := by simp; omega
              have hex := Lib.hid (fit_some OK.out hca (by omega : (a : Int) ≠ (t : Int)))
              have hea := can_edg OK.out hca
              have hfa := can_few OK.out ⟨by omega, tt⟩ hca
              have HCA := Lib.hid hca
              obtain ⟨K, hK⟩ : ∃ K, gk = K + 1 := ⟨gk - 1, by have := mt (home_iff OK.out hca).1 (by omega); have := hrel.out.2.1; omega⟩
              have HO := hrel
              have HK := Lib.hid hK
              have ta : (a : Int) < (n : Int) := by omega
              clear hrel hca hat hK
              go_wp2_with fail
              obtain ⟨wo, rfl⟩ : ∃ wo : World, wo = wr := ⟨_, rfl⟩
              obtain ⟨ov, hov⟩ : ∃ ov, ov = u11 := ⟨_, rfl⟩
              rw [← hov]
              rw [← hov] at HO
              clear hov
              go_loopg [11, 12, 48] m (fun G ov' av iv wr => ∃ i : Nat, ov' = ov ∧ av = .int .i64 a ∧ iv = .int .i64 i ∧ i ≤ m ∧ G = m - i ∧ Hid ((∀ j, j < i → fit n m E t a j = false) ∧ Below wo.heap.size wo wr))
              case atStart => exact ⟨0, rfl, rfl, rfl, by omega, by omega, fun j hj => by omega, Below.refl _ _⟩
              case round =>
                obtain ⟨i, rfl, rfl, rfl, hi, rfl, hrel⟩ := hrel
                have BI := Lib.hid (HO.out.2.2.2.2.trans (hrel.out.2.mono HO.out.2.2.2.2.size))
                by_cases hlt : i < m
                · obtain ⟨g, o, hao, hg, e0, e1, e2⟩ := (n4.out.below BI.out).cells hlt
                  subst hao
                  have zg := szs hg
                  have ti : (i : Int) < (m : Int) := by omega
                  have rj := HR.out.hs i hlt
                  have htl := HR.out.ht i hlt
                  obtain ⟨u, hu⟩ : ∃ u : Nat, (E i).til = (u : Int) := ⟨(E i).til.toNat, by omega⟩
                  have hun : u < n := by omega
                  have tu : (u : Int) < (n : Int) := by omega
                  rw [hu] at e1
                  have rr1 := Row.off (X := fun _ => False) R1.out (Off.of_below BI.out) (fun _ _ h => h)
                  have rr2 := Row.off (X := fun _ => False) R2.out (Off.of_below BI.out) (fun _ _ h => h)
                  have p1 : wr.cell? ⟨b1, a * 2, none⟩ = some (.int .i64 (bs a)) := Row.cell rr1 (lf_len bs be) han (by decide : 0 < 2)
                  have p2 : wr.cell? ⟨b1, a * 2 + 1, none⟩ = some (.int .i64 (be a)) := Row.cell rr1 (lf_len bs be) han (by decide : 1 < 2)
                  have p3 : wr.cell? ⟨b1, u * 2, none⟩ = some (.int .i64 (bs u)) := Row.cell rr1 (lf_len bs be) hun (by decide : 0 < 2)
                  have p4 : wr.cell? ⟨b1, u * 2 + 1, none⟩ = some (.int .i64 (be u)) := Row.cell rr1 (lf_len bs be) hun (by decide : 1 < 2)
                  have p5 : wr.cell? ⟨b2, u, none⟩ = some (.bool (fd u)) := by have := Row.cell rr2 (ff_len fd) hun (by decide : 0 < 1); simpa [ff] using this
                  have z1 := szs (cell_lt p1)
                  have z2 := szs (cell_lt p5)
                  dsimp only at z1 z2
                  have fa := (FIN.out (a : Int)).2 HCA.out
                  have fu := FIN.out (u : Int)
                  have cu := fun h => can_edg OK.out (to := (t : Int)) (at_ := (u : Int)) h
                  have cf := fun h => can_few OK.out (to := (t : Int)) ⟨by omega, tt⟩ (at_ := (u : Int)) h
                  rw [fa.1] at p1
                  rw [fa.2] at p2
                  have hfit : fit n m E t a i = true ↔ ((E i).frm = a ∧ Rd.Can (gr Ed.til Ed.frm n m E) t u ∧ sec (gr Ed.til Ed.frm n m E) t a = sec (gr Ed.til Ed.frm n m E) t u + (E i).sec ∧ edg (gr Ed.til Ed.frm n m E) t a = edg (gr Ed.til Ed.frm n m E) t u + 1) := by rw [fit_iff, hu]
                  have HIT := Lib.hid (fun h : fit n m E t a i = true => first_eq hrel.out.1 h hlt)
                  have MISS := Lib.hid (fun h : fit n m E t a i = false => (fun (j : Nat) (hj : j < i + 1) => by
                    by_cases e : j = i
                    · subst e; exact h
                    · exact hrel.out.1 j (by omega) : ∀ j, j < i + 1 → fit n m E t a j = false))
                  have HU := Lib.hid hu
                  have HFIT := Lib.hid hfit
                  have HFU := Lib.hid fu
                  obtain ⟨f0, hf0⟩ : ∃ f0, f0 = (E i).frm := ⟨_, rfl⟩
                  obtain ⟨sc, hsc⟩ : ∃ s, s = (E i).sec := ⟨_, rfl⟩
                  obtain ⟨sa, hsa⟩ : ∃ s, s = sec (gr Ed.til Ed.frm n m E) t a := ⟨_, rfl⟩
                  obtain ⟨ea, hea'⟩ : ∃ s, s = edg (gr Ed.til Ed.frm n m E) t a := ⟨_, rfl⟩
                  obtain ⟨su, hsu⟩ : ∃ s, s = bs u := ⟨_, rfl⟩
                  obtain ⟨eu, heu⟩ : ∃ s, s = be u := ⟨_, rfl⟩
                  obtain ⟨f, hf⟩ : ∃ f, f = fd u := ⟨_, rfl⟩
                  rw [← hf0] at e0
                  rw [← hsc] at e2 rj
                  rw [← hsa] at p1
                  rw [← hea'] at p2
                  rw [← hsu] at p3
                  rw [← heu] at p4
                  rw [← hf] at p5
                  have HF0 := Lib.hid hf0
                  have HSC := Lib.hid hsc
                  have HSA := Lib.hid hsa
                  have HEA := Lib.hid hea'
                  have HSU := Lib.hid hsu
                  have HEU := Lib.hid heu
                  have HF := Lib.hid hf
                  obtain ⟨rj0, rj1⟩ := rj
                  have HCU := Lib.hid (And.intro cu cf)
                  have XE := Lib.hid (heap_alloc_new wr (.cells #[.int .i64 f0, .int .i64 u, .int .i64 sc] 43))
                  clear htl hu rr1 rr2 fa fu cu cf hfit hf0 hsc hsa hea' hsu heu hf
                  have HMISS : (f0 ≠ (a : Int) ∨ f = false ∨ sa ≠ su + sc ∨ ea ≠ eu + 1) → fit n m E t a i = false := fun h => by
                    cases hh : fit n m E t a i
                    · rfl
                    · exfalso
                      obtain ⟨q1, q2, q3, q4⟩ := HFIT.out.1 hh
                      have q5 := HFU.out.1.2 q2
                      have q6 := HFU.out.2 q2
                      rcases h with h | h | h | h
                      · exact h (by rw [HF0.out]; exact q1)
                      · rw [HF.out, q5] at h; cases h
                      · exact h (by rw [HSA.out, HSU.out, HSC.out, q6.1]; exact q3)
                      · exact h (by rw [HEA.out, HEU.out, q6.2]; exact q4)
                  have HM := Lib.hid HMISS
                  clear HMISS
                  by_cases c1 : f0 = (a : Int)
                  · subst c1
                    cases f
                    · have ML := Lib.hid (MISS.out (HM.out (.inr (.inl rfl))))
                      go_wp2_with fail
                      (refine region_all (fun i : Nat => World.drewN _ i) mixed (by kernel_rfl) ⟨1, rfl⟩ ?_; (repeat (any_goals (first | go_big_quiet_step (fail) | quiet_step (fail) | (refine wpQuiet_step (fun K hK => ?_); go_simp; split <;> (refine hK _ ?_; clear hK K))))); (all_goals (refine wpQuiet_nil (fun nq => ?_))))
                      all_goals go_wp2_with fail
                      all_goals go_roundg (m - (i + 1))
                      case measure => omega
                      case rel => exact ⟨i + 1, rfl, rfl, by go_num, by omega, rfl, ML.out, by have := hrel.out.2; (have hszz := (this).size; (repeat' (first | (with_reducible exact Below.refl _ _) | (with_reducible assumption) | (with_reducible refine Below.drew ?_) | (with_reducible refine below_drewN ?_ _) | (with_reducible refine Below.alloc ?_ ?_ _) | (with_reducible refine Below.setCell ?_ ?_ _) | go_size)))⟩
                    · have hcan := HFU.out.1.1 HF.out.symm
                      have q6 := HFU.out.2 hcan
                      have q7 := HCU.out.1 hcan
                      have q8 := HCU.out.2 hcan
                      rw [← q6.1, ← q6.2, ← HSU.out, ← HEU.out] at q7
                      rw [← q6.2, ← HEU.out] at q8
                      obtain ⟨q71, q72, q73⟩ := q7
                      have Q6 := Lib.hid q6
                      have HCN := Lib.hid hcan
                      clear q6 hcan
                      by_cases c2 : sa = su + sc
                      · by_cases c3 : ea = eu + 1
                        · have hfi : fit n m E t a i = true := HFIT.out.2 ⟨HF0.out.symm, HCN.out, by rw [← HSA.out, ← Q6.out.1, ← HSU.out, ← HSC.out]; exact c2, by rw [← HEA.out, ← Q6.out.2, ← HEU.out]; exact c3⟩
                          have HFI := Lib.hid (HIT.out hfi)
                          have HC3 := Lib.hid c3
                          subst c2
                          have c3' : (ea == eu + 1) = true := by simp [c3]
                          clear hfi c3
                          go_wp2_with fail
                          (refine region_all (fun i : Nat => World.drewN _ i) mixed (by kernel_rfl) ⟨1, rfl⟩ ?_; (repeat (any_goals (first | go_big_quiet_step (fail) | quiet_step (fail) | (refine wpQuiet_step (fun K hK => ?_); go_simp; split <;> (refine hK _ ?_; clear hK K))))); (all_goals (refine wpQuiet_nil (fun nq => ?_))))
                          obtain ⟨w5, hw5⟩ : ∃ w5, w5 = (wr.alloc (.cells #[.int .i64 a, .int .i64 u, .int .i64 sc] 43)).drewN nq := ⟨_, rfl⟩
                          rw [← hw5]
                          have b5 : Below wr.heap.size wr w5 := by rw [hw5]; exact below_drewN ((Below.refl _ _).alloc (Nat.le_refl _) _) _
                          have x5 : w5.heap[wr.heap.size]? = some (.cells #[.int .i64 a, .int .i64 u, .int .i64 sc] 43) := by
                            have hx := heap_alloc_new wr (.cells #[.int .i64 a, .int .i64 u, .int .i64 sc] 43)
                            rw [hw5]; exact ((below_drewN (Below.refl _ _) nq).block _ (block_lt hx)).trans hx
                          have bo := hrel.out.2.trans (b5.mono hrel.out.2.size)
                          have b6 : Below w5.heap.size w5 (w5.alloc (.cells #[.int .i64 i] 3)) := (Below.refl _ _).alloc (Nat.le_refl _) _
                          have L6 := Lib.hid ((HO.out.2.2.2.1.below bo).below b6)
                          have B6 := Lib.hid ((HO.out.2.2.2.2.trans (bo.mono HO.out.2.2.2.2.size)).trans (b6.mono (by have := HO.out.2.2.2.2.size; have := bo.size; omega)))
                          have y1 : w5.cell? ⟨wr.heap.size, 1, none⟩ = some (.int .i64 u) := cell_at x5 1
                          have zy := szs (block_lt x5)
                          have X5 := Lib.hid x5
                          obtain ⟨i0, hi0, hz0, hz1, hz2⟩ := info_parts info3
                          clear hw5 b5 x5 bo b6 p1 p2 p3 p4 p5 e0 e1 e2
                          go_wp2_with (at_builtin; refine wpList_append_row _ rfl _ _ 27 rfl w4.heap.size 3 i0 _ 1 8 Try.underlying27 hi0 hz0 hz1 hz2 rfl (by decide) _ gone.length (fun i => [.int .i64 (gone.getD i 0)]) rfl L6.out (fun _ => rfl) w5.heap.size 1 [.int .i64 i] rfl rfl 3 (0, 0) (heap_alloc_new w5 _) (int_one i) (by omega) (by unfold maxLen; omega) B6.out.size ?_)
                          intro g' cap' w7 hc1' hc2' hbg' hgl' hown hr7 hg7
                          have o7 := Off.of_grown hg7
                          have l7 := Lib.hid (IsL.of_push hr7)
                          have B7 := Lib.hid (B6.out.trans (o7.toBelow B6.out.size (fun b hb e => by have := (L6.out.own b e.symm).1; omega)))
                          have x7 := (o7.block _ (by have := block_lt X5.out; simp; omega) (fun e => by have := (HO.out.2.2.2.1.own _ e.symm).2; have := hrel.out.2.size; omega)).trans ((((Below.refl w5.heap.size w5).alloc (Nat.le_refl _) (.cells #[.int .i64 i] 3)).block _ (block_lt X5.out)).trans X5.out)
                          have y7 : w7.cell? ⟨wr.heap.size, 1, none⟩ = some (.int .i64 u) := cell_at x7 1
                          have z7 := szs (block_lt x7)
                          clear o7 hr7 hg7 hown x7 y1 zy hi0 hz0 hz1 hz2
                          have HED : Hid (edg (gr Ed.til Ed.frm n m E) t u = (K : Int)) := Lib.hid (by rw [← Q6.out.2, ← HEU.out]; have := HO.out.2.1; rw [← HEA.out, HC3.out] at this; have := HK.out; omega)
                          have HWL : Hid ((gone ++ [(i : Int)]) ++ wayL n m E t K u = wayL n m E t (edg (gr Ed.til Ed.frm n m E) t s).toNat s) := Lib.hid (by
                            rw [← HO.out.2.2.1, HK.out]
                            show _ = gone ++ ((first (fit n m E t a) m : Int) :: wayL n m E t K (E (first (fit n m E t a) m)).til)
                            rw [HFI.out, HU.out]; simp)
                          have hgK : gone.length + 1 + K ≤ 64 := by have := HK.out; omega
                          go_wp2_with fail
                          go_roundg K
                          case measure => have := HK.out; omega
                          case rel => exact ⟨u, gone ++ [(i : Int)], rfl, hun, by simp; omega, HCN.out, HED.out, HWL.out, by have := l7.out; simpa using this, B7.out⟩
                        · have c2' : (sa == su + sc) = true := by simp [c2]
                          have c3' : (ea == eu + 1) = false := by simp [c3]
                          have ML := Lib.hid (MISS.out (HM.out (.inr (.inr (.inr c3)))))
                          clear c2 c3
                          go_wp2_with fail
                          (refine region_all (fun i : Nat => World.drewN _ i) mixed (by kernel_rfl) ⟨1, rfl⟩ ?_; (repeat (any_goals (first | go_big_quiet_step (fail) | quiet_step (fail) | (refine wpQuiet_step (fun K hK => ?_); go_simp; split <;> (refine hK _ ?_; clear hK K))))); (all_goals (refine wpQuiet_nil (fun nq => ?_))))
                          all_goals go_wp2_with fail
                          all_goals go_roundg (m - (i + 1))
                          case measure => omega
                          case rel => exact ⟨i + 1, rfl, rfl, by go_num, by omega, rfl, ML.out, by have := hrel.out.2; (have hszz := (this).size; (repeat' (first | (with_reducible exact Below.refl _ _) | (with_reducible assumption) | (with_reducible refine Below.drew ?_) | (with_reducible refine below_drewN ?_ _) | (with_reducible refine Below.alloc ?_ ?_ _) | (with_reducible refine Below.setCell ?_ ?_ _) | go_size)))⟩
                      · have c2' : (sa == su + sc) = false := by simp [c2]
                        have ML := Lib.hid (MISS.out (HM.out (.inr (.inr (.inl c2)))))
                        clear c2
                        go_wp2_with fail
                        (refine region_all (fun i : Nat => World.drewN _ i) mixed (by kernel_rfl) ⟨1, rfl⟩ ?_; (repeat (any_goals (first | go_big_quiet_step (fail) | quiet_step (fail) | (refine wpQuiet_step (fun K hK => ?_); go_simp; split <;> (refine hK _ ?_; clear hK K))))); (all_goals (refine wpQuiet_nil (fun nq => ?_))))
                        all_goals go_wp2_with fail
                        all_goals go_roundg (m - (i + 1))
                        case measure => omega
                        case rel => exact ⟨i + 1, rfl, rfl, by go_num, by omega, rfl, ML.out, by have := hrel.out.2; (have hszz := (this).size; (repeat' (first | (with_reducible exact Below.refl _ _) | (with_reducible assumption) | (with_reducible refine Below.drew ?_) | (with_reducible refine below_drewN ?_ _) | (with_reducible refine Below.alloc ?_ ?_ _) | (with_reducible refine Below.setCell ?_ ?_ _) | go_size)))⟩
                  · have c1' : (f0 == (a : Int)) = false := by simp [c1]
                    have ML := Lib.hid (MISS.out (HM.out (.inl c1)))
                    clear c1
                    go_wp2_with fail
                    (refine region_all (fun i : Nat => World.drewN _ i) mixed (by kernel_rfl) ⟨1, rfl⟩ ?_; (repeat (any_goals (first | go_big_quiet_step (fail) | quiet_step (fail) | (refine wpQuiet_step (fun K hK => ?_); go_simp; split <;> (refine hK _ ?_; clear hK K))))); (all_goals (refine wpQuiet_nil (fun nq => ?_))))
                    all_goals go_wp2_with fail
                    all_goals go_roundg (m - (i + 1))
                    case measure => omega
                    case rel => exact ⟨i + 1, rfl, rfl, by go_num, by omega, rfl, ML.out, by have := hrel.out.2; (have hszz := (this).size; (repeat' (first | (with_reducible exact Below.refl _ _) | (with_reducible assumption) | (with_reducible refine Below.drew ?_) | (with_reducible refine below_drewN ?_ _) | (with_reducible refine Below.alloc ?_ ?_ _) | (with_reducible refine Below.setCell ?_ ?_ _) | go_size)))⟩
                · exfalso
                  obtain ⟨j, hj, hj2⟩ := hex.out
                  have := hrel.out.1 j (by omega)
                  rw [this] at hj2; cases hj2
  · have h0' : (x != 0) = true := by simp [h0]
    have H0 := Lib.hid h0
    clear h0
    go_enter Try.func19, Try.ntmps19
    go_wp2_with fail
    go_step3
    go_wp2_with fail
    rw [← HW.out]
    clear HW
    refine HCK.out.mono ?_
    rintro e w1 ⟨rfl, b1⟩
    have B1 := Lib.hid b1
    clear b1
    go_wp2_with fail
    go_returns
    exact ⟨B0.out.trans (B1.out.mono B0.out.size), .inl ⟨by rw [← HX.out]; exact H0.out, by rw [← HX.out]; rfl⟩⟩
end Go.Proofs.Ytbmlnjdfnjjjhaa
