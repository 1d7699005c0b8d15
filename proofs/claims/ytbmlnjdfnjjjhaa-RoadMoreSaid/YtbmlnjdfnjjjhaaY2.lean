/- The reference's Way walked. -/
import Derived.Test.YtbmlnjdfnjjjhaaY0
import Derived.Test.YtbmlnjdfnjjjhaaT1
import Derived.Test.YtbmlnjdfnjjjhaaB14
namespace Go.Proofs.Ytbmlnjdfnjjjhaa
open Go.RowKit
set_option linter.unusedVariables false
set_option linter.unusedSimpArgs false
open Rd
set_option maxHeartbeats 4000000 in
set_option maxRecDepth 100000 in
theorem way20 (N : Int) (ao : Option Addr) (m c : Nat) (E : Nat → Ed) (src dst : Int) (w : World) (hw : Net w ao m c E) :
    Calls Try.prog 20 #[.agg #[.int .i64 N, .slice ao m c], .int .i64 src, .int .i64 dst] w fun e w' => Wy N m E src dst w e w' := by
  obtain ⟨w0, hw0⟩ : ∃ w0, w0 = w.alloc (.cells #[.int .i64 N, .slice ao m c] 24) := ⟨_, rfl⟩
  have b0 : Below w.heap.size w w0 := by rw [hw0]; exact (Below.refl _ _).alloc (Nat.le_refl _) _
  have x0 : w0.heap[w.heap.size]? = some (.cells #[.int .i64 N, .slice ao m c] 24) := by rw [hw0]; exact heap_alloc_new w _
  have r0 : w0.cell? ⟨w.heap.size, 0, none⟩ = some (.int .i64 N) := cell_at x0 0
  have r1 : w0.cell? ⟨w.heap.size, 1, none⟩ = some (.slice ao m c) := cell_at x0 1
  have B0 := Lib.hid b0
  have HW := Lib.hid hw0
  have zb : w.heap.size < w0.heap.size := block_lt x0
  have n0 := Lib.hid (hw.below b0)
  have CK := check14 N ao m c E w0 n0.out
  obtain ⟨x, hx⟩ : ∃ x, x = roadE N m E := ⟨_, rfl⟩
  rw [← hx] at CK
  have HCK := Lib.hid CK
  have HX := Lib.hid hx
  clear hw b0 x0 hw0 CK hx
  by_cases h0 : x = 0
  · subst h0
    have ND := fun w1 => node21 N src (.slice ao m c) w1 rfl
    have ND2 := fun w1 => node21 N dst (.slice ao m c) w1 rfl
    obtain ⟨q, hq⟩ : ∃ q, q = nodeB N src := ⟨_, rfl⟩
    obtain ⟨q2, hq2⟩ : ∃ q, q = nodeB N dst := ⟨_, rfl⟩
    rw [← hq] at ND
    rw [← hq2] at ND2
    have HND := Lib.hid ND
    have HND2 := Lib.hid ND2
    have HQ := Lib.hid hq
    have HQ2 := Lib.hid hq2
    clear ND hq ND2 hq2
    go_enter Try.func20, Try.ntmps20
    go_wp2_with fail
    rw [← HW.out]
    clear HW
    refine HCK.out.mono ?_
    rintro e w1 ⟨rfl, b1⟩
    have d0 := cell_kept b1 r0
    have d1 := cell_kept b1 r1
    have zd := szs (cell_lt d0)
    dsimp only at zd
    have B1 := Lib.hid b1
    have n1 := Lib.hid (n0.out.below b1)
    clear b1
    go_wp2_with fail
    refine (HND.out _).mono ?_
    rintro e w2 ⟨rfl, b2⟩
    have e0 := cell_kept b2 d0
    have e1 := cell_kept b2 d1
    have ze := szs (cell_lt e0)
    dsimp only at ze
    have B2 := Lib.hid ((B0.out.trans (B1.out.mono B0.out.size)).trans (b2.mono (by have := B0.out.size; have := B1.out.size; omega)))
    have n2 := Lib.hid (n1.out.below b2)
    clear b2 d0 d1 zd
    cases q
    · go_wp2_with fail
      go_returns
      exact ⟨B2.out, .inr (.inl ⟨HX.out.symm, by rw [← HQ.out]; rfl, rfl⟩)⟩
    · go_wp2_with fail
      refine (HND2.out _).mono ?_
      rintro e w3 ⟨rfl, b3⟩
      have g0 := cell_kept b3 e0
      have g1 := cell_kept b3 e1
      have zg := szs (cell_lt g0)
      dsimp only at zg
      have B3 := Lib.hid (B2.out.trans (b3.mono B2.out.size))
      have n3 := Lib.hid (n2.out.below b3)
      clear b3 e0 e1 ze
      cases q2
      · go_wp2_with fail
        go_returns
        exact ⟨B3.out, .inr (.inl ⟨HX.out.symm, by rw [← HQ.out, ← HQ2.out]; rfl, rfl⟩)⟩
      · obtain ⟨n, hn, hr⟩ := right_of HX.out.symm
        have hq : 0 ≤ src ∧ src < N := by have := HQ.out; simp [nodeB] at this; exact this
        have hq2 : 0 ≤ dst ∧ dst < N := by have := HQ2.out; simp [nodeB] at this; exact this
        obtain ⟨s, hs⟩ : ∃ s : Nat, src = (s : Int) := ⟨src.toNat, by omega⟩
        obtain ⟨t, ht⟩ : ∃ t : Nat, dst = (t : Int) := ⟨dst.toNat, by omega⟩
        subst hn hs ht
        have hsn : s < n := by omega
        have htn : t < n := by omega
        have ts : (s : Int) < (n : Int) := by omega
        have tt : (t : Int) < (n : Int) := by omega
        have hm512 := hr.m2
        have hn64 := hr.n2
        have HR := Lib.hid hr
        have OK := Lib.hid hr.bwd
        have TO := Lib.hid (to26 n m c ao E t w3 n3.out hr htn)
        clear hr hq hq2 r0 r1
        go_wp2_with fail
        refine TO.out.mono ?_
        rintro e w4 ⟨b1, b2, sv, ev, rfl, hne, htw, hfin⟩
        have hb4 := htw.hb
        have k0 := cell_kept hb4 g0
        have k1 := cell_kept hb4 g1
        have zk := szs (cell_lt k0)
        dsimp only at zk
        have TW := Lib.hid htw
        have FIN := Lib.hid hfin
        have B4 := Lib.hid (B3.out.trans (hb4.mono B3.out.size))
        have n4 := Lib.hid (n3.out.below hb4)
        have p4 := htw.h1.cell hsn
        have z5 := szs htw.h1.lt.2
        have fs := hfin (s : Int) (by omega) ts
        obtain ⟨f, hf⟩ : ∃ f, f = sv s := ⟨_, rfl⟩
        rw [← hf] at p4 fs
        have HFS := Lib.hid fs
        have LO : ∀ v : Nat, v < n → 0 ≤ sv v ∧ sv v ≤ 1099511627776 ∧ 0 ≤ ev v ∧ ev v ≤ 1099511627776 := fun v hv => by
          have h := hfin (v : Int) (by omega) (by omega)
          by_cases hc : Rd.Can (gr Ed.til Ed.frm n m E) t v
          · have e := h.1 hc
            have := can_edg OK.out hc
            have := can_few OK.out ⟨by omega, tt⟩ hc
            omega
          · have e := h.2 hc
            omega
        have HLO := Lib.hid LO
        clear htw hfin hb4 g0 g1 zg hf fs LO
        by_cases hcs : Rd.Can (gr Ed.til Ed.frm n m E) t s
        · have CS := Lib.hid hcs
          have hes := Lib.hid (can_edg OK.out hcs)
          have hff := Lib.hid (can_few OK.out ⟨by omega, tt⟩ hcs)
          have hf' : (f == 1099511627776) = false := by have := (HFS.out.1 hcs).1; have := hes.out; have := hff.out; simp; omega
          have zw4 := B4.out.size
          clear hcs
          go_wp2_with fail
          go_loopg [11, 12, 13] (edg (gr Ed.til Ed.frm n m E) t s).toNat (fun K ov av stv wr => ∃ (a st : Nat) (gone : List Int), av = .int .i64 a ∧ stv = .int .i64 st ∧ a < n ∧ gone.length + K ≤ 64 ∧ st + K < n ∧ Hid (Rd.Can (gr Ed.til Ed.frm n m E) t a ∧ edg (gr Ed.til Ed.frm n m E) t a = (K : Int) ∧ gone ++ wayL n m E t K a = wayL n m E t (edg (gr Ed.til Ed.frm n m E) t s).toNat s ∧ IsL wr w4.heap.size ov gone ∧ Below w4.heap.size w4 wr))
          case atStart => exact ⟨s, 0, [], rfl, rfl, hsn, by have := hff.out; have := hes.out; simp; omega, by have := hff.out; have := hes.out; omega, CS.out, by rw [Int.toNat_of_nonneg hes.out.1], rfl, IsL.nil _ _, Below.refl _ _⟩
          case round =>
            obtain ⟨a, st, gone, rfl, rfl, han, hg64, hst, hrel⟩ := hrel
            have m0 := cell_kept hrel.out.2.2.2.2 k0
            have m1 := cell_kept hrel.out.2.2.2.2 k1
            have zm := szs (cell_lt m0)
            dsimp only at zm
            have hca := hrel.out.1
            have ta : (a : Int) < (n : Int) := by omega
            have tst : (st : Int) < (n : Int) := by omega
            have T2 := TW.out.below hrel.out.2.2.2.2
            have pe := T2.h2.cell han
            have ze := szs T2.h2.lt.2
            rw [((FIN.out (a : Int) (by omega) ta).1 hca).2, hrel.out.2.1] at pe
            clear T2
            by_cases hK0 : gk = 0
            · subst hK0
              have hat : (a : Int) = t := (home_iff OK.out hca).1 (by have := hrel.out.2.1; omega)
              have HL := Lib.hid (show gone = wayL n m E t (edg (gr Ed.til Ed.frm n m E) t s).toNat s by have := hrel.out.2.2.1; rwa [show wayL n m E t 0 a = [] from rfl, List.append_nil] at this)
              have HE := Lib.hid (hrel.out.2.2.2.1.base_mono (base := w.heap.size) zw4)
              have HB := Lib.hid (B4.out.trans (hrel.out.2.2.2.2.mono B4.out.size))
              clear hca hrel hat
              go_wp2_with fail
              go_returns
              exact ⟨HB.out, .inr (.inr ⟨n, s, t, HX.out.symm, rfl, rfl, hsn, rfl, htn, HR.out, .inr ⟨_, CS.out, rfl, by rw [← HL.out]; exact HE.out⟩⟩)⟩
            · have hat : (a : Int) ≠ t := fun e => by have := (home_iff OK.out hca).2 e; have := hrel.out.2.1; omega
              have hex := Lib.hid (fit_some OK.out hca hat)
              have hea := can_edg OK.out hca
              have hfa := can_few OK.out ⟨by omega, tt⟩ hca
              have HCA := Lib.hid hca
              obtain ⟨K, hK⟩ : ∃ K, gk = K + 1 := ⟨gk - 1, by omega⟩
              have tk : (0 : Int) < (gk : Int) := by omega
              have HO := hrel
              have HK := Lib.hid hK
              clear hrel hca hat hK hK0
              go_wp2_with fail
              obtain ⟨wo, rfl⟩ : ∃ wo : World, wo = wr := ⟨_, rfl⟩
              obtain ⟨ov, hov⟩ : ∃ ov, ov = u11 := ⟨_, rfl⟩
              rw [← hov]
              rw [← hov] at HO
              clear hov
              go_loopg [11, 12, 14] m (fun G ov' av iv wr => ∃ i : Nat, ov' = ov ∧ av = .int .i64 a ∧ iv = .int .i64 i ∧ i ≤ m ∧ G = m - i ∧ Hid ((∀ j, j < i → fit n m E t a j = false) ∧ Below wo.heap.size wo wr))
              case atStart => exact ⟨0, rfl, rfl, rfl, by omega, by omega, fun j hj => by omega, Below.refl _ _⟩
              case round =>
                obtain ⟨i, rfl, rfl, rfl, hi, rfl, hrel⟩ := hrel
                have l1 := cell_kept hrel.out.2 m1
                have zl := szs (cell_lt l1)
                dsimp only at zl
                have BI := Lib.hid (HO.out.2.2.2.2.trans (hrel.out.2.mono HO.out.2.2.2.2.size))
                by_cases hlt : i < m
                · obtain ⟨g, o, hao, hg, e0, e1, e2⟩ := (n4.out.below BI.out).cells hlt
                  subst hao
                  have zg := szs hg
                  have ti : (i : Int) < (m : Int) := by omega
                  have rj := HR.out.hs i hlt
                  have htl := HR.out.ht i hlt
                  obtain ⟨u, hu⟩ : ∃ u : Nat, (E i).til = (u : Int) := ⟨(E i).til.toNat, by omega⟩
                  have hun : u < n := by omega
                  have tu : (u : Int) < (n : Int) := by omega
                  rw [hu] at e1
                  have T3 := TW.out.below BI.out
                  have p1 := T3.h1.cell han
                  have p2 := T3.h2.cell han
                  have p3 := T3.h1.cell hun
                  have p4 := T3.h2.cell hun
                  have z1 := szs T3.h1.lt.2
                  have z2 := szs T3.h2.lt.2
                  have fa := (FIN.out (a : Int) (by omega) ta).1 HCA.out
                  have fu := FIN.out (u : Int) (by omega) tu
                  have lu := HLO.out u hun
                  rw [fa.1] at p1
                  rw [fa.2] at p2
                  have hfit : fit n m E t a i = true ↔ ((E i).frm = a ∧ Rd.Can (gr Ed.til Ed.frm n m E) t u ∧ sec (gr Ed.til Ed.frm n m E) t a = sec (gr Ed.til Ed.frm n m E) t u + (E i).sec ∧ edg (gr Ed.til Ed.frm n m E) t a = edg (gr Ed.til Ed.frm n m E) t u + 1) := by rw [fit_iff, hu]
                  have HIT := Lib.hid (fun h : fit n m E t a i = true => first_eq hrel.out.1 h hlt)
                  have MISS := Lib.hid (fun h : fit n m E t a i = false => (fun (j : Nat) (hj : j < i + 1) => by
                    by_cases e : j = i
                    · subst e; exact h
                    · exact hrel.out.1 j (by omega) : ∀ j, j < i + 1 → fit n m E t a j = false))
                  have HU := Lib.hid hu
                  have HFIT := Lib.hid hfit
                  have HFU := Lib.hid fu
                  obtain ⟨f0, hf0⟩ : ∃ f0, f0 = (E i).frm := ⟨_, rfl⟩
                  obtain ⟨sc, hsc⟩ : ∃ s, s = (E i).sec := ⟨_, rfl⟩
                  obtain ⟨sa, hsa⟩ : ∃ s, s = sec (gr Ed.til Ed.frm n m E) t a := ⟨_, rfl⟩
                  obtain ⟨ea, hea'⟩ : ∃ s, s = edg (gr Ed.til Ed.frm n m E) t a := ⟨_, rfl⟩
                  obtain ⟨su, hsu⟩ : ∃ s, s = sv u := ⟨_, rfl⟩
                  obtain ⟨eu, heu⟩ : ∃ s, s = ev u := ⟨_, rfl⟩
                  rw [← hf0] at e0
                  rw [← hsc] at e2 rj
                  rw [← hsa] at p1 hea
                  rw [← hea'] at p2 hea hfa
                  rw [← hsu] at p3
                  rw [← heu] at p4
                  rw [← hsu, ← heu] at lu
                  obtain ⟨lu1, lu2, lu3, lu4⟩ := lu
                  obtain ⟨hea1, hea2, hea3⟩ := hea
                  have HF0 := Lib.hid hf0
                  have HSC := Lib.hid hsc
                  have HSA := Lib.hid hsa
                  have HEA := Lib.hid hea'
                  have HSU := Lib.hid hsu
                  have HEU := Lib.hid heu
                  obtain ⟨rj0, rj1⟩ := rj
                  have XE := Lib.hid (heap_alloc_new wr (.cells #[.int .i64 f0, .int .i64 u, .int .i64 sc] 43))
                  clear htl hu T3 fa fu hfit hf0 hsc hsa hea' hsu heu
                  have HMISS : (f0 ≠ (a : Int) ∨ su + sc ≠ sa ∨ eu + 1 ≠ ea) → fit n m E t a i = false := fun h => by
                    cases hh : fit n m E t a i
                    · rfl
                    · exfalso
                      obtain ⟨q1, q2, q3, q4⟩ := HFIT.out.1 hh
                      have q6 := HFU.out.1 q2
                      rcases h with h | h | h
                      · exact h (by rw [HF0.out]; exact q1)
                      · exact h (by rw [HSA.out, HSU.out, HSC.out, q6.1]; exact q3.symm)
                      · exact h (by rw [HEA.out, HEU.out, q6.2]; exact q4.symm)
                  have HM := Lib.hid HMISS
                  clear HMISS
                  by_cases c1 : f0 = (a : Int)
                  · subst c1
                    by_cases c2 : su + sc = sa
                    · by_cases c3 : eu + 1 = ea
                      · have hcan : Rd.Can (gr Ed.til Ed.frm n m E) t u := Classical.byContradiction fun h => by
                          have h2 := (HFU.out.2 h).1
                          rw [← HSU.out] at h2
                          omega
                        have q6 := HFU.out.1 hcan
                        rw [← HSU.out, ← HEU.out] at q6
                        have hfi : fit n m E t a i = true := HFIT.out.2 ⟨HF0.out.symm, hcan, by rw [← HSA.out, ← q6.1, ← HSC.out]; exact c2.symm, by rw [← HEA.out, ← q6.2]; exact c3.symm⟩
                        have HFI := Lib.hid (HIT.out hfi)
                        have HC3 := Lib.hid c3
                        have HCN := Lib.hid hcan
                        have Q6 := Lib.hid q6
                        have c2' : (su + sc == sa) = true := by simp [c2]
                        have c3' : (eu + 1 == ea) = true := by simp [c3]
                        clear hfi c2 c3 hcan q6
                        go_wp2_with fail
                        (refine region_all (fun i : Nat => World.drewN _ i) mixed (by kernel_rfl) ⟨1, rfl⟩ ?_; (repeat (any_goals (first | go_big_quiet_step (fail) | quiet_step (fail) | (refine wpQuiet_step (fun K hK => ?_); go_simp; split <;> (refine hK _ ?_; clear hK K))))); (all_goals (refine wpQuiet_nil (fun nq => ?_))))
                        obtain ⟨w5, hw5⟩ : ∃ w5, w5 = (wr.alloc (.cells #[.int .i64 a, .int .i64 u, .int .i64 sc] 43)).drewN nq := ⟨_, rfl⟩
                        rw [← hw5]
                        have b5 : Below wr.heap.size wr w5 := by rw [hw5]; exact below_drewN ((Below.refl _ _).alloc (Nat.le_refl _) _) _
                        have x5 : w5.heap[wr.heap.size]? = some (.cells #[.int .i64 a, .int .i64 u, .int .i64 sc] 43) := by
                          have hx := heap_alloc_new wr (.cells #[.int .i64 a, .int .i64 u, .int .i64 sc] 43)
                          rw [hw5]; exact ((below_drewN (Below.refl _ _) nq).block _ (block_lt hx)).trans hx
                        have bo := hrel.out.2.trans (b5.mono hrel.out.2.size)
                        have b6 : Below w5.heap.size w5 (w5.alloc (.cells #[.int .i64 i] 3)) := (Below.refl _ _).alloc (Nat.le_refl _) _
                        have L6 := Lib.hid ((HO.out.2.2.2.1.below bo).below b6)
                        have B6 := Lib.hid ((HO.out.2.2.2.2.trans (bo.mono HO.out.2.2.2.2.size)).trans (b6.mono (by have := HO.out.2.2.2.2.size; have := bo.size; omega)))
                        have y1 : w5.cell? ⟨wr.heap.size, 1, none⟩ = some (.int .i64 u) := cell_at x5 1
                        have zy := szs (block_lt x5)
                        have X5 := Lib.hid x5
                        obtain ⟨i0, hi0, hz0, hz1, hz2⟩ := info_parts info3
                        clear hw5 b5 x5 bo b6 p1 p2 p3 p4 e0 e1 e2
                        go_wp2_with (at_builtin; refine wpList_append_row _ rfl _ _ 27 rfl w4.heap.size 3 i0 _ 1 8 Try.underlying27 hi0 hz0 hz1 hz2 rfl (by decide) _ gone.length (fun i => [.int .i64 (gone.getD i 0)]) rfl L6.out (fun _ => rfl) w5.heap.size 1 [.int .i64 i] rfl rfl 3 (0, 0) (heap_alloc_new w5 _) (int_one i) (by omega) (by unfold maxLen; omega) B6.out.size ?_)
                        intro g' cap' w7 hc1' hc2' hbg' hgl' hown hr7 hg7
                        have o7 := Off.of_grown hg7
                        have l7 := Lib.hid (IsL.of_push hr7)
                        have B7 := Lib.hid (B6.out.trans (o7.toBelow B6.out.size (fun b hb e => by have := (L6.out.own b e.symm).1; omega)))
                        have x7 := (o7.block _ (by have := block_lt X5.out; simp; omega) (fun e => by have := (HO.out.2.2.2.1.own _ e.symm).2; have := hrel.out.2.size; omega)).trans ((((Below.refl w5.heap.size w5).alloc (Nat.le_refl _) (.cells #[.int .i64 i] 3)).block _ (block_lt X5.out)).trans X5.out)
                        have y7 : w7.cell? ⟨wr.heap.size, 1, none⟩ = some (.int .i64 u) := cell_at x7 1
                        have z7 := szs (block_lt x7)
                        clear o7 hr7 hg7 hown x7 y1 zy hi0 hz0 hz1 hz2
                        have HED : Hid (edg (gr Ed.til Ed.frm n m E) t u = (K : Int)) := Lib.hid (by rw [← Q6.out.2]; have := HO.out.2.1; rw [← HEA.out, ← HC3.out] at this; have := HK.out; omega)
                        have HWL : Hid ((gone ++ [(i : Int)]) ++ wayL n m E t K u = wayL n m E t (edg (gr Ed.til Ed.frm n m E) t s).toNat s) := Lib.hid (by
                          rw [← HO.out.2.2.1, HK.out]
                          show _ = gone ++ ((first (fit n m E t a) m : Int) :: wayL n m E t K (E (first (fit n m E t a) m)).til)
                          rw [HFI.out, HU.out]; simp)
                        have hgK : gone.length + 1 + K ≤ 64 := by have := HK.out; omega
                        have hsK : st + 1 + K < n := by have := HK.out; omega
                        go_wp2_with fail
                        go_roundg K
                        case measure => have := HK.out; omega
                        case rel => exact ⟨u, st + 1, gone ++ [(i : Int)], rfl, by go_num, hun, by simp; omega, hsK, HCN.out, HED.out, HWL.out, by have := l7.out; simpa using this, B7.out⟩
                      · have c2' : (su + sc == sa) = true := by simp [c2]
                        have c3' : (eu + 1 == ea) = false := by simp [c3]
                        have ML := Lib.hid (MISS.out (HM.out (.inr (.inr c3))))
                        clear c2 c3
                        go_wp2_with fail
                        (refine region_all (fun i : Nat => World.drewN _ i) mixed (by kernel_rfl) ⟨1, rfl⟩ ?_; (repeat (any_goals (first | go_big_quiet_step (fail) | quiet_step (fail) | (refine wpQuiet_step (fun K hK => ?_); go_simp; split <;> (refine hK _ ?_; clear hK K))))); (all_goals (refine wpQuiet_nil (fun nq => ?_))))
                        all_goals go_wp2_with fail
                        all_goals go_roundg (m - (i + 1))
                        case measure => omega
                        case rel => exact ⟨i + 1, rfl, rfl, by go_num, by omega, rfl, ML.out, by have := hrel.out.2; (have hszz := (this).size; (repeat' (first | (with_reducible exact Below.refl _ _) | (with_reducible assumption) | (with_reducible refine Below.drew ?_) | (with_reducible refine below_drewN ?_ _) | (with_reducible refine Below.alloc ?_ ?_ _) | (with_reducible refine Below.setCell ?_ ?_ _) | go_size)))⟩
                    · have c2' : (su + sc == sa) = false := by simp [c2]
                      have ML := Lib.hid (MISS.out (HM.out (.inr (.inl c2))))
                      clear c2
                      go_wp2_with fail
                      (refine region_all (fun i : Nat => World.drewN _ i) mixed (by kernel_rfl) ⟨1, rfl⟩ ?_; (repeat (any_goals (first | go_big_quiet_step (fail) | quiet_step (fail) | (refine wpQuiet_step (fun K hK => ?_); go_simp; split <;> (refine hK _ ?_; clear hK K))))); (all_goals (refine wpQuiet_nil (fun nq => ?_))))
                      all_goals go_wp2_with fail
                      all_goals go_roundg (m - (i + 1))
                      case measure => omega
                      case rel => exact ⟨i + 1, rfl, rfl, by go_num, by omega, rfl, ML.out, by have := hrel.out.2; (have hszz := (this).size; (repeat' (first | (with_reducible exact Below.refl _ _) | (with_reducible assumption) | (with_reducible refine Below.drew ?_) | (with_reducible refine below_drewN ?_ _) | (with_reducible refine Below.alloc ?_ ?_ _) | (with_reducible refine Below.setCell ?_ ?_ _) | go_size)))⟩
                  · have c1' : (f0 == (a : Int)) = false := by simp [c1]
                    have ML := Lib.hid (MISS.out (HM.out (.inl c1)))
                    clear c1
                    go_wp2_with fail
                    (refine region_all (fun i : Nat => World.drewN _ i) mixed (by kernel_rfl) ⟨1, rfl⟩ ?_; (repeat (any_goals (first | go_big_quiet_step (fail) | quiet_step (fail) | (refine wpQuiet_step (fun K hK => ?_); go_simp; split <;> (refine hK _ ?_; clear hK K))))); (all_goals (refine wpQuiet_nil (fun nq => ?_))))
                    all_goals go_wp2_with fail
                    all_goals go_roundg (m - (i + 1))
                    case measure => omega
                    case rel => exact ⟨i + 1, rfl, rfl, by go_num, by omega, rfl, ML.out, by have := hrel.out.2; (have hszz := (this).size; (repeat' (first | (with_reducible exact Below.refl _ _) | (with_reducible assumption) | (with_reducible refine Below.drew ?_) | (with_reducible refine below_drewN ?_ _) | (with_reducible refine Below.alloc ?_ ?_ _) | (with_reducible refine Below.setCell ?_ ?_ _) | go_size)))⟩
                · exfalso
                  obtain ⟨j, hj, hj2⟩ := hex.out
                  have := hrel.out.1 j (by omega)
                  rw [this] at hj2; cases hj2
        · have hf' : (f == 1099511627776) = true := by have := (HFS.out.2 hcs).1; simp [this]
          have HCS := Lib.hid hcs
          clear hcs
          go_wp2_with fail
          go_returns
          exact ⟨B4.out, .inr (.inr ⟨n, s, t, HX.out.symm, rfl, rfl, hsn, rfl, htn, HR.out, .inl ⟨HCS.out, rfl⟩⟩)⟩
  · have h0' : (x != 0) = true := by simp [h0]
    have H0 := Lib.hid h0
    clear h0
    go_enter Try.func20, Try.ntmps20
    go_wp2_with fail
    rw [← HW.out]
    clear HW
    refine HCK.out.mono ?_
    rintro e w1 ⟨rfl, b1⟩
    have B1 := Lib.hid b1
    clear b1
    go_wp2_with fail
    go_returns
    exact ⟨B0.out.trans (B1.out.mono B0.out.size), .inl ⟨by rw [← HX.out]; exact H0.out, by rw [← HX.out]; rfl⟩⟩
end Go.Proofs.Ytbmlnjdfnjjjhaa
