/- The program's Plan. -/
import Derived.Test.YtanpefjbmpohdaaP12
import Derived.Deep.LoopGhost
namespace Go.Proofs.Ytanpefjbmpohdaa
open Go.RowKit Go.ChangeShapes Go.WideShapes Go.Deep
set_option linter.unusedVariables false
set_option linter.unusedSimpArgs false
/-- The plan's loop over the queue: n works are planned. -/
def PQS (W0 wr : World) (q bf m : Nat) (J : Nat → Jb) (k : Nat) (M : Nat → Int) (n : Nat) (v : Value) (d : QJ.D) (l : List Int) (ow : Option Nat) (D : Int → Bool) (F : Int → Int) : Prop :=
  Row wr W0.heap.size 43 4 v n (wf (pl m J k M)) ∧ Ints wr W0.heap.size bf k F ∧ QJ.Q wr W0.heap.size q ow d l m ∧ QRel D m l ∧ Below W0.heap.size W0 wr ∧
    v.ownBlock ≠ some bf ∧ v.ownBlock ≠ some q ∧ (∀ b, v.ownBlock = some b → ow ≠ some b) ∧ bf ≠ q ∧ ow ≠ some bf
theorem PQS.below {W0 wr w' : World} {q bf m : Nat} {J : Nat → Jb} {k : Nat} {M : Nat → Int} {n : Nat} {v : Value} {d : QJ.D} {l : List Int} {ow : Option Nat} {D : Int → Bool} {F : Int → Int} (h : PQS W0 wr q bf m J k M n v d l ow D F) (hb : Below wr.heap.size wr w') : PQS W0 w' q bf m J k M n v d l ow D F :=
  ⟨Row.off (X := fun _ => False) h.1 (Off.of_below hb) (fun _ _ h => h), h.2.1.keep hb, h.2.2.1.below hb, h.2.2.2.1, h.2.2.2.2.1.trans (hb.mono h.2.2.2.2.1.size), h.2.2.2.2.2⟩
/-- A pop. -/
theorem PQS.pop {W0 wr w' : World} {q bf m : Nat} {J : Nat → Jb} {k : Nat} {M : Nat → Int} {n : Nat} {v : Value} {d : QJ.D} {l l2 : List Int} {ow : Option Nat} {D D2 : Int → Bool} {F : Int → Int} (h : PQS W0 wr q bf m J k M n v d l ow D F) (hq : QJ.Q w' W0.heap.size q ow d l2 m) (ho : Off (QJ.FP q ow) wr w') (hr : QRel D2 m l2) : PQS W0 w' q bf m J k M n v d l2 ow D2 F := by
  obtain ⟨h1, h2, h3, h4, h5, h6, h7, h8, h9, h10⟩ := h
  refine ⟨Row.off h1 ho (fun g hg hf => ?_), Row.off h2 ho (fun g hg hf => ?_), hq, hr, h5.trans (ho.toBelow h5.size (fun b hb hf => ?_)), h6, h7, h8, h9, h10⟩
  · rcases hf with hf | hf
    · exact h7 (by rw [hg, hf])
    · exact h8 g hg hf.symm
  · cases hg
    rcases hf with hf | hf
    · exact h9 hf
    · exact h10 hf.symm
  · have := (h3.within b hf).1; omega
/-- The mechanic's time is booked. -/
theorem PQS.book {W0 wr : World} {q bf m : Nat} {J : Nat → Jb} {k : Nat} {M : Nat → Int} {n : Nat} {v : Value} {d : QJ.D} {l : List Int} {ow : Option Nat} {D : Int → Bool} {F : Int → Int} (h : PQS W0 wr q bf m J k M n v d l ow D F) {u : Nat} (hu : u < k) (x : Int) : PQS W0 (wr.setCell ⟨bf, u, none⟩ (.int .i64 x)) q bf m J k M n v d l ow D (upz F u x) := by
  obtain ⟨h1, h2, h3, h4, h5, h6, h7, h8, h9, h10⟩ := h
  have o1 : Off (fun b => b = bf) wr (wr.setCell ⟨bf, u, none⟩ (.int .i64 x)) := (Off.refl (fun b => b = bf) _).setCell (fun _ => rfl) _
  refine ⟨Row.off h1 o1 (fun g hg hf => h6 (by rw [hg, hf])), Ints.put h2 hu x, h3.off o1 (fun b hb hf => ?_), h4, h5.setCell (by show _ ≤ bf; exact (Ints.lo h2).1) _, h6, h7, h8, h9, h10⟩
  rcases hb with hb | hb
  · exact h9 (hf.symm.trans hb)
  · exact h10 (by rw [← hb, hf])
/-- A work is written. -/
theorem PQS.add {W0 wr wA : World} {q bf m : Nat} {J : Nat → Jb} {k : Nat} {M : Nat → Int} {n : Nat} {v : Value} {d : QJ.D} {l : List Int} {ow : Option Nat} {D : Int → Bool} {F : Int → Int} {g' cap : Nat} {cs : List Value} (h : PQS W0 wr q bf m J k M n v d l ow D F)
    (hrA : Row wA W0.heap.size 43 4 (.slice (some ⟨g', 0, none⟩) (n + 1) cap) (n + 1) (upd (wf (pl m J k M)) n cs)) (hgr : wr.grownBy wA v.ownBlock) (hown : v.ownBlock = some g' ∨ wr.heap.size ≤ g') (hcs : wf (pl m J k M) n = cs) :
    PQS W0 wA q bf m J k M (n + 1) (.slice (some ⟨g', 0, none⟩) (n + 1) cap) d l ow D F := by
  obtain ⟨h1, h2, h3, h4, h5, h6, h7, h8, h9, h10⟩ := h
  have OA := Off.of_grown hgr
  have w1 := h3.within
  have key : ∀ b, b < wr.heap.size → v.ownBlock ≠ some b → g' ≠ b := fun b hb hne e => by
    rcases hown with h | h
    · exact hne (by rw [h, e])
    · omega
  refine ⟨Row.congr hrA (fun i _ => ?_), Row.off h2 OA (fun g hg hf => ?_), h3.off OA (fun b hb hf => ?_), h4, h5.trans (OA.toBelow h5.size (fun b hb hf => ?_)), ?_, ?_, fun b hb => ?_, h9, h10⟩
  · by_cases e : i = n
    · subst e; rw [upd_same, hcs]
    · rw [upd_ne e]
  · cases hg; exact h6 hf.symm
  · rcases hb with hb | hb
    · exact h7 (by rw [← hf, hb])
    · exact h8 b hf.symm hb.symm
  · have := (World.ownsRow.lt h1 b hf.symm).1; omega
  · simp [Value.ownBlock]; exact key bf (Ints.lo h2).2 h6
  · simp [Value.ownBlock]; exact key q (w1 q (.inl rfl)).2 h7
  · simp [Value.ownBlock] at hb
    subst hb
    intro hw
    exact key g' (w1 g' (.inr hw.symm)).2 (fun e => h8 g' e hw) rfl
theorem Planned.doneQ {w w' : World} {q bf m : Nat} {J : Nat → Jb} {k : Nat} {M : Nat → Int} {v : Value} {d : QJ.D} {l : List Int} {ow : Option Nat} {D : Int → Bool} {F : Int → Int} (h : chkE m J k M = 0) (hs : PQS w w' q bf m J k M m v d l ow D F) : Planned w m J k M (.returned (.tuple #[v, .int .i64 0])) w' := by
  have e : plN m J k M = m := by simp [plN, h]
  obtain ⟨ao, c, rfl, hsl⟩ := Row.toSl hs.1 (wf_len _)
  exact ⟨ao, c, by rw [e, h], by rw [e]; exact hsl, hs.2.2.2.2.1⟩
set_option maxHeartbeats 8000000 in
set_option maxRecDepth 100000 in
theorem plan11 (ao am : Option Addr) (m c k c2 : Nat) (J : Nat → Jb) (M : Nat → Int) (w : World) (h : Sl w 3 ao m c (jf J)) (h2 : Sl w 1 am k c2 (mf M)) :
    Calls Try.prog 11 #[.slice ao m c, .slice am k c2] w fun e w' => Planned w m J k M e w' := by
  have hmc := h.hm
  have hcc := h.hc
  have hkc := h2.hm
  have hcc2 := h2.hc
  have HS := Lib.hid h
  have HM := Lib.hid h2
  have HC := Lib.hid (check13 ao am m c k c2 J M w h h2)
  clear h h2
  by_cases hc : chkE m J k M = 0
  · rw [hc] at HC
    have CZ := chk_zero hc
    have hm32 := CZ.1
    have hk8 := CZ.2.1
    have HCZ := Lib.hid CZ.2.2
    have H0 := Lib.hid hc
    clear CZ hc
    obtain ⟨i0, hi, hz0, hz1, hz2⟩ := info_parts info43
    have hmk2 := mkI k (by omega)
    obtain ⟨MI, hMI⟩ : ∃ MK, MK = madeCells #[.int .i64 0] (k * 1) := ⟨_, rfl⟩
    rw [← hMI] at hmk2
    have HMI := Lib.hid hMI
    have HMK := Lib.hid hmk2
    clear hMI hmk2
    obtain ⟨d, hd⟩ : ∃ d : QJ.D, d = ⟨ao, m, c, J, w.heap.size⟩ := ⟨_, rfl⟩
    have HG : Hid (∀ w', Below w.heap.size w w' → 0 < m → QJ.Good d w') := Lib.hid (fun w' hb h0 => by
      rw [hd]
      refine ⟨HS.out.below hb, fun a ha => ?_⟩
      obtain ⟨g, o, e, hg, _⟩ := HS.out.job h0
      rw [show ao = some a from ha] at e
      cases e; exact hg)
    have HD := Lib.hid hd
    have NW := Lib.hid (fun w' (hb : w.heap.size ≤ w'.heap.size) => QJ.new d w' w.heap.size hb)
    clear hd
    go_enter Try.func11, Try.ntmps11
    go_wp2_with fail
    refine HC.out.mono ?_
    rintro e w1 ⟨rfl, b1⟩
    have B1 := Lib.hid b1
    clear b1 HC
    go_wp2_with fail
    have hNW := NW.out w1 B1.out.size
    rw [show QJ.F d = .func (.func 25) #[.slice ao m c] #[] by rw [HD.out]; rfl] at hNW
    refine hNW.mono ?_
    clear hNW
    rintro e w2 ⟨rfl, q2, b2⟩
    obtain ⟨q, hq⟩ : ∃ q, q = w1.heap.size := ⟨_, rfl⟩
    rw [← hq] at q2 ⊢
    have Q2 := Lib.hid q2
    have B2 := Lib.hid (B1.out.trans (b2.mono B1.out.size))
    clear q2 b2 hq B1 NW
    go_wp2_with fail
    go_loopw [28] (fun i wr => ∃ (t : Nat) (ow : Option Nat), i = .int .i64 t ∧ t ≤ m ∧ Hid (QJ.Q wr w.heap.size q ow d ((List.range t).map (fun i : Nat => (i : Int))) t ∧ Below w.heap.size w wr)) (fun i _ => m - (intOf i).toNat)
    case atStart => exact ⟨0, none, rfl, by omega, Lib.hid ⟨Q2.out, B2.out⟩⟩
    case round =>
      obtain ⟨t, ow, rfl, ht, hrel⟩ := hrel
      by_cases hlt : t < m
      · have tt : (t : Int) < (m : Int) := by omega
        have PU := QJ.push_q d wr w.heap.size q ow _ t (t : Int) hrel.out.1 (by omega) hrel.out.2.size (HG.out wr hrel.out.2 (by omega)) (by rw [HD.out]; exact Nat.le_refl _) (by rw [HD.out]; exact ⟨Int.natCast_nonneg _, show (t : Int) < (m : Int) by omega⟩)
        unfold QJ.vv at PU
        have HPU := Lib.hid PU
        have HR := hrel
        clear PU hrel Q2 B2
        go_wp2_with fail
        refine HPU.out.mono ?_
        rintro e w3 ⟨rfl, ow', q3, o3, f3⟩
        have HN : Hid (QJ.Q w3 w.heap.size q ow' d ((List.range (t + 1)).map (fun i : Nat => (i : Int))) ((t + 1 : Nat) : Int) ∧ Below w.heap.size w w3) := Lib.hid ⟨by rw [List.range_succ, List.map_append]; exact q3, HR.out.2.trans (o3.toBelow HR.out.2.size (fun b hb hf => by have := (HR.out.1.within b hf).1; omega))⟩
        clear q3 o3 f3 HPU
        go_wp2_with fail
        go_roundw
        case rel => exact ⟨t + 1, ow', by go_num, by omega, HN⟩
        case measure => simp [intOf]; omega
      · obtain rfl : t = m := by omega
        have hQ := hrel.out.1
        have hB := hrel.out.2
        clear hrel Q2 B2
        have hmk2 := HMK.out wr
        go_wp2_with fail
        obtain ⟨bf, hbf⟩ : ∃ bf, bf = wr.heap.size := ⟨_, rfl⟩
        have S0 : Hid (PQS w (wr.alloc (.cells MI 3)) q bf t J k M 0 (.slice none 0 0) d ((List.range t).map (fun i : Nat => (i : Int))) ow (st t J k M 0).D (st t J k M 0).F) := Lib.hid (by
          have ba : Below wr.heap.size wr (wr.alloc (.cells MI 3)) := (Below.refl _ _).alloc (Nat.le_refl _) _
          refine ⟨⟨rfl, .inl ⟨rfl, rfl⟩⟩, Ints.made (by rw [hbf, ← HMI.out]; exact heap_alloc_new wr _) (by rw [hbf]; exact hB.size) (by omega), hQ.below ba, QRel.start t, hB.trans (ba.mono hB.size), by simp [Value.ownBlock], by simp [Value.ownBlock], by simp [Value.ownBlock], ?_, fun e => ?_⟩
          · have := (hQ.within q (.inl rfl)).2; omega
          · have := (hQ.within bf (.inr e.symm)).2; omega)
        rw [← hbf]
        generalize wr.alloc (.cells MI 3) = ws at *
        clear hQ hB hmk2 hbf hlt ht HMI HMK
        go_loopg [10] t (fun K v wr => ∃ (n : Nat) (l : List Int) (ow : Option Nat), n ≤ t ∧ K = t - n ∧ Hid (PQS w wr q bf t J k M n v d l ow (st t J k M n).D (st t J k M n).F)) 
        case atStart => exact ⟨0, _, ow, by omega, by omega, S0⟩
        case round =>
          clear S0
          obtain ⟨n, l, ow, hn, hK, hrel⟩ := hrel
          by_cases hlt : n < t
          · obtain ⟨j, u, stp⟩ := st_step H0.out hlt
            have SB := st_bound H0.out hn
            have hnx : st t J k M (n + 1) = _ := stp.next
            obtain ⟨S, hS⟩ : ∃ S, S = st t J k M n := ⟨_, rfl⟩
            rw [← hS] at stp SB hnx hrel
            have HNX := Lib.hid hnx
            have STP := Lib.hid stp
            have hjm := stp.hj
            have huk := stp.hu
            have hf1 := (SB u).1
            have hf2 := (SB u).2
            have hrq := hrel.out.2.2.2.1
            have hl : l ≠ [] := fun e => by
              have := (hrq.2 (j : Int)).2 ⟨by omega, by omega, stp.hD⟩
              rw [e] at this; cases this
            obtain ⟨j', g1, g2, _, _, g5⟩ := QRel.pop (d := d) (D := S.D) (l := l) (by rw [HD.out]; exact hrq) hl
            rw [show d.J = J by rw [HD.out], show d.m = t by rw [HD.out]] at g2
            rw [show d.m = t by rw [HD.out]] at g5
            obtain rfl : j' = j := by have := stp.ebj; omega
            have P := QJ.pop_some d wr w.heap.size q ow l t hrel.out.2.2.1 hl (by omega) (HG.out wr hrel.out.2.2.2.2.1 (by omega)) (by rw [HD.out]; exact Nat.le_refl _)
            rw [g1] at P
            unfold QJ.vv at P
            have HP := Lib.hid P
            have G5 := Lib.hid g5
            have HR := hrel
            have HLT := Lib.hid hlt
            have HK := Lib.hid hK
            clear hrel hS hnx stp SB hrq hl g1 g2 g5 P hK
            go_wp2_with fail
            refine HP.out.mono ?_
            rintro e w3 ⟨rfl, q3, o3⟩
            have P3 := Lib.hid (PQS.pop HR.out q3 o3 G5.out)
            clear q3 o3 G5 HR HP
            obtain ⟨sk, hsk⟩ : ∃ sk, sk = (J j').skill := ⟨_, rfl⟩
            have HSK := Lib.hid hsk
            clear hsk
            go_wp2_with fail
            go_loopw [48, 13] (fun i x wi => ∃ t : Nat, i = .int .i64 t ∧ t ≤ k ∧ x = .int .i64 (bm M S.F sk t) ∧ Hid (Below w3.heap.size w3 wi)) (fun i _ _ => k - (intOf i).toNat)
            case atStart => exact ⟨0, rfl, by omega, rfl, Lib.hid (Below.refl _ _)⟩
            case round =>
              clear hlt
              obtain ⟨i, rfl, hi', rfl, hrel⟩ := hrel
              have BI := Lib.hid hrel.out
              clear hrel
              have PS := Lib.hid (P3.out.below BI.out)
              have hqr := bm_range M S.F sk i
              have hnx : bm M S.F sk (i + 1) = if hasB (M i) sk = true ∧ (bm M S.F sk i < 0 ∨ S.F i < S.F (bm M S.F sk i)) then (i : Int) else bm M S.F sk i := rfl
              have HN := Lib.hid hnx
              clear hnx
              by_cases hlt2 : i < k
              · have tt : (i : Int) < (k : Int) := by omega
                have tjq : (j' : Int) < (t : Int) := by omega
                have ct := Ints.at PS.out.2.1 hlt2
                have zf := szs (cell_lt ct)
                dsimp only at zf
                obtain ⟨gj, oj, rfl, hgj, j0, j1, j2⟩ := (HS.out.below PS.out.2.2.2.2.1).job hjm
                obtain ⟨gm, om, rfl, hgm, m0⟩ := (HM.out.below PS.out.2.2.2.2.1).mech hlt2
                have zj := szs hgj
                have zm := szs hgm
                have hskb := (HCZ.out j' hjm).2.2.2.2
                rw [← HSK.out] at j2 hskb
                have HH := Lib.hid (fun w' => able28 (M i) sk w' hskb.1 hskb.2.1)
                obtain ⟨km, hkm⟩ : ∃ km, km = M i := ⟨_, rfl⟩
                rw [← hkm] at m0 HH HN
                obtain ⟨b, hb⟩ : ∃ b, b = hasB km sk := ⟨_, rfl⟩
                rw [← hb] at HH HN
                obtain ⟨ft, hft⟩ : ∃ ft, ft = S.F i := ⟨_, rfl⟩
                rw [← hft] at ct HN
                clear hkm hb hft j0 j1 hgj hgm hskb
                obtain ⟨wo3, rfl⟩ : ∃ wo3 : World, wo3 = wr := ⟨_, rfl⟩
                cases b
                · have hr : bm M S.F sk (i + 1) = bm M S.F sk i := by rw [HN.out, if_neg (by simp)]
                  have HRR := Lib.hid hr
                  clear hr HN ct
                  generalize bm M S.F sk i = x at *
                  clear hqr
                  obtain ⟨wo4, hwo4⟩ : ∃ wo4, wo4 = wo3.alloc (.cells #[.int .i64 km] 38) := ⟨_, rfl⟩
                  go_wp2_with fail
                  rw [← hwo4]
                  have b4 : Below wo3.heap.size wo3 wo4 := by rw [hwo4]; exact (Below.refl _ _).alloc (Nat.le_refl _) _
                  have x4 : wo4.heap[wo3.heap.size]? = some (.cells #[.int .i64 km] 38) := by rw [hwo4]; exact heap_alloc_new wo3 _
                  have BX := Lib.hid b4
                  (obtain ⟨ι, hne, Fw, fb, hF⟩ := grow_family wo4); have hF : ∀ w', (gPlan wo4 (fun _ => .bool false) [6] [] []).D () w' → ∃ i, w' = Fw i := hF
                  have f0 := fun i => cell_kept (fb i) (show wo4.cell? ⟨wo3.heap.size, 0, none⟩ = some (.int .i64 km) from cell_at x4 0)
                  have f2 := fun i => cell_kept (fb i) (cell_kept b4 j2)
                  clear hwo4 x4 b4 m0 j2
                  (refine region_chain (gPlan wo4 (fun _ => .bool false) [6] [] []) () [] [0, 1, 2, 3, 4, 5, 6, 7, 8, 9, 10, 11, 12, 13, 14, 15, 16, 17, 18, 19, 20, 21] [] mixed (by kernel_rfl) (by kernel_rfl) (gPlan_ok (by simp) (by simp)) (gPlan_start _ _ _ _ _) ?_; refine wpPure_nil ?_; simp only [List.map_cons, List.map_nil, Array.getD_eq_getD_getElem?, List.getElem?_toArray, List.getElem?_cons_zero, List.getElem?_cons_succ, Option.getD_some])
                  (repeat (first | (refine wpChain_skip rfl ?_; simp only [Act.put, List.setIfInBounds_toArray, List.set_cons_succ, List.set_cons_zero]) | (refine wpChain_quiet hF rfl rfl rfl ?_; intro K hK; go_big_quiet_op; go_big_quiet_on) | (refine wpChain_pure _ rfl rfl (fun w' _ => by go_simp; try rfl) ?_; simp only [Act.put, List.setIfInBounds_toArray, List.set_cons_succ, List.set_cons_zero])))
                  refine wpChain_gcall 28 #[.agg #[.int .i64 km], .int .i64 sk] rfl rfl (fun w' => by go_simp) (fun w' hb => HH.out w') ?_
                  simp only [Act.put, List.setIfInBounds_toArray, List.set_cons_succ, List.set_cons_zero]
                  (repeat (first | (refine wpChain_skip rfl ?_; simp only [Act.put, List.setIfInBounds_toArray, List.set_cons_succ, List.set_cons_zero]) | (refine wpChain_quiet hF rfl rfl rfl ?_; intro K hK; go_big_quiet_op; go_big_quiet_on) | (refine wpChain_pure _ rfl rfl (fun w' _ => by go_simp; try rfl) ?_; simp only [Act.put, List.setIfInBounds_toArray, List.set_cons_succ, List.set_cons_zero])))
                  refine wpChain_nil (fun w4 hb4 hl4 => ?_)
                  have B4 : Hid (Below wo4.heap.size wo4 w4) := hb4
                  clear hb4 hl4 hF fb f0 f2 hne 
                  refine onlyN_intro ?_
                  go_wp2_with fail
                  go_roundw
                  case rel => exact ⟨i + 1, by go_num, by omega, by rw [HRR.out], Lib.hid (BI.out.trans ((BX.out.trans (B4.out.mono BX.out.size)).mono BI.out.size))⟩
                  case measure => simp [intOf]; omega
                · by_cases hq : bm M S.F sk i < 0
                  · have hr : bm M S.F sk (i + 1) = (i : Int) := by rw [HN.out, if_pos ⟨rfl, .inl hq⟩]
                    have HRR := Lib.hid hr
                    clear hr HN ct
                    generalize bm M S.F sk i = x at *
                    have d1 : decide (x < 0) = true := decide_eq_true hq
                    clear hq hqr
                    obtain ⟨wo4, hwo4⟩ : ∃ wo4, wo4 = wo3.alloc (.cells #[.int .i64 km] 38) := ⟨_, rfl⟩
                    go_wp2_with fail
                    rw [← hwo4]
                    have b4 : Below wo3.heap.size wo3 wo4 := by rw [hwo4]; exact (Below.refl _ _).alloc (Nat.le_refl _) _
                    have x4 : wo4.heap[wo3.heap.size]? = some (.cells #[.int .i64 km] 38) := by rw [hwo4]; exact heap_alloc_new wo3 _
                    have BX := Lib.hid b4
                    (obtain ⟨ι, hne, Fw, fb, hF⟩ := grow_family wo4); have hF : ∀ w', (gPlan wo4 (fun _ => .bool true) [6] [] []).D () w' → ∃ i, w' = Fw i := hF
                    have f0 := fun i => cell_kept (fb i) (show wo4.cell? ⟨wo3.heap.size, 0, none⟩ = some (.int .i64 km) from cell_at x4 0)
                    have f2 := fun i => cell_kept (fb i) (cell_kept b4 j2)
                    clear hwo4 x4 b4 m0 j2
                    (refine region_chain (gPlan wo4 (fun _ => .bool true) [6] [] []) () [] [0, 1, 2, 3, 4, 5, 6, 7, 8, 9, 10, 11, 12, 13, 14, 15, 16, 17, 18, 19, 20, 21] [] mixed (by kernel_rfl) (by kernel_rfl) (gPlan_ok (by simp) (by simp)) (gPlan_start _ _ _ _ _) ?_; refine wpPure_nil ?_; simp only [List.map_cons, List.map_nil, Array.getD_eq_getD_getElem?, List.getElem?_toArray, List.getElem?_cons_zero, List.getElem?_cons_succ, Option.getD_some])
                    (repeat (first | (refine wpChain_skip rfl ?_; simp only [Act.put, List.setIfInBounds_toArray, List.set_cons_succ, List.set_cons_zero]) | (refine wpChain_quiet hF rfl rfl rfl ?_; intro K hK; go_big_quiet_op; go_big_quiet_on) | (refine wpChain_pure _ rfl rfl (fun w' _ => by go_simp; try rfl) ?_; simp only [Act.put, List.setIfInBounds_toArray, List.set_cons_succ, List.set_cons_zero])))
                    refine wpChain_gcall 28 #[.agg #[.int .i64 km], .int .i64 sk] rfl rfl (fun w' => by go_simp) (fun w' hb => HH.out w') ?_
                    simp only [Act.put, List.setIfInBounds_toArray, List.set_cons_succ, List.set_cons_zero]
                    (repeat (first | (refine wpChain_skip rfl ?_; simp only [Act.put, List.setIfInBounds_toArray, List.set_cons_succ, List.set_cons_zero]) | (refine wpChain_quiet hF rfl rfl rfl ?_; intro K hK; go_big_quiet_op; go_big_quiet_on) | (refine wpChain_pure _ rfl rfl (fun w' _ => by go_simp; try rfl) ?_; simp only [Act.put, List.setIfInBounds_toArray, List.set_cons_succ, List.set_cons_zero])))
                    refine wpChain_nil (fun w4 hb4 hl4 => ?_)
                    have B4 : Hid (Below wo4.heap.size wo4 w4) := hb4
                    clear hb4 hl4 hF fb f0 f2 hne 
                    refine onlyN_intro ?_
                    go_wp2_with fail
                    go_roundw
                    case rel => exact ⟨i + 1, by go_num, by omega, by rw [HRR.out], Lib.hid (BI.out.trans ((BX.out.trans (B4.out.mono BX.out.size)).mono BI.out.size))⟩
                    case measure => simp [intOf]; omega
                  · obtain ⟨p, hp⟩ : ∃ p : Nat, bm M S.F sk i = (p : Int) := ⟨(bm M S.F sk i).toNat, by omega⟩
                    rw [hp] at hqr HN ⊢
                    have hpk : p < k := by omega
                    have cp := Ints.at PS.out.2.1 hpk
                    have tp : (p : Int) < (k : Int) := by omega
                    obtain ⟨fp, hfp⟩ : ∃ fp, fp = S.F p := ⟨_, rfl⟩
                    rw [← hfp] at cp HN
                    clear hp hq hfp
                    have d1 : decide ((p : Int) < 0) = false := decide_eq_false (by omega)
                    by_cases hlt3 : ft < fp
                    · have hr : bm M S.F sk (i + 1) = (i : Int) := by rw [HN.out, if_pos ⟨rfl, .inr hlt3⟩]
                      have HRR := Lib.hid hr
                      have d2 : decide (ft < fp) = true := decide_eq_true hlt3
                      clear hr HN hlt3
                      obtain ⟨wo4, hwo4⟩ : ∃ wo4, wo4 = wo3.alloc (.cells #[.int .i64 km] 38) := ⟨_, rfl⟩
                      go_wp2_with fail
                      rw [← hwo4]
                      have b4 : Below wo3.heap.size wo3 wo4 := by rw [hwo4]; exact (Below.refl _ _).alloc (Nat.le_refl _) _
                      have x4 : wo4.heap[wo3.heap.size]? = some (.cells #[.int .i64 km] 38) := by rw [hwo4]; exact heap_alloc_new wo3 _
                      have BX := Lib.hid b4
                      (obtain ⟨ι, hne, Fw, fb, hF⟩ := grow_family wo4); have hF : ∀ w', (gPlan wo4 (fun _ => .bool true) [6] [] []).D () w' → ∃ i, w' = Fw i := hF
                      have f0 := fun i => cell_kept (fb i) (show wo4.cell? ⟨wo3.heap.size, 0, none⟩ = some (.int .i64 km) from cell_at x4 0)
                      have f2 := fun i => cell_kept (fb i) (cell_kept b4 j2)
                      have f3 := fun i => cell_kept (fb i) (cell_kept BX.out ct)
                      have f4 := fun i => cell_kept (fb i) (cell_kept BX.out cp)
                      clear hwo4 x4 b4 m0 j2 ct cp
                      (refine region_chain (gPlan wo4 (fun _ => .bool true) [6] [] []) () [] [0, 1, 2, 3, 4, 5, 6, 7, 8, 9, 10, 11, 12, 13, 14, 15, 16, 17, 18, 19, 20, 21] [] mixed (by kernel_rfl) (by kernel_rfl) (gPlan_ok (by simp) (by simp)) (gPlan_start _ _ _ _ _) ?_; refine wpPure_nil ?_; simp only [List.map_cons, List.map_nil, Array.getD_eq_getD_getElem?, List.getElem?_toArray, List.getElem?_cons_zero, List.getElem?_cons_succ, Option.getD_some])
                      (repeat (first | (refine wpChain_skip rfl ?_; simp only [Act.put, List.setIfInBounds_toArray, List.set_cons_succ, List.set_cons_zero]) | (refine wpChain_quiet hF rfl rfl rfl ?_; intro K hK; go_big_quiet_op; go_big_quiet_on) | (refine wpChain_pure _ rfl rfl (fun w' _ => by go_simp; try rfl) ?_; simp only [Act.put, List.setIfInBounds_toArray, List.set_cons_succ, List.set_cons_zero])))
                      refine wpChain_gcall 28 #[.agg #[.int .i64 km], .int .i64 sk] rfl rfl (fun w' => by go_simp) (fun w' hb => HH.out w') ?_
                      simp only [Act.put, List.setIfInBounds_toArray, List.set_cons_succ, List.set_cons_zero]
                      (repeat (first | (refine wpChain_skip rfl ?_; simp only [Act.put, List.setIfInBounds_toArray, List.set_cons_succ, List.set_cons_zero]) | (refine wpChain_quiet hF rfl rfl rfl ?_; intro K hK; go_big_quiet_op; go_big_quiet_on) | (refine wpChain_pure _ rfl rfl (fun w' _ => by go_simp; try rfl) ?_; simp only [Act.put, List.setIfInBounds_toArray, List.set_cons_succ, List.set_cons_zero])))
                      refine wpChain_nil (fun w4 hb4 hl4 => ?_)
                      have B4 : Hid (Below wo4.heap.size wo4 w4) := hb4
                      clear hb4 hl4 hF fb f0 f2 hne f3 f4
                      refine onlyN_intro ?_
                      go_wp2_with fail
                      go_roundw
                      case rel => exact ⟨i + 1, by go_num, by omega, by rw [HRR.out], Lib.hid (BI.out.trans ((BX.out.trans (B4.out.mono BX.out.size)).mono BI.out.size))⟩
                      case measure => simp [intOf]; omega
                    · have hr : bm M S.F sk (i + 1) = (p : Int) := by rw [HN.out, if_neg (fun hh => hh.2.elim (fun h => absurd h (by omega)) hlt3)]
                      have HRR := Lib.hid hr
                      have d2 : decide (ft < fp) = false := decide_eq_false hlt3
                      clear hr HN hlt3
                      obtain ⟨wo4, hwo4⟩ : ∃ wo4, wo4 = wo3.alloc (.cells #[.int .i64 km] 38) := ⟨_, rfl⟩
                      go_wp2_with fail
                      rw [← hwo4]
                      have b4 : Below wo3.heap.size wo3 wo4 := by rw [hwo4]; exact (Below.refl _ _).alloc (Nat.le_refl _) _
                      have x4 : wo4.heap[wo3.heap.size]? = some (.cells #[.int .i64 km] 38) := by rw [hwo4]; exact heap_alloc_new wo3 _
                      have BX := Lib.hid b4
                      (obtain ⟨ι, hne, Fw, fb, hF⟩ := grow_family wo4); have hF : ∀ w', (gPlan wo4 (fun _ => .bool true) [6] [] []).D () w' → ∃ i, w' = Fw i := hF
                      have f0 := fun i => cell_kept (fb i) (show wo4.cell? ⟨wo3.heap.size, 0, none⟩ = some (.int .i64 km) from cell_at x4 0)
                      have f2 := fun i => cell_kept (fb i) (cell_kept b4 j2)
                      have f3 := fun i => cell_kept (fb i) (cell_kept BX.out ct)
                      have f4 := fun i => cell_kept (fb i) (cell_kept BX.out cp)
                      clear hwo4 x4 b4 m0 j2 ct cp
                      (refine region_chain (gPlan wo4 (fun _ => .bool true) [6] [] []) () [] [0, 1, 2, 3, 4, 5, 6, 7, 8, 9, 10, 11, 12, 13, 14, 15, 16, 17, 18, 19, 20, 21] [] mixed (by kernel_rfl) (by kernel_rfl) (gPlan_ok (by simp) (by simp)) (gPlan_start _ _ _ _ _) ?_; refine wpPure_nil ?_; simp only [List.map_cons, List.map_nil, Array.getD_eq_getD_getElem?, List.getElem?_toArray, List.getElem?_cons_zero, List.getElem?_cons_succ, Option.getD_some])
                      (repeat (first | (refine wpChain_skip rfl ?_; simp only [Act.put, List.setIfInBounds_toArray, List.set_cons_succ, List.set_cons_zero]) | (refine wpChain_quiet hF rfl rfl rfl ?_; intro K hK; go_big_quiet_op; go_big_quiet_on) | (refine wpChain_pure _ rfl rfl (fun w' _ => by go_simp; try rfl) ?_; simp only [Act.put, List.setIfInBounds_toArray, List.set_cons_succ, List.set_cons_zero])))
                      refine wpChain_gcall 28 #[.agg #[.int .i64 km], .int .i64 sk] rfl rfl (fun w' => by go_simp) (fun w' hb => HH.out w') ?_
                      simp only [Act.put, List.setIfInBounds_toArray, List.set_cons_succ, List.set_cons_zero]
                      (repeat (first | (refine wpChain_skip rfl ?_; simp only [Act.put, List.setIfInBounds_toArray, List.set_cons_succ, List.set_cons_zero]) | (refine wpChain_quiet hF rfl rfl rfl ?_; intro K hK; go_big_quiet_op; go_big_quiet_on) | (refine wpChain_pure _ rfl rfl (fun w' _ => by go_simp; try rfl) ?_; simp only [Act.put, List.setIfInBounds_toArray, List.set_cons_succ, List.set_cons_zero])))
                      refine wpChain_nil (fun w4 hb4 hl4 => ?_)
                      have B4 : Hid (Below wo4.heap.size wo4 w4) := hb4
                      clear hb4 hl4 hF fb f0 f2 hne f3 f4
                      refine onlyN_intro ?_
                      go_wp2_with fail
                      go_roundw
                      case rel => exact ⟨i + 1, by go_num, by omega, by rw [HRR.out], Lib.hid (BI.out.trans ((BX.out.trans (B4.out.mono BX.out.size)).mono BI.out.size))⟩
                      case measure => simp [intOf]; omega
              · obtain rfl : i = k := by omega
                rw [HSK.out, STP.out.ebm]
                have P4 := Lib.hid PS.out
                clear hqr HN BI PS P3
                obtain ⟨w4, rfl⟩ : ∃ w4 : World, w4 = wr := ⟨_, rfl⟩
                have cu := Ints.at P4.out.2.1 huk
                have cfr := Row.free P4.out.2.1 u
                have tu : (u : Int) < (i : Int) := by omega
                have tjq : (j' : Int) < (t : Int) := by omega
                obtain ⟨gj, oj, rfl, hgj, j0, j1, j2⟩ := HS.out.job hjm
                obtain ⟨hsb1, hsb2, _⟩ := (HCZ.out j' hjm).2.2
                have hx := STP.out.hx
                have hnx := HNX.out
                obtain ⟨fu, hfu⟩ : ∃ fu, fu = S.F u := ⟨_, rfl⟩
                obtain ⟨s, hs⟩ : ∃ s, s = (J j').secs := ⟨_, rfl⟩
                rw [← hfu] at cu hf1 hf2 hx
                rw [← hs] at j1 hsb1 hsb2 hx
                have HX := Lib.hid hx
                have HN2 : Hid (st t J i M (n + 1) = ⟨upz S.D j' true, upz S.F u (fu + s)⟩) := Lib.hid (by rw [hfu, hs]; exact hnx)
                have hwr : IntKind.i64.wrap (fu + s) = fu + s := IntWalk.i64_in _ (by omega)
                have j3 := cell_kept P4.out.2.2.2.2.1 j1
                have hgj3 := cell_lt j3
                have zj := szs hgj3
                have zu := szs (cell_lt cu)
                dsimp only at zj zu
                clear hfu hs hx hnx j0 j1 j2 hsb1 hsb2 hlt2 hi' hgj hgj3 STP HNX
                go_wp2_with fail
                (refine region_order (fun i : Nat => World.drewN _ i) [] [0, 1, 2, 3, 4, 5, 6, 7, 8, 9, 10] 11 [] mixed (by kernel_rfl) ⟨1, rfl⟩ ?_; simp only [List.map_cons, List.map_nil, Array.getD_eq_getD_getElem?, List.getElem?_toArray, List.getElem?_cons_zero, List.getElem?_cons_succ, Option.getD_some]; (repeat (refine wpPure_cons _ rfl (fun w' => by go_simp; try rfl) ?_; dsimp only [Act.put])); refine wpPure_nil ?_; (repeat (any_goals (first | go_big_quiet_step (fail) | quiet_step (fail) | (refine wpQuiet_step (fun K hK => ?_); go_simp; split <;> (refine hK _ ?_; clear hK K))))); (all_goals (refine wpQuiet_nil (fun nq => ?_))))
                go_wp2_with fail
                refine onlyN_intro ?_
                obtain ⟨w5, hw5⟩ : ∃ w5, w5 = (w4.drewN nq).setCell ⟨bf, u, none⟩ (.int .i64 (fu + s)) := ⟨_, rfl⟩
                have P5 : Hid (PQS w w5 q bf t J i M n _ d _ ow _ _) := Lib.hid (by rw [hw5]; exact (P4.out.below (below_drewN (Below.refl _ _) nq)).book huk (fu + s))
                rw [← hw5]
                have cu5 : w5.cell? ⟨bf, u, none⟩ = some (.int .i64 (fu + s)) := by have := Ints.at P5.out.2.1 huk; rwa [upz_same] at this
                have zu5 := szs (cell_lt cu5)
                dsimp only at zu5
                have A5 : Hid (PQS w (w5.alloc (.cells #[.int .i64 j', .int .i64 u, .int .i64 fu, .int .i64 (fu + s)] 43)) q bf t J i M n _ d _ ow _ _) := Lib.hid (P5.out.below ((Below.refl _ _).alloc (Nat.le_refl _) _))
                clear hw5 cu j3 zj zu P4 P5 cfr hwr
                go_wp2_with (at_builtin; refine wpList_append_row _ rfl _ _ 26 rfl w.heap.size 43 i0 _ 4 32 Try.underlying26 hi hz0 hz1 hz2 rfl (by decide) _ n (wf (pl t J i M)) rfl A5.out.1 (wf_len _) w5.heap.size 1 [.int .i64 j', .int .i64 u, .int .i64 fu, .int .i64 (fu + s)] rfl rfl 43 (0, 0) (heap_alloc_new w5 _) (by intro x hx; simp at hx; rcases hx with rfl | rfl | rfl | rfl <;> rfl) (by omega) (by unfold maxLen; omega) A5.out.2.2.2.2.1.size ?_)
                intro g' cap wA hcap hcap2 hbg hgl hown hrA hgr
                have PA := Lib.hid (PQS.add A5.out hrA hgr (by simpa using hown) (by unfold wf; rw [HX.out]))
                clear hrA hgr hown A5 cu5 zu5
                go_wp2_with fail
                go_roundg (t - (n + 1))
                case measure => have := HLT.out; have := HK.out; omega
                case rel => exact ⟨n + 1, _, ow, by have := HLT.out; omega, rfl, Lib.hid (by rw [HN2.out]; exact PA.out)⟩
          · obtain rfl : n = t := by omega
            have hl : l = [] := List.eq_nil_iff_forall_not_mem.2 (fun x hx => by
              obtain ⟨h0, h1, h2⟩ := (hrel.out.2.2.2.1.2 x).1 hx
              have := st_done H0.out x.toNat (by omega)
              rw [Int.toNat_of_nonneg h0] at this
              rw [this] at h2; cases h2)
            subst hl
            have HP := Lib.hid (QJ.pop_none d wr w.heap.size q ow n hrel.out.2.2.1)
            have hp := Lib.hid (Planned.doneQ H0.out hrel.out)
            clear hrel
            go_wp2_with fail
            refine HP.out.mono ?_
            rintro e w3 ⟨rfl, rfl⟩
            go_wp2_with fail
            go_returns
            exact hp.out
  · have HP := Lib.hid (fun w' (hb : Below w.heap.size w w') => Planned.fail hc hb)
    generalize chkE m J k M = ce at *
    have tb : (ce != 0) = true := by simp; exact hc
    clear hc
    go_enter Try.func11, Try.ntmps11
    go_wp2_with fail
    refine HC.out.mono ?_
    rintro e w1 ⟨rfl, b1⟩
    have B1 := Lib.hid b1
    clear b1 HC
    go_wp2_with fail
    go_returns
    exact HP.out _ B1.out
end Go.Proofs.Ytanpefjbmpohdaa
