/- Custody: all events are carried out in order; somebody notes what happens, by two boxes: the walk. -/
import Derived.Test.YtlnfhlmgnppcbaaGreatZCMR2
namespace Go.Proofs.YtlnfhlmgnppcbaaGreat
open Go.RowKit Go.ChangeShapes Go.WideShapes Go.Deep Go.Maps
set_option linter.unusedVariables false
set_option linter.unusedSimpArgs false
set_option maxRecDepth 8000 in
set_option maxHeartbeats 16000000 in
theorem runTellL {O T : Nat} {v0 : Value} {t : TypeId} {J : Nat → Value → List Ev → World → Prop} (f : Fl) (w0 w : World) (LK : Look2 f 37 w0.heap.size w O T v0 J) (ao : Option Addr) (n c : Nat) (F : Nat → Ev) (hf : f.In w0) (hs : EvSl w0 ao n c F) (hn : n ≤ 1000) (hin : ∀ e ∈ ents F n, inN e)
    (hb0 : Below w0.heap.size w0 w) (hO1 : w0.heap.size ≤ O) (hO2 : O < w.heap.size) (hbx : w.heap[O]? = some (.cells #[v0] t (0, 0))) (hT1 : T < w.heap.size) :
    Calls Tryz.prog 36 #[.agg f.cells, .slice ao n c, .func (.func 37) #[] #[.pointer (some ⟨T, 0, none⟩), .pointer (some ⟨O, 0, none⟩)]] w (RunJ f (ents F n) w0 v0 O t J) := by
  have LK := Lib.hid LK
  have b01 : Below w.heap.size w (w.alloc (.cells f.cells 24)) := by (repeat' (first | (with_reducible exact Below.refl _ _) | (with_reducible assumption) | (with_reducible refine Below.drew ?_) | (with_reducible refine below_drewN ?_ _) | (with_reducible refine Below.alloc ?_ ?_ _) | (with_reducible refine Below.setCell ?_ ?_ _) | go_size))
  have B0 : Hid (Below w0.heap.size w0 (w.alloc (.cells f.cells 24))) := Lib.hid (hb0.trans (b01.mono hb0.size))
  have X0 : Hid ((w.alloc (.cells f.cells 24)).heap[w.heap.size]? = some (.cells f.cells 24 (0, 0))) := Lib.hid (heap_alloc_new w _)
  have OX : Hid ((w.alloc (.cells f.cells 24)).heap[O]? = some (.cells #[v0] t (0, 0))) := Lib.hid ((b01.block _ hO2).trans hbx)
  have BW0 := Lib.hid b01
  obtain ⟨w1, hw1⟩ : ∃ w1, w1 = w.alloc (.cells f.cells 24) := ⟨_, rfl⟩
  rw [← hw1] at B0 X0 OX BW0
  have HW1 := Lib.hid hw1
  have HF0 := Lib.hid hf
  have HS0 := Lib.hid hs
  have HIN := Lib.hid hin
  have FE := Lib.hid (fleet35 f w1 (hf.below B0.out))
  have FZ : Hid (fleetE f = 0 → 1 ≤ f.bikes ∧ f.bikes ≤ 128) := Lib.hid (fun h => (fleetE_zero h).1)
  obtain ⟨x, hx⟩ : ∃ x, x = fleetE f := ⟨_, rfl⟩
  rw [← hx] at FE FZ
  have HX := Lib.hid hx
  have HFC : Hid (f.cells = #[.int .i64 f.bikes, .int .i64 f.riders, .int .i64 f.devs, .slice f.ad f.nd f.cd, .slice f.a2 f.nt f.ct]) := Lib.hid rfl
  rw [HFC.out] at X0 HW1 FE ⊢
  have x0 := cell_at X0.out 0
  have x1 := cell_at X0.out 1
  have x2 := cell_at X0.out 2
  have x3 := cell_at X0.out 3
  have x4 := cell_at X0.out 4
  have zx := szs (block_lt X0.out)
  have HOB0 := Lib.hid (And.intro hO1 hO2)
  have HTB0 := Lib.hid hT1
  clear hw1 hf hs hin hx hb0 hO1 hO2 hbx b01 hT1
  go_enter Tryz.func36, Tryz.ntmps36
  go_wp2_with fail
  rw [← HW1.out]
  go_wp2_with fail
  refine FE.out.mono ?_
  rintro e w2 ⟨rfl, b2⟩
  clear FE
  have B2 := Lib.hid (B0.out.trans (b2.mono B0.out.size))
  have OX2 := Lib.hid ((b2.block _ (block_lt OX.out)).trans OX.out)
  have BW2 := Lib.hid (BW0.out.trans (b2.mono BW0.out.size))
  by_cases hx0 : x = 0
  · subst hx0
    have FB2 := Lib.hid ((b2.block _ (block_lt X0.out)).trans X0.out)
    have BG := Lib.hid (begin69 f w2 (FZ.out rfl).1 (FZ.out rfl).2)
    have HOB : Hid (w0.heap.size ≤ O ∧ O < w.heap.size ∧ O < w2.heap.size) := Lib.hid ⟨HOB0.out.1, HOB0.out.2, block_lt OX2.out⟩
    have HB2 : Hid (w.heap.size < w2.heap.size) := Lib.hid (block_lt FB2.out)
    have HTB : Hid (T < w2.heap.size) := Lib.hid (Nat.lt_of_lt_of_le HTB0.out BW2.out.size)
    rw [HFC.out] at BG
    replace x0 := cell_kept b2 x0
    replace x1 := cell_kept b2 x1
    replace x2 := cell_kept b2 x2
    replace x3 := cell_kept b2 x3
    replace x4 := cell_kept b2 x4
    have zx2 := szs (cell_lt x0)
    clear b2 zx FZ HW1 B0 X0 OX HOB0 BW0 HTB0
    go_wp2_with fail
    refine BG.out.mono ?_
    rintro e w3 ⟨L, rfl, cm3, b3⟩
    obtain ⟨sb, sp, om, um, P0⟩ := L
    have C3 := Lib.hid cm3
    have B3 := Lib.hid (B2.out.trans (b3.mono B2.out.size))
    have HZ3 := Lib.hid b3.size
    have ST := Lib.hid (set70 ao n c F w3 (HS0.out.below B3.out) (by omega))
    have FB3 := Lib.hid ((b3.block _ (block_lt FB2.out)).trans FB2.out)
    have OX3 := Lib.hid ((b3.block _ (block_lt OX2.out)).trans OX2.out)
    have BW3 := Lib.hid (BW2.out.trans (b3.mono BW2.out.size))
    replace x0 := cell_kept b3 x0
    replace x1 := cell_kept b3 x1
    replace x2 := cell_kept b3 x2
    replace x3 := cell_kept b3 x3
    replace x4 := cell_kept b3 x4
    clear BG cm3 b3 HS0 zx2 B2 FB2 OX2 BW2
    go_wp2_with fail
    refine ST.out.mono ?_
    rintro e w4 ⟨v, m, R, rfl, hR, hrow, b4⟩
    obtain ⟨a4, c4, rfl, s4⟩ := EvRow.toSl hrow
    have hmn : m ≤ n := by
      have h1 := setE_len (ents F n)
      rw [← hR, ents_len, ents_len] at h1; exact h1
    have hmc := s4.hm
    have hcc := s4.hc
    have HG : Hid (∀ g o, a4 = some ⟨g, o, none⟩ → w3.heap.size ≤ g ∧ g < w4.heap.size) := Lib.hid (fun g o h => by subst h; exact World.ownsRow.lt hrow g rfl)
    have C4 : Hid (CM w2.heap.size w4.heap.size f ⟨sb, sp, om, um, P0⟩ startS w4) := Lib.hid ((C3.out.below b4).raise b4.size (Nat.le_refl _))
    have B4 := Lib.hid (B3.out.trans (b4.mono B3.out.size))
    have FB4 := Lib.hid ((b4.block _ (block_lt FB3.out)).trans FB3.out)
    have OX4 := (b4.block _ (block_lt OX3.out)).trans OX3.out
    have BW4 := BW3.out.trans (b4.mono BW3.out.size)
    have J4 := Lib.hid (LK.out.start (lo := w4.heap.size) BW4 BW4.size)
    have S4 := Lib.hid s4
    have HRI : Hid (∀ k, k < m → inN (R k)) := Lib.hid (fun k hk => set_in HIN.out _ (by rw [← hR]; exact mem_ents.2 ⟨k, hk, rfl⟩))
    have HRE := Lib.hid (setE_run (f := f) hR)
    have HRG : Hid (∀ k, k ≤ m → RunH f (runK f (ents R m) k) k) := Lib.hid (fun k => by
      induction k with
      | zero => exact fun _ => RunH.zero f _
      | succ k ih => exact fun h => (ih (by omega)).next (by omega) (HRI.out k (by omega)))
    have HNX := Lib.hid (fun k (h : k < m) => runK_next (f := f) (R := R) h)
    have HFO := Lib.hid (show w2.heap.size ≤ w4.heap.size from Nat.le_trans HZ3.out b4.size)
    have HSZ := Lib.hid b4.size
    have C3Z : Hid (sp < w3.heap.size ∧ om < w3.heap.size ∧ um < w3.heap.size) := Lib.hid C3.out.l0.2
    have HK0 := Lib.hid (runK_zero f (ents R m))
    have HACC := Lib.hid (fun k => runK_acc f (ents R m) k)
    have HLN : Hid (∀ k, k ≤ m → (runK f (ents R m) k).2.length ≤ 1000) := Lib.hid (fun k hk => by have := runK_len f (ents R m) k; omega)
    clear ST hR hrow b4 C3 B3 s4 x0 x1 x2 x3 x4 HIN FB3 OX3 OX4 BW3 BW4
    generalize hrk : runK f (ents R m) = rk at *
    clear hrk
    go_wp2_with fail
    have hnn : ∀ w', Sem.run Tryz.prog (binOp .neq 91 (.func (.func 37) #[] #[.pointer (some ⟨T, 0, none⟩), .pointer (some ⟨O, 0, none⟩)]) .nilFunc) w' = .ok (.bool true) w' := fun w' => by rfl
    go_loopw [23] (fun s23 wr => ∃ (k : Nat) (P : Nat → Nat) (v : Value), s23 = .int .i64 k ∧ k ≤ m ∧ Hid (CM w2.heap.size w4.heap.size f ⟨sb, sp, om, um, P⟩ (rk k).1 wr) ∧ Hid (J w4.heap.size v (rk k).2 wr) ∧ Hid (∀ g, v.ownBlock = some g → ∀ i, i < (rk k).1.k → P i ≠ g) ∧ Hid (Below w0.heap.size w0 wr) ∧ Hid (EvSl wr a4 m c4 R) ∧
      Hid (wr.heap[w.heap.size]? = some (.cells #[.int .i64 f.bikes, .int .i64 f.riders, .int .i64 f.devs, .slice f.ad f.nd f.cd, .slice f.a2 f.nt f.ct] 24 (0, 0)))) (fun s23 _ => m - (intOf s23).toNat)
    case atStart => exact ⟨0, P0, v0, rfl, by omega, Lib.hid (by rw [HK0.out]; exact C4.out), Lib.hid (by rw [HK0.out]; exact J4.out), Lib.hid (fun g h i hi => by rw [HK0.out] at hi; exact absurd hi (Nat.not_lt_zero _)), B4, S4, FB4⟩
    case round =>
      obtain ⟨k, P, v, rfl, hk, hC, hj, hgp, hb, hs, hfb⟩ := hrel
      have CK := hC
      have JV := hj
      have GK := hgp
      have BK := hb
      have SK := hs
      have FB := hfb
      clear hC hb hs hj hgp hfb C4 B4 S4 J4 FB4
      by_cases hlt : k < m
      · have tk : (k : Int) < (m : Int) := by omega
        obtain ⟨g, o, rfl, hg, ea⟩ := evs_at SK.out hlt
        have hgb := HG.out g o rfl
        have zg := szs hg
        have N1 := HNX.out k hlt
        have G1 := Lib.hid (HRG.out k (by omega))
        have I1 := HRI.out k hlt
        have hvp : (R k).place ≤ 9223372036854775807 := (I1 _ (by simp [nums])).2
        have CE := Lib.hid (fun w' (hb : Below wr.heap.size wr w') => check71 f (R k) w' ((HF0.out.below BK.out).below hb) hvp)
        have CH := Lib.hid (fun w' (hb : Below wr.heap.size wr w') => check72 (CK.out.below hb) G1.out.inv (R k) I1)
        have DO := Lib.hid (fun w' (hb : Below wr.heap.size wr w') => do73 (CK.out.below hb) G1.out.inv (R k) I1)
        have FI := Lib.hid (HF0.out.below BK.out)
        have HLK := Lib.hid (HLN.out k (by omega))
        clear HRG HRI HNX I1 hvp HLN
        generalize hy : R k = y at *
        clear hy
        obtain ⟨v1, v2, v3, v4, v5, v6, v7, v8, v9⟩ := y
        unfold eC at CE CH DO
        dsimp only at CE CH DO
        (have y0 := (ea).c0; have y1 := (ea).c1; have y2 := (ea).c2; have y3 := (ea).c3; have y4 := (ea).c4; have y5 := (ea).c5; have y6 := (ea).c6; have y7 := (ea).c7; have y8 := (ea).c8); (try dsimp only at y0 y1 y2 y3 y4 y5 y6 y7 y8)
        have x0 := cell_at FB.out 0
        have x1 := cell_at FB.out 1
        have x2 := cell_at FB.out 2
        have x3 := cell_at FB.out 3
        have x4 := cell_at FB.out 4
        have BA : Hid (Below wr.heap.size wr (wr.alloc (.cells #[.int .i64 v1, .int .i64 v2, .int .i64 v3, .int .i64 v4, .int .i64 v5, .int .i64 v6, .int .i64 v7, .int .i64 v8, .int .i64 v9] 81))) := Lib.hid (by (repeat' (first | (with_reducible exact Below.refl _ _) | (with_reducible assumption) | (with_reducible refine Below.drew ?_) | (with_reducible refine below_drewN ?_ _) | (with_reducible refine Below.alloc ?_ ?_ _) | (with_reducible refine Below.setCell ?_ ?_ _) | go_size)))
        have XA : Hid ((wr.alloc (.cells #[.int .i64 v1, .int .i64 v2, .int .i64 v3, .int .i64 v4, .int .i64 v5, .int .i64 v6, .int .i64 v7, .int .i64 v8, .int .i64 v9] 81)).heap[wr.heap.size]? = some (.cells #[.int .i64 v1, .int .i64 v2, .int .i64 v3, .int .i64 v4, .int .i64 v5, .int .i64 v6, .int .i64 v7, .int .i64 v8, .int .i64 v9] 81 (0, 0))) := Lib.hid (heap_alloc_new wr _)
        obtain ⟨c, hc⟩ : ∃ c, c = checkE f ⟨v1, v2, v3, v4, v5, v6, v7, v8, v9⟩ := ⟨_, rfl⟩
        rw [← hc] at CE
        have HCK := Lib.hid hc
        clear hc
        have zx := szs (cell_lt x0)
        dsimp only at zx
        go_wp2_with fail
        refine (CE.out _ BA.out).mono ?_
        rintro e w6 ⟨rfl, b6⟩
        have B6 := Lib.hid (BA.out.trans (b6.mono BA.out.size))
        have yA := (b6.block _ (block_lt XA.out)).trans XA.out
        have y0 := cell_at yA 0
        have y1 := cell_at yA 1
        have y2 := cell_at yA 2
        have y3 := cell_at yA 3
        have y4 := cell_at yA 4
        have y5 := cell_at yA 5
        have y6 := cell_at yA 6
        have y7 := cell_at yA 7
        have y8 := cell_at yA 8
        have zy := szs (cell_lt y0)
        have HBE := Lib.hid (block_lt FB.out)
        dsimp only at zy
        clear CE BA XA b6 x0 x1 x2 x3 x4 zx zg
        by_cases hc0 : c = 0
        · subst hc0
          by_cases hk10 : v5 = 10
          · subst hk10
            clear CH DO FI yA
            have HS1 : Hid (rk (k + 1) = rk k) := Lib.hid (by rw [N1]; exact step_no (.inr (.inl rfl)))
            have C5 := Lib.hid (CK.out.below B6.out)
            have J5 := Lib.hid (LK.out.off (X := fun _ => False) JV.out (Off.of_below B6.out) (fun h => h) (fun h => h) (fun _ _ h => h))
            have S5 := Lib.hid (SK.out.below B6.out)
            have F5 := Lib.hid ((B6.out.block _ (block_lt FB.out)).trans FB.out)
            have B5 := Lib.hid (BK.out.trans (B6.out.mono BK.out.size))
            go_wp2_with fail
            go_roundw
            case rel => exact ⟨k + 1, P, v, by go_num, by omega, Lib.hid (by rw [HS1.out]; exact C5.out), Lib.hid (by rw [HS1.out]; exact J5.out), Lib.hid (by rw [HS1.out]; exact GK.out), B5, S5, F5⟩
            case measure => simp [intOf]; omega
          · have t10 : (v5 == 10) = false := by simpa using hk10
            have CH1 := Lib.hid (CH.out w6 B6.out HCK.out.symm hk10 (FI.out.below B6.out))
            obtain ⟨q, hq⟩ : ∃ q, q = faultK f (rk k).1 ⟨v1, v2, v3, v4, v5, v6, v7, v8, v9⟩ := ⟨_, rfl⟩
            rw [← hq] at CH1
            have HQ := Lib.hid hq
            clear hq CH
            go_wp2_with fail
            refine CH1.out.mono ?_
            rintro e w7 ⟨rfl, b7⟩
            have B7 := Lib.hid (B6.out.trans (b7.mono B6.out.size))
            replace yA := (b7.block _ (block_lt yA)).trans yA
            have y0 := cell_at yA 0
            have y1 := cell_at yA 1
            have y2 := cell_at yA 2
            have y3 := cell_at yA 3
            have y4 := cell_at yA 4
            have y5 := cell_at yA 5
            have y6 := cell_at yA 6
            have y7 := cell_at yA 7
            have y8 := cell_at yA 8
            clear zy
            have zy := szs (block_lt yA)
            clear b7 B6 CH1
            by_cases hq0 : q = 0
            · subst hq0
              have DO1 := Lib.hid (DO.out w7 B7.out HCK.out.symm hk10 HQ.out.symm G1.out.wf (by have := G1.out.few; omega))
              clear DO FI
              go_wp2_with fail
              refine DO1.out.mono ?_
              rintro e w8 ⟨P', ⟨rfl, cm8, o8⟩, hP8⟩
              have HS1 : Hid (rk (k + 1) = (applyK (rk k).1 ⟨v1, v2, v3, v4, v5, v6, v7, v8, v9⟩, (rk k).2 ++ [⟨v1, v2, v3, v4, v5, v6, v7, v8, v9⟩])) := Lib.hid (by rw [N1]; exact step_yes HCK.out.symm hk10 HQ.out.symm)
              have HL1 : Hid ((if (0 : Int) = 0 then (rk k).2 ++ [⟨v1, v2, v3, v4, v5, v6, v7, v8, v9⟩] else (rk k).2) = (rk (k + 1)).2) := Lib.hid (by rw [HS1.out]; rfl)
              have hOw : ¬ Lay.own ⟨sb, sp, om, um, P⟩ (rk k).1.k O := fun h => by have := CK.out.own_ge h; have := HOB.out; omega
              have hTw : ¬ Lay.own ⟨sb, sp, om, um, P⟩ (rk k).1.k T := fun h => by have := CK.out.own_ge h; have := HTB.out; omega
              have hrw := fun g (h : v.ownBlock = some g) => LK.out.row JV.out h
              have hgw : ∀ g, v.ownBlock = some g → ¬ Lay.own ⟨sb, sp, om, um, P⟩ (rk k).1.k g := fun g h => by
                rcases (hrw g h).1 with h1 | h1
                · exact fun hh => by have := CK.out.own_ge hh; have := HB2.out; omega
                · exact CK.out.own_row h1 (GK.out g h)
              have hxw : ¬ Lay.own ⟨sb, sp, om, um, P⟩ (rk k).1.k wr.heap.size := CK.out.own_row CK.out.hi (fun i hi => by have := (CK.out.pl i hi).2; omega)
              have hfw : ¬ Lay.own ⟨sb, sp, om, um, P⟩ (rk k).1.k w.heap.size := fun h => by have := CK.out.own_ge h; have := HB2.out; omega
              have hl0 := CK.out.l0
              have hsw : ¬ Lay.own ⟨sb, sp, om, um, P⟩ (rk k).1.k g := fun h => by
                have c3 := C3Z.out
                have hh := hgb
                rcases h with e | e | e | ⟨i, hi, e⟩
                · have e : g = sp := e
                  omega
                · have e : g = om := e
                  omega
                · have e : g = um := e
                  omega
                · have := (CK.out.pl i hi).1
                  have e : g = P i := e
                  dsimp only at this
                  omega
              have C5 : Hid (CM w2.heap.size w4.heap.size f ⟨sb, sp, om, um, P'⟩ (rk (k + 1)).1 w8) := Lib.hid (by rw [HS1.out]; exact cm8)
              have J5 := Lib.hid (LK.out.off (LK.out.off (X := fun _ => False) JV.out (Off.of_below B7.out) (fun h => h) (fun h => h) (fun _ _ h => h)) o8 hOw hTw hgw)
              have S5 := Lib.hid (Sl.off (SK.out.below B7.out) o8 (fun a ha => by cases ha; exact hsw))
              have F5 := Lib.hid ((o8.block _ (by have := block_lt FB.out; have := B7.out.size; omega) hfw).trans ((B7.out.block _ (block_lt FB.out)).trans FB.out))
              have B5 := Lib.hid ((BK.out.trans (B7.out.mono BK.out.size)).trans (o8.toBelow (by have := BK.out.size; have := B7.out.size; omega) (fun q hq h => by have := CK.out.own_ge h; have := HOB.out; omega)))
              have G5 : Hid (∀ g, v.ownBlock = some g → ∀ i, i < (rk (k + 1)).1.k → P' i ≠ g) := Lib.hid (fun g h i hi he => by
                rw [HS1.out] at hi
                rcases hP8 i hi with ⟨h1, h2⟩ | h2
                · exact GK.out g h i h1 (h2.symm.trans he)
                · have := (hrw g h).2
                  have := B7.out.size
                  omega)
              replace yA := (o8.block _ (block_lt yA) hxw).trans yA
              have y0 := cell_at yA 0
              have y1 := cell_at yA 1
              have y2 := cell_at yA 2
              have y3 := cell_at yA 3
              have y4 := cell_at yA 4
              have y5 := cell_at yA 5
              have y6 := cell_at yA 6
              have y7 := cell_at yA 7
              have y8 := cell_at yA 8
              clear zy
              have zy := szs (block_lt yA)
              clear DO1 o8 cm8 hP8 hOw hTw hrw hgw hxw hfw hl0 hsw B7
              have SE := LK.out.seen ⟨v1, v2, v3, v4, v5, v6, v7, v8, v9⟩ 0 C5.out (by rw [HL1.out]; exact HACC.out (k + 1)) J5.out HLK.out (fun _ => HCK.out.symm)
              rw [HL1.out] at SE
              unfold eC at SE
              dsimp only at SE
              replace SE := Lib.hid SE
              go_wp2_with fail
              refine SE.out.mono ?_
              rintro e w9 ⟨rfl, vv, j9, g9, o9⟩
              have hOl := HOB.out
              have hq1 := HZ3.out
              have hq2 := HSZ.out
              have hq3 := HB2.out
              have hrow := fun g (h : v.ownBlock = some g) => LK.out.row J5.out h
              have C9 := Lib.hid (C5.out.seen2 hOl.2.2 (fun g h => by rcases (hrow g h).1 with h1 | h1; exact .inl (by omega); exact .inr h1) G5.out o9)
              have J9 := Lib.hid j9
              have S9 := Lib.hid (Sl.off S5.out o9 (fun a ha h => by
                cases ha
                rcases h with h | h
                · have h : g = O := h
                  omega
                · have := (hrow _ h).1
                  have h3 := hgb.2
                  dsimp only at this h3
                  omega))
              have F9 := Lib.hid ((o9.block _ (block_lt F5.out) (fun h => by
                rcases h with h | h
                · have h : w.heap.size = O := h
                  omega
                · have := (hrow _ h).1
                  omega)).trans F5.out)
              have B9 := Lib.hid (B5.out.trans (o9.toBelow B5.out.size (fun q hq h => by
                rcases h with h | h
                · omega
                · have := (hrow _ h).1
                  omega)))
              have G9 : Hid (∀ g, vv.ownBlock = some g → ∀ i, i < (rk (k + 1)).1.k → P' i ≠ g) := Lib.hid (fun g h i hi => by
                rcases g9 g h with h2 | h2
                · exact G5.out g h2 i hi
                · have := (C5.out.pl i hi).2
                  dsimp only at this
                  omega)
              clear SE j9 g9 o9 hrow hq1 hq2 hq3 hOl C5 J5 S5 F5 B5 G5
              go_wp2_with fail
              go_roundw
              case rel => exact ⟨k + 1, P', vv, by go_num, by omega, C9, J9, G9, B9, S9, F9⟩
              case measure => simp [intOf]; omega
            · have tq : (q == 0) = false := by simpa using hq0
              have HS1 : Hid (rk (k + 1) = rk k) := Lib.hid (by rw [N1]; exact step_no (.inr (.inr (fun h => hq0 (HQ.out.trans h)))))
              have HL1 : Hid ((if q = 0 then (rk k).2 ++ [⟨v1, v2, v3, v4, v5, v6, v7, v8, v9⟩] else (rk k).2) = (rk (k + 1)).2) := Lib.hid (by rw [HS1.out, if_neg hq0])
              have C5 := Lib.hid (CK.out.below B7.out)
              have J5 := Lib.hid (LK.out.off (X := fun _ => False) JV.out (Off.of_below B7.out) (fun h => h) (fun h => h) (fun _ _ h => h))
              have S5 := Lib.hid (SK.out.below B7.out)
              have F5 := Lib.hid ((B7.out.block _ (block_lt FB.out)).trans FB.out)
              have B5 := Lib.hid (BK.out.trans (B7.out.mono BK.out.size))
              replace C5 : Hid (CM w2.heap.size w4.heap.size f ⟨sb, sp, om, um, P⟩ (rk (k + 1)).1 w7) := Lib.hid (by rw [HS1.out]; exact C5.out)
              have G5 : Hid (∀ g, v.ownBlock = some g → ∀ i, i < (rk (k + 1)).1.k → P i ≠ g) := Lib.hid (by rw [HS1.out]; exact GK.out)
              clear DO FI B7
              have SE := LK.out.seen ⟨v1, v2, v3, v4, v5, v6, v7, v8, v9⟩ q C5.out (by rw [HL1.out]; exact HACC.out (k + 1)) J5.out HLK.out (fun h => absurd h hq0)
              rw [HL1.out] at SE
              unfold eC at SE
              dsimp only at SE
              replace SE := Lib.hid SE
              go_wp2_with fail
              refine SE.out.mono ?_
              rintro e w9 ⟨rfl, vv, j9, g9, o9⟩
              have hOl := HOB.out
              have hq1 := HZ3.out
              have hq2 := HSZ.out
              have hq3 := HB2.out
              have hrow := fun g (h : v.ownBlock = some g) => LK.out.row J5.out h
              have C9 := Lib.hid (C5.out.seen2 hOl.2.2 (fun g h => by rcases (hrow g h).1 with h1 | h1; exact .inl (by omega); exact .inr h1) G5.out o9)
              have J9 := Lib.hid j9
              have S9 := Lib.hid (Sl.off S5.out o9 (fun a ha h => by
                cases ha
                rcases h with h | h
                · have h : g = O := h
                  omega
                · have := (hrow _ h).1
                  have h3 := hgb.2
                  dsimp only at this h3
                  omega))
              have F9 := Lib.hid ((o9.block _ (block_lt F5.out) (fun h => by
                rcases h with h | h
                · have h : w.heap.size = O := h
                  omega
                · have := (hrow _ h).1
                  omega)).trans F5.out)
              have B9 := Lib.hid (B5.out.trans (o9.toBelow B5.out.size (fun q hq h => by
                rcases h with h | h
                · omega
                · have := (hrow _ h).1
                  omega)))
              have G9 : Hid (∀ g, vv.ownBlock = some g → ∀ i, i < (rk (k + 1)).1.k → P i ≠ g) := Lib.hid (fun g h i hi => by
                rcases g9 g h with h2 | h2
                · exact G5.out g h2 i hi
                · have := (C5.out.pl i hi).2
                  dsimp only at this
                  omega)
              clear SE j9 g9 o9 hrow hq1 hq2 hq3 hOl C5 J5 S5 F5 B5 G5
              go_wp2_with fail
              go_roundw
              case rel => exact ⟨k + 1, P, vv, by go_num, by omega, C9, J9, G9, B9, S9, F9⟩
              case measure => simp [intOf]; omega
        · have tc : (c == 0) = false := by simpa using hc0
          have HS1 : Hid (rk (k + 1) = rk k) := Lib.hid (by rw [N1]; exact step_no (.inl (fun h => hc0 (HCK.out.trans h))))
          have HL1 : Hid ((if c = 0 then (rk k).2 ++ [⟨v1, v2, v3, v4, v5, v6, v7, v8, v9⟩] else (rk k).2) = (rk (k + 1)).2) := Lib.hid (by rw [HS1.out, if_neg hc0])
          have C5 := Lib.hid (CK.out.below B6.out)
          have J5 := Lib.hid (LK.out.off (X := fun _ => False) JV.out (Off.of_below B6.out) (fun h => h) (fun h => h) (fun _ _ h => h))
          have S5 := Lib.hid (SK.out.below B6.out)
          have F5 := Lib.hid ((B6.out.block _ (block_lt FB.out)).trans FB.out)
          have B5 := Lib.hid (BK.out.trans (B6.out.mono BK.out.size))
          replace C5 : Hid (CM w2.heap.size w4.heap.size f ⟨sb, sp, om, um, P⟩ (rk (k + 1)).1 w6) := Lib.hid (by rw [HS1.out]; exact C5.out)
          have G5 : Hid (∀ g, v.ownBlock = some g → ∀ i, i < (rk (k + 1)).1.k → P i ≠ g) := Lib.hid (by rw [HS1.out]; exact GK.out)
          clear CH DO FI B6
          have SE := LK.out.seen ⟨v1, v2, v3, v4, v5, v6, v7, v8, v9⟩ c C5.out (by rw [HL1.out]; exact HACC.out (k + 1)) J5.out HLK.out (fun h => absurd h hc0)
          rw [HL1.out] at SE
          unfold eC at SE
          dsimp only at SE
          replace SE := Lib.hid SE
          go_wp2_with fail
          refine SE.out.mono ?_
          rintro e w9 ⟨rfl, vv, j9, g9, o9⟩
          have hOl := HOB.out
          have hq1 := HZ3.out
          have hq2 := HSZ.out
          have hq3 := HB2.out
          have hrow := fun g (h : v.ownBlock = some g) => LK.out.row J5.out h
          have C9 := Lib.hid (C5.out.seen2 hOl.2.2 (fun g h => by rcases (hrow g h).1 with h1 | h1; exact .inl (by omega); exact .inr h1) G5.out o9)
          have J9 := Lib.hid j9
          have S9 := Lib.hid (Sl.off S5.out o9 (fun a ha h => by
            cases ha
            rcases h with h | h
            · have h : g = O := h
              omega
            · have := (hrow _ h).1
              have h3 := hgb.2
              dsimp only at this h3
              omega))
          have F9 := Lib.hid ((o9.block _ (block_lt F5.out) (fun h => by
            rcases h with h | h
            · have h : w.heap.size = O := h
              omega
            · have := (hrow _ h).1
              omega)).trans F5.out)
          have B9 := Lib.hid (B5.out.trans (o9.toBelow B5.out.size (fun q hq h => by
            rcases h with h | h
            · omega
            · have := (hrow _ h).1
              omega)))
          have G9 : Hid (∀ g, vv.ownBlock = some g → ∀ i, i < (rk (k + 1)).1.k → P i ≠ g) := Lib.hid (fun g h i hi => by
            rcases g9 g h with h2 | h2
            · exact G5.out g h2 i hi
            · have := (C5.out.pl i hi).2
              dsimp only at this
              omega)
          clear SE j9 g9 o9 hrow hq1 hq2 hq3 hOl C5 J5 S5 F5 B5 G5
          go_wp2_with fail
          go_roundw
          case rel => exact ⟨k + 1, P, vv, by go_num, by omega, C9, J9, G9, B9, S9, F9⟩
          case measure => simp [intOf]; omega
      · obtain rfl : k = m := by omega
        go_wp2_with fail
        go_returns
        exact ⟨BK.out, .inr ⟨HX.out.symm, sb, w4.heap.size, v, rfl, by rw [← HRE.out]; exact JV.out⟩⟩
  · have tx : (x != 0) = true := by simpa using hx0
    go_wp2_with fail
    go_returns
    exact ⟨B2.out, .inl ⟨fun h => hx0 (HX.out.trans h), by rw [HX.out]; rfl, OX2.out⟩⟩
end Go.Proofs.YtlnfhlmgnppcbaaGreat
