/- One more event in the reference's set. -/
import Derived.Test.YtmhnkfcbbjbpfaaE4
import Derived.Test.YtmhnkfcbbjbpfaaD2
namespace Go.Proofs.Ytmhnkfcbbjbpfaa
open Go.RowKit Go.ChangeShapes Go.WideShapes Go.Deep
set_option linter.unusedVariables false
set_option linter.unusedSimpArgs false
def Made (w : World) (l : List Ev) (e : Ending) (w' : World) : Prop := ∃ (v : Value) (m : Nat) (R : Nat → Ev), e = .returned v ∧ ents R m = l ∧ EvRow w' w.heap.size v m R ∧ Below w.heap.size w w'
/-- A block that holds one event. -/
def Box (w : World) (b : Nat) (v : Ev) : Prop := EvRow w 0 (.slice (some ⟨b, 0, none⟩) 1 1) 1 (fun _ => v)
theorem Box.new (w : World) (v : Ev) : Box (w.alloc (.cells (eC v) 26)) w.heap.size v :=
  ⟨rfl, .inr ⟨_, 1, eC v, rfl, Nat.zero_le _, heap_alloc_new w _, Nat.le_refl _, by decide, rfl, rfl⟩⟩
theorem Box.at {w : World} {b : Nat} {v : Ev} (h : Box w b v) : EvAt w b 0 v := by
  have := EvRow.at h (i := 0) (by decide)
  rwa [Nat.zero_mul] at this
theorem Box.put {w : World} {b : Nat} {v : Ev} (h : Box w b v) (x : Ev) : Box (putCells w b 0 (evs x)) b x := by
  have := EvRow.put h (i := 0) (by decide) x
  rw [Nat.zero_mul] at this
  exact Row.congr this fun i hi => by
    obtain rfl : i = 0 := by omega
    rw [upd_same]
theorem Box.lt {w : World} {b : Nat} {v : Ev} (h : Box w b v) : b < w.heap.size := by
  rcases Row.shape h with ⟨h, _⟩ | ⟨g, c, he, _, hl, _⟩
  · cases h
  · cases he; exact hl
theorem Box.off {X : Nat → Prop} {w w' : World} {b : Nat} {v : Ev} (h : Box w b v) (ho : Off X w w') (hX : ¬ X b) : Box w' b v := Row.off h ho (fun g hg => by cases hg; exact hX)
theorem Box.below {w w' : World} {b : Nat} {v : Ev} (h : Box w b v) (hb : Below w.heap.size w w') : Box w' b v := h.off (X := fun _ => False) (Off.of_below hb) (fun h => h)
theorem EvRow.below {w w' : World} {base : Nat} {v : Value} {n : Nat} {F : Nat → Ev} (h : EvRow w base v n F) (hb : Below w.heap.size w w') : EvRow w' base v n F := Row.off (X := fun _ => False) h (Off.of_below hb) (fun _ _ h => h)
theorem evs_at {w : World} {ao : Option Addr} {m c : Nat} {F : Nat → Ev} (h : Sl w 9 ao m c (fun i => evs (F i))) {i : Nat} (hi : i < m) : ∃ g o, ao = some ⟨g, o, none⟩ ∧ g < w.heap.size ∧ EvAt w g (o + i * 9) (F i) := by
  obtain ⟨g, o, e, hc⟩ := h.cell hi
  have hA := EvAt.of (v := F i) hc
  exact ⟨g, o, e, cell_lt hA.c0, hA⟩
theorem EvAt.below {w w' : World} {b o : Nat} {v : Ev} (h : EvAt w b o v) (hb : Below w.heap.size w w') : EvAt w' b o v := ⟨cell_kept hb h.c0, cell_kept hb h.c1, cell_kept hb h.c2, cell_kept hb h.c3, cell_kept hb h.c4, cell_kept hb h.c5, cell_kept hb h.c6, cell_kept hb h.c7, cell_kept hb h.c8⟩
theorem Box.free {w : World} {b : Nat} {v : Ev} (h : Box w b v) (j : Nat) : w.frozen? ⟨b, j, none⟩ = false := Row.free h j
theorem Box.put_off {X : Nat → Prop} {w0 w : World} {b : Nat} (x : Ev) (ho : Off X w0 w) (hX : X b) : Off X w0 (putCells w b 0 (evs x)) := off_putCells hX (evs x) 0 w ho
theorem EvRow.after {w : World} {base b n : Nat} {v : Value} {F : Nat → Ev} (h : EvRow w base v n F) (hb : b < base) (x : Ev) : EvRow (putCells w b 0 (evs x)) base v n F :=
  Row.off h (off_putCells (X := fun k => k = b) rfl (evs x) 0 w (Off.refl _ _)) (fun g hg hx => by
    rcases Row.shape h with ⟨rfl, _⟩ | ⟨g', c, rfl, h1, _⟩
    · simp [Value.ownBlock] at hg
    · simp [Value.ownBlock] at hg; omega)
theorem EvRow.apart {w : World} {base b n : Nat} {v : Value} {F : Nat → Ev} (h : EvRow w base v n F) (hb : b < base) : ¬ some b = v.ownBlock := fun hg => by
  rcases Row.shape h with ⟨rfl, _⟩ | ⟨g', c, rfl, h1, _⟩
  · simp [Value.ownBlock] at hg
  · simp [Value.ownBlock] at hg; omega
theorem below_put {w w' : World} {b : Nat} (h : Below w.heap.size w w') (hb : w.heap.size ≤ b) (cs : List Value) : Below w.heap.size w (putCells w' b 0 cs) :=
  (off_putCells (X := fun k => k = b) rfl cs 0 w' (Off.of_below h)).toBelow (Nat.le_refl _) (fun k hk h => by omega)
theorem Row.apart {w : World} {base e s n : Nat} {v : Value} {f : Nat → List Value} (h : Row w base e s v n f) {q : Nat} (hq : q < base) : ¬ some q = v.ownBlock := fun hg => by
  rcases Row.shape h with ⟨rfl, _⟩ | ⟨g', c, rfl, h1, _⟩
  · simp [Value.ownBlock] at hg
  · simp [Value.ownBlock] at hg; omega
theorem SlE.drop {w : World} {s g o m : Nat} {f : Nat → List Value} (h : SlE w s (some ⟨g, o, none⟩) m f) (j : Nat) : SlE w s (some ⟨g, o + j * s, none⟩) (m - j) (fun i => f (j + i)) := fun i hi => by
  obtain ⟨g', o', e, hc⟩ := h (j + i) (by omega)
  cases e
  refine ⟨g, o + j * s, rfl, fun q hq => ?_⟩
  rw [Nat.add_assoc o, ← Nat.add_mul]; exact hc q hq
theorem ents_ins {α : Type} (O : Nat → α) (k j : Nat) (hj : j ≤ k) (x : α) : ents (fun i => if i < j then O i else if i = j then x else O (i - 1)) (k + 1) = (ents O k).take j ++ x :: (ents O k).drop j := by
  apply List.ext_getElem?
  intro q
  have hl : ((ents O k).take j).length = j := by simp [ents]; omega
  by_cases h1 : q < j
  · rw [ents_get (by omega), List.getElem?_append_left (by omega), List.getElem?_take, if_pos h1, ents_get (by omega)]
    simp [h1]
  · by_cases h2 : q = j
    · subst h2
      rw [ents_get (by omega), List.getElem?_append_right (by omega), hl]
      simp
    · obtain ⟨p, rfl⟩ : ∃ p, q = p + 1 := ⟨q - 1, by omega⟩
      rw [List.getElem?_append_right (by omega), hl, show p + 1 - j = (p - j) + 1 by omega, List.getElem?_cons_succ, List.getElem?_drop, show j + (p - j) = p by omega]
      by_cases h3 : p < k
      · rw [ents_get (by omega), ents_get h3]
        simp [h1, h2]
      · rw [List.getElem?_eq_none (by simp [ents]; omega), List.getElem?_eq_none (by simp [ents]; omega)]
theorem upd_len {f : Nat → List Value} {s n : Nat} {x : List Value} (h : ∀ i, (f i).length = s) (hx : x.length = s) (i : Nat) : (upd f n x i).length = s := by
  by_cases e : i = n
  · subst e; rw [upd_same]; exact hx
  · rw [upd_ne e]; exact h i
set_option maxHeartbeats 8000000 in
set_option maxRecDepth 4000 in
theorem with49 (ao : Option Addr) (m c : Nat) (R : Nat → Ev) (e : Ev) (w : World) (h : Sl w 9 ao m c (fun i => evs (R i))) (hm : m ≤ 1000000) : Calls Try.prog 49 #[.slice ao m c, .agg (eC e)] w (Made w (withE (ents R m) e)) := by
  obtain ⟨i0, hi0, hz0, hz1, hz2⟩ := info_parts infoEv
  have hmc := h.hm
  have hcc := h.hc
  have HS := Lib.hid h
  clear h
  have BX := Lib.hid (Box.new w e)
  have B0 : Hid (Below w.heap.size w (w.alloc (.cells (eC e) 26))) := Lib.hid (by (repeat' (first | (with_reducible exact Below.refl _ _) | (with_reducible assumption) | (with_reducible refine Below.drew ?_) | (with_reducible refine below_drewN ?_ _) | (with_reducible refine Below.alloc ?_ ?_ _) | (with_reducible refine Below.setCell ?_ ?_ _) | go_size)))
  obtain ⟨w0, hw0⟩ : ∃ w0, w0 = w.alloc (.cells (eC e) 26) := ⟨_, rfl⟩
  rw [← hw0] at BX B0
  have Z0 : Hid (w0.heap.size = w.heap.size + 1) := Lib.hid (by rw [hw0]; simp)
  have HW := Lib.hid hw0
  unfold eC at HW ⊢
  clear hw0
  go_enter Try.func49, Try.ntmps49
  go_wp2_with fail
  rw [← HW.out]
  clear HW
  go_loopw [5, 6] (fun s5 s6 wr => ∃ (i k : Nat) (O : Nat → Ev) (cur : Ev), s6 = .int .i64 i ∧ i ≤ m ∧ k ≤ i ∧ Hid (EvRow wr (w.heap.size + 1) s5 k O ∧ ents O k = dropN (ents R i) e ∧ cur = lesserE (ents R i) e ∧ Box wr w.heap.size cur ∧ Below w.heap.size w wr)) (fun _ s6 _ => m - (intOf s6).toNat)
  case atStart => exact ⟨0, 0, R, e, rfl, by omega, by omega, Lib.hid ⟨⟨rfl, .inl ⟨rfl, rfl⟩⟩, rfl, rfl, BX.out, B0.out⟩⟩
  case round =>
    obtain ⟨i, k, O, cur, rfl, hi, hk, hrel⟩ := hrel
    have HREL := hrel
    clear hrel BX B0 Z0
    by_cases hlt : i < m
    · have ti : (i : Int) < (m : Int) := by omega
      have S1 := HS.out.below HREL.out.2.2.2.2
      obtain ⟨g, o, rfl, hg, A1⟩ := evs_at S1 hlt
      have A2 := HREL.out.2.2.2.1.at
      have zg := szs hg
      have zb := szs HREL.out.2.2.2.1.lt
      have C20 := fun w' => less20 (R i) cur w'
      obtain ⟨r, hr⟩ : ∃ r, r = ltE (R i) cur := ⟨_, rfl⟩
      rw [← hr] at C20
      have SN : Hid (sameN (R i) cur = (decide ((R i).dev = cur.dev) && decide ((R i).seq = cur.seq))) := Lib.hid rfl
      have HRR0 := Lib.hid (ents_succ R i)
      have STD := Lib.hid (dropN_snoc (ents R i) e (R i))
      have STL := Lib.hid (lesserE_snoc (ents R i) e (R i))
      rw [← HREL.out.2.2.1] at STD STL
      have HRR := Lib.hid hr
      obtain ⟨x, hx⟩ : ∃ x, x = R i := ⟨_, rfl⟩
      rw [← hx] at A1 C20 SN HRR HRR0 STD STL
      have HX := Lib.hid hx
      obtain ⟨y, hy⟩ : ∃ y, y = cur := ⟨_, rfl⟩
      rw [← hy] at A2 C20 SN HRR STD STL
      have HY := Lib.hid hy
      clear hr hx hy S1
      unfold eC at C20
      obtain ⟨x1, x2, x3, x4, x5, x6, x7, x8, x9⟩ := x
      obtain ⟨y1, y2, y3, y4, y5, y6, y7, y8, y9⟩ := y
      (have a0 := (A1).c0; have a1 := (A1).c1; have a2 := (A1).c2; have a3 := (A1).c3; have a4 := (A1).c4; have a5 := (A1).c5; have a6 := (A1).c6; have a7 := (A1).c7; have a8 := (A1).c8); (try dsimp only at a0 a1 a2 a3 a4 a5 a6 a7 a8)
      (have d0 := (A2).c0; have d1 := (A2).c1; have d2 := (A2).c2; have d3 := (A2).c3; have d4 := (A2).c4; have d5 := (A2).c5; have d6 := (A2).c6; have d7 := (A2).c7; have d8 := (A2).c8); (try dsimp only at d0 d1 d2 d3 d4 d5 d6 d7 d8)
      dsimp only at C20 SN
      replace C20 := Lib.hid C20
      have HA1 := Lib.hid A1
      have HA2 := Lib.hid A2
      clear A1 A2
      by_cases hs : x1 = y1 ∧ x2 = y2
      · obtain ⟨h1, h2⟩ := hs
        have t1 : (x1 != y1) = false := by simp [h1]
        have t2 : (x2 != y2) = false := by simp [h2]
        have SN2 : Hid (sameN ⟨x1, x2, x3, x4, x5, x6, x7, x8, x9⟩ ⟨y1, y2, y3, y4, y5, y6, y7, y8, y9⟩ = true) := Lib.hid (by rw [SN.out]; simp [h1, h2])
        have ST1 := STD.out
        rw [if_pos SN2.out] at ST1
        have STD := Lib.hid ST1
        clear h1 h2 SN ST1
        go_wp2_with fail
        (focus (refine region_all (fun i : Nat => World.drewN _ i) mixed (by kernel_rfl) ⟨1, rfl⟩ ?_; (repeat (any_goals (first | go_big_quiet_step (fail) | quiet_step (fail) | (refine wpQuiet_step (fun K hK => ?_); go_simp; split <;> (refine hK _ ?_; clear hK K))))); (all_goals (refine wpQuiet_nil (fun nq => ?_)))))
        obtain ⟨w4, hw4⟩ : ∃ w4, w4 = wr.drewN nq := ⟨_, rfl⟩
        go_wp2_with fail
        rw [← hw4]
        have A4 : EvAt w4 g (o + i * 9) ⟨x1, x2, x3, x4, x5, x6, x7, x8, x9⟩ := by rw [hw4]; exact ⟨a0, a1, a2, a3, a4, a5, a6, a7, a8⟩
        have D4 : EvAt w4 w.heap.size 0 ⟨y1, y2, y3, y4, y5, y6, y7, y8, y9⟩ := by rw [hw4]; exact ⟨d0, d1, d2, d3, d4, d5, d6, d7, d8⟩
        have B4 : Hid (Below wr.heap.size wr w4) := Lib.hid (by rw [hw4]; (repeat' (first | (with_reducible exact Below.refl _ _) | (with_reducible assumption) | (with_reducible refine Below.drew ?_) | (with_reducible refine below_drewN ?_ _) | (with_reducible refine Below.alloc ?_ ?_ _) | (with_reducible refine Below.setCell ?_ ?_ _) | go_size)))
        clear hw4 a0 a1 a2 a3 a4 a5 a6 a7 a8 d0 d1 d2 d3 d4 d5 d6 d7 d8 HA1 HA2 zb zg
        have zg := szs (cell_lt A4.c0)
        have zb := szs (cell_lt D4.c0)
        (have a0 := (A4).c0; have a1 := (A4).c1; have a2 := (A4).c2; have a3 := (A4).c3; have a4 := (A4).c4; have a5 := (A4).c5; have a6 := (A4).c6; have a7 := (A4).c7; have a8 := (A4).c8); (try dsimp only at a0 a1 a2 a3 a4 a5 a6 a7 a8)
        (have d0 := (D4).c0; have d1 := (D4).c1; have d2 := (D4).c2; have d3 := (D4).c3; have d4 := (D4).c4; have d5 := (D4).c5; have d6 := (D4).c6; have d7 := (D4).c7; have d8 := (D4).c8); (try dsimp only at d0 d1 d2 d3 d4 d5 d6 d7 d8)
        have HA := Lib.hid A4
        have HD := Lib.hid D4
        clear A4 D4
        (refine region_order (fun i : Nat => World.drewN _ i) [] [0, 1, 2, 3, 4] 5 [] mixed (by kernel_rfl) ⟨1, rfl⟩ ?_; simp only [List.map_cons, List.map_nil, Array.getD_eq_getD_getElem?, List.getElem?_toArray, List.getElem?_cons_zero, List.getElem?_cons_succ, Option.getD_some]; (repeat (refine wpPure_cons _ rfl (fun w' => by go_simp; try rfl) ?_; dsimp only [Act.put])); refine wpPure_nil ?_; (repeat (any_goals (first | go_big_quiet_step (fail) | quiet_step (fail) | (refine wpQuiet_step (fun K hK => ?_); go_simp; split <;> (refine hK _ ?_; clear hK K))))); (all_goals (refine wpQuiet_nil (fun nq => ?_))))
        go_wp2_with fail
        refine (C20.out _).mono ?_
        rintro e' w6 ⟨rfl, g6⟩
        have g6 := ((Grew.refl w4).drewN nq).trans g6
        have B6 : Hid (Below wr.heap.size wr w6) := Lib.hid (B4.out.trans (((Below.refl _ w4).trans (g6.1 : Below w4.heap.size w4 w6)).mono B4.out.size))
        have A6 : EvAt w6 g (o + i * 9) ⟨x1, x2, x3, x4, x5, x6, x7, x8, x9⟩ := HA.out.below g6.1
        have BX6 : Hid (Box w6 w.heap.size cur) := Lib.hid (HREL.out.2.2.2.1.below B6.out)
        have RO6 : Hid (EvRow w6 (w.heap.size + 1) u5 k O) := Lib.hid (HREL.out.1.below B6.out)
        have BW6 : Hid (Below w.heap.size w w6) := Lib.hid (HREL.out.2.2.2.2.trans (B6.out.mono HREL.out.2.2.2.2.size))
        clear a0 a1 a2 a3 a4 a5 a6 a7 a8 d0 d1 d2 d3 d4 d5 d6 d7 d8 HA HD g6
        (have a0 := (A6).c0; have a1 := (A6).c1; have a2 := (A6).c2; have a3 := (A6).c3; have a4 := (A6).c4; have a5 := (A6).c5; have a6 := (A6).c6; have a7 := (A6).c7; have a8 := (A6).c8); (try dsimp only at a0 a1 a2 a3 a4 a5 a6 a7 a8)
        have zg := szs (cell_lt A6.c0)
        have zb := szs BX6.out.lt
        have fr := BX6.out.free
        have STL1 := STL.out
        have CURY := HREL.out.2.2.1
        clear A6
        cases r
        · rw [if_neg (by rw [← HRR.out]; simp)] at STL1
          have STL := Lib.hid STL1
          clear STL1 CURY
          go_wp2_with fail
          refine onlyN_intro ?_
          go_wp2_with fail
          go_roundw
          case rel =>
            refine ⟨i + 1, k, O, cur, by go_num, by omega, by omega, Lib.hid ⟨RO6.out, ?_, ?_, BX6.out, BW6.out⟩⟩
            · rw [HREL.out.2.1, HRR0.out]; exact STD.out.symm
            · rw [HY.out.symm, HRR0.out]; exact STL.out.symm
          case measure => simp [intOf]; omega
        · rw [if_pos ⟨SN2.out, HRR.out.symm⟩] at STL1
          have STL := Lib.hid STL1
          clear STL1 CURY
          have D6 := BX6.out.at
          rw [← HY.out] at D6
          (have d0 := (D6).c0; have d1 := (D6).c1; have d2 := (D6).c2; have d3 := (D6).c3; have d4 := (D6).c4; have d5 := (D6).c5; have d6 := (D6).c6; have d7 := (D6).c7; have d8 := (D6).c8); (try dsimp only at d0 d1 d2 d3 d4 d5 d6 d7 d8)
          simp only [Nat.zero_add] at d0 d1 d2 d3 d4 d5 d6 d7 d8
          clear D6 g6
          go_wp2_with fail
          refine onlyN_intro ?_
          go_wp2_with fail
          go_roundw
          case rel =>
            have hput := BX6.out.put ⟨x1, x2, x3, x4, x5, x6, x7, x8, x9⟩
            refine ⟨i + 1, k, O, ⟨x1, x2, x3, x4, x5, x6, x7, x8, x9⟩, by go_num, by omega, by omega, Lib.hid ⟨?_, ?_, ?_, ?_, ?_⟩⟩
            · have hq := RO6.out.after (b := w.heap.size) (by omega) ⟨x1, x2, x3, x4, x5, x6, x7, x8, x9⟩
              exact hq
            · rw [HREL.out.2.1, HRR0.out]; exact STD.out.symm
            · rw [HRR0.out]; exact STL.out.symm
            · exact hput
            · have hq := below_put (b := w.heap.size) BW6.out (Nat.le_refl _) (evs ⟨x1, x2, x3, x4, x5, x6, x7, x8, x9⟩)
              exact hq
          case measure => simp [intOf]; omega
      · have SN2 : Hid (sameN ⟨x1, x2, x3, x4, x5, x6, x7, x8, x9⟩ ⟨y1, y2, y3, y4, y5, y6, y7, y8, y9⟩ = false) := Lib.hid (by rw [SN.out]; rw [← Bool.decide_and]; exact decide_eq_false hs)
        have ST1 := STD.out
        rw [if_neg (by rw [SN2.out]; decide)] at ST1
        have STD := Lib.hid ST1
        have ST2 := STL.out
        rw [if_neg (by rw [SN2.out]; simp)] at ST2
        have STL := Lib.hid ST2
        have ht : (x1 != y1) = true ∨ ((x1 != y1) = false ∧ (x2 != y2) = true) := by
          by_cases h1 : x1 = y1
          · exact .inr ⟨by simp [h1], by simp; exact fun h2 => hs ⟨h1, h2⟩⟩
          · exact .inl (by simp [h1])
        clear hs SN C20 HRR ST1 ST2
        rcases ht with t1 | ⟨t1, t2⟩
        all_goals
          go_wp2_with fail
          (focus (refine region_all (fun i : Nat => World.drewN _ i) mixed (by kernel_rfl) ⟨1, rfl⟩ ?_; (repeat (any_goals (first | go_big_quiet_step (fail) | quiet_step (fail) | (refine wpQuiet_step (fun K hK => ?_); go_simp; split <;> (refine hK _ ?_; clear hK K))))); (all_goals (refine wpQuiet_nil (fun nq => ?_)))))
          obtain ⟨w4, hw4⟩ : ∃ w4, w4 = wr.drewN nq := ⟨_, rfl⟩
          rw [← hw4]
          have A4 : EvAt w4 g (o + i * 9) ⟨x1, x2, x3, x4, x5, x6, x7, x8, x9⟩ := by rw [hw4]; exact ⟨a0, a1, a2, a3, a4, a5, a6, a7, a8⟩
          have B4 : Hid (Below wr.heap.size wr w4) := Lib.hid (by rw [hw4]; (repeat' (first | (with_reducible exact Below.refl _ _) | (with_reducible assumption) | (with_reducible refine Below.drew ?_) | (with_reducible refine below_drewN ?_ _) | (with_reducible refine Below.alloc ?_ ?_ _) | (with_reducible refine Below.setCell ?_ ?_ _) | go_size)))
          have RO4 : Hid (EvRow w4 (w.heap.size + 1) u5 k O) := Lib.hid (HREL.out.1.below B4.out)
          have BX4 : Hid (Box w4 w.heap.size cur) := Lib.hid (HREL.out.2.2.2.1.below B4.out)
          have BW4 : Hid (Below w.heap.size w w4) := Lib.hid (HREL.out.2.2.2.2.trans (B4.out.mono HREL.out.2.2.2.2.size))
          clear hw4 a0 a1 a2 a3 a4 a5 a6 a7 a8 d0 d1 d2 d3 d4 d5 d6 d7 d8 HA1 HA2 zb zg
          have zg := szs (cell_lt A4.c0)
          have hz4 : w.heap.size + 1 ≤ w4.heap.size := BX4.out.lt
          (have a0 := (A4).c0; have a1 := (A4).c1; have a2 := (A4).c2; have a3 := (A4).c3; have a4 := (A4).c4; have a5 := (A4).c5; have a6 := (A4).c6; have a7 := (A4).c7; have a8 := (A4).c8); (try dsimp only at a0 a1 a2 a3 a4 a5 a6 a7 a8)
          clear A4
          have BA : Hid (Below w4.heap.size w4 (w4.alloc (.cells #[.int .i64 x1, .int .i64 x2, .int .i64 x3, .int .i64 x4, .int .i64 x5, .int .i64 x6, .int .i64 x7, .int .i64 x8, .int .i64 x9] 26))) := Lib.hid (by (repeat' (first | (with_reducible exact Below.refl _ _) | (with_reducible assumption) | (with_reducible refine Below.drew ?_) | (with_reducible refine below_drewN ?_ _) | (with_reducible refine Below.alloc ?_ ?_ _) | (with_reducible refine Below.setCell ?_ ?_ _) | go_size)))
          go_wp2_with (at_builtin; refine wpList_append_row _ rfl _ _ 34 rfl (w.heap.size + 1) 26 i0 _ 9 72 Try.underlying34 hi0 hz0 hz1 hz2 rfl (by decide) _ k (fun i => evs (O i)) rfl (RO4.out.below BA.out) (fun i => evs_len _) w4.heap.size 1 (evs ⟨x1, x2, x3, x4, x5, x6, x7, x8, x9⟩) rfl rfl 26 (0, 0) (heap_alloc_new w4 _) (evs_one _) (by omega) (by unfold maxLen; omega) (by simp; omega) ?_)
          intro g' cap' w5 hcap hcap2 hg' hlt' hown hrow hgrown
          have R5 : Hid (EvRow w5 (w.heap.size + 1) (.slice (some ⟨g', 0, none⟩) (k + 1) cap') (k + 1) (upd O k ⟨x1, x2, x3, x4, x5, x6, x7, x8, x9⟩)) := Lib.hid (Row.congr hrow fun j hj => by
            by_cases h : j = k
            · subst h; rw [upd_same, upd_same]
            · rw [upd_ne h, upd_ne h])
          have OG := (Off.of_below (X := fun k => some k = u5.ownBlock) BA.out).trans (Off.of_grown hgrown) (fun _ _ h => h)
          have BX5 : Hid (Box w5 w.heap.size cur) := Lib.hid (BX4.out.off OG (RO4.out.apart (by omega)))
          have BW5 : Hid (Below w.heap.size w w5) := Lib.hid (BW4.out.trans (OG.toBelow (by omega) (fun k hk h => RO4.out.apart (show k < w.heap.size + 1 by omega) h)))
          clear hrow hgrown OG hown
          go_wp2_with fail
          go_roundw
          case rel =>
            refine ⟨i + 1, k + 1, upd O k ⟨x1, x2, x3, x4, x5, x6, x7, x8, x9⟩, cur, by go_num, by omega, by omega, Lib.hid ⟨R5.out, ?_, ?_, BX5.out, BW5.out⟩⟩
            · rw [ents_push, HREL.out.2.1, HRR0.out]; exact STD.out.symm
            · rw [HY.out.symm, HRR0.out]; exact STL.out.symm
          case measure => simp [intOf]; omega
    · obtain rfl : i = m := by omega
      obtain ⟨⟨y1, y2, y3, y4, y5, y6, y7, y8, y9⟩, hy⟩ : ∃ y, y = cur := ⟨_, rfl⟩
      have CURE := Lib.hid hy
      clear hy
      rcases Row.shape HREL.out.1 with ⟨rfl, rfl⟩ | ⟨g, cap, rfl, hg, hlg, hkc, hcm⟩
      · obtain ⟨wo, rfl⟩ : ∃ wo : World, wo = wr := ⟨_, rfl⟩
        go_wp2_with fail
        go_loopw [7] (fun s7 wz => s7 = .int .i64 0 ∧ Hid (Below wo.heap.size wo wz)) (fun s7 _ => 0)
        case atStart => exact ⟨rfl, Lib.hid (by (repeat' (first | (with_reducible exact Below.refl _ _) | (with_reducible assumption) | (with_reducible refine Below.drew ?_) | (with_reducible refine below_drewN ?_ _) | (with_reducible refine Below.alloc ?_ ?_ _) | (with_reducible refine Below.setCell ?_ ?_ _) | go_size)))⟩
        case round =>
          obtain ⟨rfl, hrel⟩ := hrel
          obtain ⟨wz, rfl⟩ : ∃ wz : World, wz = wr := ⟨_, rfl⟩
          have HLT : Hid (∀ q x, q < 0 → (ents O 0)[q]? = some x → ltE x cur = true) := Lib.hid (fun q x hq hx => absurd hq (Nat.not_lt_zero q))
          have HGE : Hid (∀ x, (ents O 0)[0]? = some x → ltE x cur = false) := Lib.hid (fun x hx => by
            rw [List.getElem?_eq_none (by rw [ents_len]; exact Nat.le_refl _)] at hx
            cases hx)
          have HB0 := hrel
          clear hrel
          go_wp2_with fail
          (focus (refine region_all (fun i : Nat => World.drewN _ i) mixed (by kernel_rfl) ⟨1, rfl⟩ ?_; (repeat (any_goals (first | go_big_quiet_step (fail) | quiet_step (fail) | (refine wpQuiet_step (fun K hK => ?_); go_simp; split <;> (refine hK _ ?_; clear hK K))))); (all_goals (refine wpQuiet_nil (fun nq => ?_)))))
          obtain ⟨w6, hw6⟩ : ∃ w6, w6 = wz.drewN nq := ⟨_, rfl⟩
          rw [← hw6]
          have HBZ : Hid (Below wo.heap.size wo w6) := Lib.hid (by rw [hw6]; exact below_drewN HB0.out _)
          clear hw6 HB0
          obtain ⟨wz, rfl⟩ : ∃ wz : World, wz = w6 := ⟨_, rfl⟩
          -- the world is wz, the place is 0: the first 0, the event, the rest
          have hwj : Hid (withE (ents R i) e = (ents O 0).take 0 ++ cur :: (ents O 0).drop 0) := Lib.hid (by
            unfold withE
            rw [← HREL.out.2.1, ← HREL.out.2.2.1]
            exact insE_split (by rw [ents_len]; omega) HLT.out HGE.out)
          have S1 : Hid (SlE wz 9 none 0 (fun i => evs (O i))) := Lib.hid (fun i hi => absurd hi (Nat.not_lt_zero i))
          have S2 : Hid (SlE wz 9 none 0 (fun i => evs (O (0 + i)))) := Lib.hid (fun i hi => absurd hi (Nat.not_lt_zero i))
          have BXz : Hid (Box wz w.heap.size cur) := Lib.hid (HREL.out.2.2.2.1.below HBZ.out)
          have BWz : Hid (Below w.heap.size w wz) := Lib.hid (HREL.out.2.2.2.2.trans (HBZ.out.mono HREL.out.2.2.2.2.size))
          have hzz : w.heap.size + 1 ≤ wz.heap.size := BXz.out.lt
          have hnk : 0 + 0 = 0 := by omega
          obtain ⟨wy, hwy⟩ : ∃ wy, wy = wz.alloc (.cells #[] 26) := ⟨_, rfl⟩
          have HWY := Lib.hid hwy
          have RY : Hid (Row wy wz.heap.size 26 9 (.slice (some ⟨wz.heap.size, 0, none⟩) 0 0) 0 (fun i => evs (O i))) := Lib.hid (by rw [hwy]; exact World.ownsRow_made wz #[] 0 (Nat.le_refl _) (Nat.zero_le _) (by simp))
          have BY : Hid (Below wz.heap.size wz wy) := Lib.hid (by rw [hwy]; (repeat' (first | (with_reducible exact Below.refl _ _) | (with_reducible assumption) | (with_reducible refine Below.drew ?_) | (with_reducible refine below_drewN ?_ _) | (with_reducible refine Below.alloc ?_ ?_ _) | (with_reducible refine Below.setCell ?_ ?_ _) | go_size)))
          have hzy : wz.heap.size ≤ wy.heap.size := BY.out.size
          clear hwy
          go_wp2_with (at_builtin; rw [← HWY.out]; go_loud (refine wpList_append_sl wy rfl (.tmp 64) (.tmp 67) 34 rfl wz.heap.size 26 i0 _ 9 72 Try.underlying34 hi0 hz0 hz1 hz2 rfl (by decide) _ 0 (fun i => evs (O i)) rfl RY.out (fun i => evs_len _) none 0 0 (fun i => evs (O i)) rfl (fun i => evs_len _) (by first | (intro h; cases h; done) | (intro h; exact ⟨by omega, by omega⟩)) (S1.out.below (fun i => evs_len _) BY.out) (fun i => evs_one _) (by omega) (by unfold maxLen; omega) hzy ?_))
          intro v1 w1 r1 g1 f1
          have R1 : Hid (Row w1 wz.heap.size 26 9 v1 0 (fun i => evs (O i))) := Lib.hid (by
            exact Row.congr r1 fun i hi => by simp [cat])
          have B1 : Hid (Below wz.heap.size wz w1) := Lib.hid (BY.out.trans ((Off.of_grown g1).toBelow hzy (fun q hq h => RY.out.apart hq h)))
          have hz1' : wz.heap.size ≤ w1.heap.size := B1.out.size
          have BX1 : Hid (Box w1 w.heap.size cur) := Lib.hid (BXz.out.below B1.out)
          have D1 := BX1.out.at
          clear r1 g1 f1 RY BY
          have zb := szs BX1.out.lt
          rw [← CURE.out] at D1
          (have d0 := (D1).c0; have d1 := (D1).c1; have d2 := (D1).c2; have d3 := (D1).c3; have d4 := (D1).c4; have d5 := (D1).c5; have d6 := (D1).c6; have d7 := (D1).c7; have d8 := (D1).c8); (try dsimp only at d0 d1 d2 d3 d4 d5 d6 d7 d8)
          simp only [Nat.zero_add] at d0 d1 d2 d3 d4 d5 d6 d7 d8
          clear D1
          go_wp2_with fail
          (refine region_order (fun i : Nat => World.drewN _ i) [0, 4, 5, 6] [1] 2 [3, 7, 8] mixed (by kernel_rfl) ⟨1, rfl⟩ ?_; simp only [List.map_cons, List.map_nil, Array.getD_eq_getD_getElem?, List.getElem?_toArray, List.getElem?_cons_zero, List.getElem?_cons_succ, Option.getD_some]; (repeat (refine wpPure_cons _ rfl (fun w' => by go_simp; try rfl) ?_; dsimp only [Act.put])); refine wpPure_nil ?_; (repeat (any_goals (first | go_big_quiet_step (fail) | quiet_step (fail) | (refine wpQuiet_step (fun K hK => ?_); go_simp; split <;> (refine hK _ ?_; clear hK K))))); (all_goals (refine wpQuiet_nil (fun nq => ?_))))
          obtain ⟨w2, hw2⟩ : ∃ w2, w2 = w1.drewN nq := ⟨_, rfl⟩
          obtain ⟨w3, hw3⟩ : ∃ w3, w3 = w2.alloc (.cells #[.int .i64 y1, .int .i64 y2, .int .i64 y3, .int .i64 y4, .int .i64 y5, .int .i64 y6, .int .i64 y7, .int .i64 y8, .int .i64 y9] 26) := ⟨_, rfl⟩
          have B3 : Hid (Below w1.heap.size w1 w3) := Lib.hid (by rw [hw3, hw2]; (repeat' (first | (with_reducible exact Below.refl _ _) | (with_reducible assumption) | (with_reducible refine Below.drew ?_) | (with_reducible refine below_drewN ?_ _) | (with_reducible refine Below.alloc ?_ ?_ _) | (with_reducible refine Below.setCell ?_ ?_ _) | go_size)))
          have R3 : Hid (Row w3 wz.heap.size 26 9 v1 0 (fun i => evs (O i))) := Lib.hid (Row.off (X := fun _ => False) R1.out (Off.of_below B3.out) (fun _ _ h => h))
          have X3 : Hid (w3.heap[w2.heap.size]? = some (.cells (evs ⟨y1, y2, y3, y4, y5, y6, y7, y8, y9⟩).toArray 26 (0, 0))) := Lib.hid (by rw [hw3]; exact heap_alloc_new w2 _)
          have S23 : Hid (SlE w3 9 none 0 (fun i => evs (O (0 + i)))) := Lib.hid ((S2.out.below (fun i => evs_len _) B1.out).below (fun i => evs_len _) B3.out)
          have hz3 : wz.heap.size ≤ w3.heap.size := by have := B3.out.size; omega
          have HW3 := Lib.hid hw3
          rw [← hw2]
          clear hw2 hw3 d0 d1 d2 d3 d4 d5 d6 d7 d8
          go_wp2_with (at_builtin; rw [← HW3.out]; go_loud (refine wpList_append_row w3 rfl (.tmp 69) (.tmp 71) 34 rfl wz.heap.size 26 i0 _ 9 72 Try.underlying34 hi0 hz0 hz1 hz2 rfl (by decide) v1 0 (fun i => evs (O i)) rfl R3.out (fun i => evs_len _) w2.heap.size 1 (evs ⟨y1, y2, y3, y4, y5, y6, y7, y8, y9⟩) rfl rfl 26 (0, 0) X3.out (evs_one _) (by omega) (by unfold maxLen; omega) hz3 ?_))
          intro g4 c4 w4 hc4 hc4' hg4 hl4 ho4 r4 gr4
          have O4 : Hid (Below wz.heap.size w3 w4) := Lib.hid ((Off.of_grown gr4).toBelow hz3 (fun q hq h => R3.out.apart hq h))
          have R4 := Lib.hid r4
          have S24 : Hid (SlE w4 9 none 0 (fun i => evs (O (0 + i)))) := Lib.hid (SlE.below (fun i => evs_len _) S2.out (B1.out.trans ((B3.out.mono hz1').trans O4.out)))
          have hz4 : wz.heap.size ≤ w4.heap.size := by have := O4.out.size; omega
          clear r4 gr4 ho4
          go_wp2_with (at_builtin; go_loud (refine wpList_append_sl w4 rfl (.tmp 72) (.tmp 75) 34 rfl wz.heap.size 26 i0 _ 9 72 Try.underlying34 hi0 hz0 hz1 hz2 rfl (by decide) (.slice (some ⟨g4, 0, none⟩) (0 + 1) c4) (0 + 1) _ rfl R4.out (upd_len (fun i => evs_len _) (evs_len _)) none 0 0 (fun i => evs (O (0 + i))) rfl (fun i => evs_len _) (by first | (intro h; cases h; done) | (intro h; exact ⟨by omega, by omega⟩)) S24.out (fun i => evs_one _) (by omega) (by unfold maxLen; omega) hz4 ?_))
          intro v5 w5 r5 g5 f5
          have O5 : Hid (Below wz.heap.size w4 w5) := Lib.hid ((Off.of_grown g5).toBelow hz4 (fun q hq h => R4.out.apart hq h))
          have R5 := Lib.hid r5
          clear r5 g5 f5
          go_wp2_with fail
          refine onlyN_intro ?_
          go_wp2_with fail
          go_returns
          refine ⟨v5, 0 + 1 + 0, fun i => if i < 0 then O i else if i = 0 then cur else O (i - 1), rfl, ?_, ?_, ?_⟩
          · rw [hwj.out, show 0 + 1 + 0 = 0 + 1 by omega]
            exact ents_ins O 0 0 (by omega) cur
          · refine Row.base_mono (Row.congr R5.out fun q hq => ?_) (Nat.le_trans (Nat.le_succ _) hzz)
            unfold cat
            rw [← CURE.out]
            dsimp only
            by_cases h1 : q < 0
            · rw [if_pos (by omega), upd_ne (by omega), if_pos h1]
            · by_cases h2 : q = 0
              · subst h2
                rw [if_pos (by omega), upd_same, if_neg (by omega), if_pos rfl]
              · rw [if_neg (by omega), if_neg h1, if_neg h2]
                try rw [show 0 + (q - (0 + 1)) = q - 1 by omega]
          · exact BWz.out.trans ((B1.out.trans (((B3.out.mono hz1').trans O4.out).trans O5.out)).mono (by omega))
      · have hcm : cap ≤ 9223372036854775807 := by unfold maxLen at hcm; omega
        obtain ⟨wo, rfl⟩ : ∃ wo : World, wo = wr := ⟨_, rfl⟩
        have SO : Hid (SlE wo 9 (some ⟨g, 0, none⟩) k (fun i => evs (O i))) := Lib.hid (by
          obtain ⟨ao', cap', e1, _, _, h1, _⟩ := Row.sl HREL.out.1 (fun i => evs_len _)
          cases e1; exact h1)
        have HK : k ≤ 1000000 := by omega
        go_wp2_with fail
        go_loopw [7] (fun s7 wz => ∃ j : Nat, s7 = .int .i64 j ∧ j ≤ k ∧ Hid ((∀ q, q < j → ltE (O q) cur = true) ∧ Below wo.heap.size wo wz)) (fun s7 _ => k - (intOf s7).toNat)
        case atStart => exact ⟨0, rfl, by omega, Lib.hid ⟨fun q hq => by omega, by (repeat' (first | (with_reducible exact Below.refl _ _) | (with_reducible assumption) | (with_reducible refine Below.drew ?_) | (with_reducible refine below_drewN ?_ _) | (with_reducible refine Below.alloc ?_ ?_ _) | (with_reducible refine Below.setCell ?_ ?_ _) | go_size))⟩⟩
        case round =>
          obtain ⟨j, rfl, hj, hrel⟩ := hrel
          obtain ⟨wz, rfl⟩ : ∃ wz : World, wz = wr := ⟨_, rfl⟩
          have BX := HREL.out.2.2.2.1.below hrel.out.2
          have D1 := BX.at
          have zb := szs BX.lt
          rw [← CURE.out] at D1
          (have d0 := (D1).c0; have d1 := (D1).c1; have d2 := (D1).c2; have d3 := (D1).c3; have d4 := (D1).c4; have d5 := (D1).c5; have d6 := (D1).c6; have d7 := (D1).c7; have d8 := (D1).c8); (try dsimp only at d0 d1 d2 d3 d4 d5 d6 d7 d8)
          simp only [Nat.zero_add] at d0 d1 d2 d3 d4 d5 d6 d7 d8
          clear D1 BX
          by_cases hlt2 : j < k
          · have tj : decide ((j : Int) < (k : Int)) = true := decide_eq_true (by omega)
            have tj2 : (j : Int) < (k : Int) := by omega
            have A1 := (HREL.out.1.below hrel.out.2).at hlt2
            have C20 := fun w' => less20 (O j) cur w'
            obtain ⟨r, hr⟩ : ∃ r, r = ltE (O j) cur := ⟨_, rfl⟩
            have HRR := Lib.hid hr
            rw [← hr] at C20
            rw [← CURE.out] at C20
            clear hr
            obtain ⟨x, hx⟩ : ∃ x, x = O j := ⟨_, rfl⟩
            rw [← hx] at A1 C20
            clear hx
            unfold eC at C20
            obtain ⟨x1, x2, x3, x4, x5, x6, x7, x8, x9⟩ := x
            (have a0 := (A1).c0; have a1 := (A1).c1; have a2 := (A1).c2; have a3 := (A1).c3; have a4 := (A1).c4; have a5 := (A1).c5; have a6 := (A1).c6; have a7 := (A1).c7; have a8 := (A1).c8); (try dsimp only at a0 a1 a2 a3 a4 a5 a6 a7 a8)
            have zg := szs (cell_lt A1.c0)
            dsimp only at C20
            replace C20 := Lib.hid C20
            clear A1
            go_wp2_with fail
            (refine region_order (fun i : Nat => World.drewN _ i) [] [0, 1, 2, 3, 4, 5, 6, 7, 8, 9] 10 [11] mixed (by kernel_rfl) ⟨1, rfl⟩ ?_; simp only [List.map_cons, List.map_nil, Array.getD_eq_getD_getElem?, List.getElem?_toArray, List.getElem?_cons_zero, List.getElem?_cons_succ, Option.getD_some]; (repeat (refine wpPure_cons _ rfl (fun w' => by go_simp; try rfl) ?_; dsimp only [Act.put])); refine wpPure_nil ?_; (repeat (any_goals (first | go_big_quiet_step (fail) | quiet_step (fail) | (refine wpQuiet_step (fun K hK => ?_); go_simp; split <;> (refine hK _ ?_; clear hK K))))); (all_goals (refine wpQuiet_nil (fun nq => ?_))))
            go_wp2_with fail
            refine (C20.out _).mono ?_
            rintro e' w6 ⟨rfl, g6⟩
            have g6 := ((Grew.refl wz).drewN nq).trans g6
            have HB6 : Hid (Below wo.heap.size wo w6) := Lib.hid (hrel.out.2.trans (g6.1.mono hrel.out.2.size))
            have HL6 := Lib.hid hrel.out.1
            clear hrel a0 a1 a2 a3 a4 a5 a6 a7 a8 d0 d1 d2 d3 d4 d5 d6 d7 d8 g6 C20 zg zb
            cases r
            · have HLT : Hid (∀ q x, q < j → (ents O k)[q]? = some x → ltE x cur = true) := Lib.hid (fun q x hq hx => by
                rw [ents_get (by omega)] at hx
                cases hx; exact HL6.out q hq)
              have HGE : Hid (∀ x, (ents O k)[j]? = some x → ltE x cur = false) := Lib.hid (fun x hx => by
                rw [ents_get hlt2] at hx
                cases hx; exact HRR.out.symm)
              go_wp2_with fail
              refine onlyN_intro ?_
              have HBZ := HB6
              obtain ⟨wz, rfl⟩ : ∃ wz : World, wz = w6 := ⟨_, rfl⟩
              have hjc : j < cap := by omega
              -- the world is wz, the place is j: the first j, the event, the rest
              have hwj : Hid (withE (ents R i) e = (ents O k).take j ++ cur :: (ents O k).drop j) := Lib.hid (by
                unfold withE
                rw [← HREL.out.2.1, ← HREL.out.2.2.1]
                exact insE_split (by rw [ents_len]; omega) HLT.out HGE.out)
              have S1 : Hid (SlE wz 9 (some ⟨g, 0, none⟩) j (fun i => evs (O i))) := Lib.hid (SlE.cut (SO.out.below (fun i => evs_len _) HBZ.out) hj)
              have S2 : Hid (SlE wz 9 (some ⟨g, j * 9, none⟩) (k - j) (fun i => evs (O (j + i)))) := Lib.hid (by have := SlE.drop (SO.out.below (fun i => evs_len _) HBZ.out) j; rwa [Nat.zero_add] at this)
              have BXz : Hid (Box wz w.heap.size cur) := Lib.hid (HREL.out.2.2.2.1.below HBZ.out)
              have BWz : Hid (Below w.heap.size w wz) := Lib.hid (HREL.out.2.2.2.2.trans (HBZ.out.mono HREL.out.2.2.2.2.size))
              have hzz : w.heap.size + 1 ≤ wz.heap.size := BXz.out.lt
              have hnk : j + (k - j) = k := by omega
              obtain ⟨wy, hwy⟩ : ∃ wy, wy = wz.alloc (.cells #[] 26) := ⟨_, rfl⟩
              have HWY := Lib.hid hwy
              have RY : Hid (Row wy wz.heap.size 26 9 (.slice (some ⟨wz.heap.size, 0, none⟩) 0 0) 0 (fun i => evs (O i))) := Lib.hid (by rw [hwy]; exact World.ownsRow_made wz #[] 0 (Nat.le_refl _) (Nat.zero_le _) (by simp))
              have BY : Hid (Below wz.heap.size wz wy) := Lib.hid (by rw [hwy]; (repeat' (first | (with_reducible exact Below.refl _ _) | (with_reducible assumption) | (with_reducible refine Below.drew ?_) | (with_reducible refine below_drewN ?_ _) | (with_reducible refine Below.alloc ?_ ?_ _) | (with_reducible refine Below.setCell ?_ ?_ _) | go_size)))
              have hzy : wz.heap.size ≤ wy.heap.size := BY.out.size
              clear hwy
              go_wp2_with (at_builtin; rw [← HWY.out]; go_loud (refine wpList_append_sl wy rfl (.tmp 64) (.tmp 67) 34 rfl wz.heap.size 26 i0 _ 9 72 Try.underlying34 hi0 hz0 hz1 hz2 rfl (by decide) _ 0 (fun i => evs (O i)) rfl RY.out (fun i => evs_len _) (some ⟨g, 0, none⟩) j cap (fun i => evs (O i)) rfl (fun i => evs_len _) (by first | (intro h; cases h; done) | (intro h; exact ⟨by omega, by omega⟩)) (S1.out.below (fun i => evs_len _) BY.out) (fun i => evs_one _) (by omega) (by unfold maxLen; omega) hzy ?_))
              intro v1 w1 r1 g1 f1
              have R1 : Hid (Row w1 wz.heap.size 26 9 v1 j (fun i => evs (O i))) := Lib.hid (by
                exact Row.congr r1 fun i hi => by simp [cat])
              have B1 : Hid (Below wz.heap.size wz w1) := Lib.hid (BY.out.trans ((Off.of_grown g1).toBelow hzy (fun q hq h => RY.out.apart hq h)))
              have hz1' : wz.heap.size ≤ w1.heap.size := B1.out.size
              have BX1 : Hid (Box w1 w.heap.size cur) := Lib.hid (BXz.out.below B1.out)
              have D1 := BX1.out.at
              clear r1 g1 f1 RY BY
              have zb := szs BX1.out.lt
              rw [← CURE.out] at D1
              (have d0 := (D1).c0; have d1 := (D1).c1; have d2 := (D1).c2; have d3 := (D1).c3; have d4 := (D1).c4; have d5 := (D1).c5; have d6 := (D1).c6; have d7 := (D1).c7; have d8 := (D1).c8); (try dsimp only at d0 d1 d2 d3 d4 d5 d6 d7 d8)
              simp only [Nat.zero_add] at d0 d1 d2 d3 d4 d5 d6 d7 d8
              clear D1
              go_wp2_with fail
              (refine region_order (fun i : Nat => World.drewN _ i) [0, 4, 5, 6] [1] 2 [3, 7, 8] mixed (by kernel_rfl) ⟨1, rfl⟩ ?_; simp only [List.map_cons, List.map_nil, Array.getD_eq_getD_getElem?, List.getElem?_toArray, List.getElem?_cons_zero, List.getElem?_cons_succ, Option.getD_some]; (repeat (refine wpPure_cons _ rfl (fun w' => by go_simp; try rfl) ?_; dsimp only [Act.put])); refine wpPure_nil ?_; (repeat (any_goals (first | go_big_quiet_step (fail) | quiet_step (fail) | (refine wpQuiet_step (fun K hK => ?_); go_simp; split <;> (refine hK _ ?_; clear hK K))))); (all_goals (refine wpQuiet_nil (fun nq => ?_))))
              obtain ⟨w2, hw2⟩ : ∃ w2, w2 = w1.drewN nq := ⟨_, rfl⟩
              obtain ⟨w3, hw3⟩ : ∃ w3, w3 = w2.alloc (.cells #[.int .i64 y1, .int .i64 y2, .int .i64 y3, .int .i64 y4, .int .i64 y5, .int .i64 y6, .int .i64 y7, .int .i64 y8, .int .i64 y9] 26) := ⟨_, rfl⟩
              have B3 : Hid (Below w1.heap.size w1 w3) := Lib.hid (by rw [hw3, hw2]; (repeat' (first | (with_reducible exact Below.refl _ _) | (with_reducible assumption) | (with_reducible refine Below.drew ?_) | (with_reducible refine below_drewN ?_ _) | (with_reducible refine Below.alloc ?_ ?_ _) | (with_reducible refine Below.setCell ?_ ?_ _) | go_size)))
              have R3 : Hid (Row w3 wz.heap.size 26 9 v1 j (fun i => evs (O i))) := Lib.hid (Row.off (X := fun _ => False) R1.out (Off.of_below B3.out) (fun _ _ h => h))
              have X3 : Hid (w3.heap[w2.heap.size]? = some (.cells (evs ⟨y1, y2, y3, y4, y5, y6, y7, y8, y9⟩).toArray 26 (0, 0))) := Lib.hid (by rw [hw3]; exact heap_alloc_new w2 _)
              have S23 : Hid (SlE w3 9 (some ⟨g, j * 9, none⟩) (k - j) (fun i => evs (O (j + i)))) := Lib.hid ((S2.out.below (fun i => evs_len _) B1.out).below (fun i => evs_len _) B3.out)
              have hz3 : wz.heap.size ≤ w3.heap.size := by have := B3.out.size; omega
              have HW3 := Lib.hid hw3
              rw [← hw2]
              clear hw2 hw3 d0 d1 d2 d3 d4 d5 d6 d7 d8
              go_wp2_with (at_builtin; rw [← HW3.out]; go_loud (refine wpList_append_row w3 rfl (.tmp 69) (.tmp 71) 34 rfl wz.heap.size 26 i0 _ 9 72 Try.underlying34 hi0 hz0 hz1 hz2 rfl (by decide) v1 j (fun i => evs (O i)) rfl R3.out (fun i => evs_len _) w2.heap.size 1 (evs ⟨y1, y2, y3, y4, y5, y6, y7, y8, y9⟩) rfl rfl 26 (0, 0) X3.out (evs_one _) (by omega) (by unfold maxLen; omega) hz3 ?_))
              intro g4 c4 w4 hc4 hc4' hg4 hl4 ho4 r4 gr4
              have O4 : Hid (Below wz.heap.size w3 w4) := Lib.hid ((Off.of_grown gr4).toBelow hz3 (fun q hq h => R3.out.apart hq h))
              have R4 := Lib.hid r4
              have S24 : Hid (SlE w4 9 (some ⟨g, j * 9, none⟩) (k - j) (fun i => evs (O (j + i)))) := Lib.hid (SlE.below (fun i => evs_len _) S2.out (B1.out.trans ((B3.out.mono hz1').trans O4.out)))
              have hz4 : wz.heap.size ≤ w4.heap.size := by have := O4.out.size; omega
              clear r4 gr4 ho4
              go_wp2_with (at_builtin; go_loud (refine wpList_append_sl w4 rfl (.tmp 72) (.tmp 75) 34 rfl wz.heap.size 26 i0 _ 9 72 Try.underlying34 hi0 hz0 hz1 hz2 rfl (by decide) (.slice (some ⟨g4, 0, none⟩) (j + 1) c4) (j + 1) _ rfl R4.out (upd_len (fun i => evs_len _) (evs_len _)) (some ⟨g, j * 9, none⟩) (k - j) (cap - j) (fun i => evs (O (j + i))) rfl (fun i => evs_len _) (by first | (intro h; cases h; done) | (intro h; exact ⟨by omega, by omega⟩)) S24.out (fun i => evs_one _) (by omega) (by unfold maxLen; omega) hz4 ?_))
              intro v5 w5 r5 g5 f5
              have O5 : Hid (Below wz.heap.size w4 w5) := Lib.hid ((Off.of_grown g5).toBelow hz4 (fun q hq h => R4.out.apart hq h))
              have R5 := Lib.hid r5
              clear r5 g5 f5
              go_wp2_with fail
              refine onlyN_intro ?_
              go_wp2_with fail
              go_returns
              refine ⟨v5, j + 1 + (k - j), fun i => if i < j then O i else if i = j then cur else O (i - 1), rfl, ?_, ?_, ?_⟩
              · rw [hwj.out, show j + 1 + (k - j) = k + 1 by omega]
                exact ents_ins O k j (by omega) cur
              · refine Row.base_mono (Row.congr R5.out fun q hq => ?_) (Nat.le_trans (Nat.le_succ _) hzz)
                unfold cat
                rw [← CURE.out]
                dsimp only
                by_cases h1 : q < j
                · rw [if_pos (by omega), upd_ne (by omega), if_pos h1]
                · by_cases h2 : q = j
                  · subst h2
                    rw [if_pos (by omega), upd_same, if_neg (by omega), if_pos rfl]
                  · rw [if_neg (by omega), if_neg h1, if_neg h2, show j + (q - (j + 1)) = q - 1 by omega]
              · exact BWz.out.trans ((B1.out.trans (((B3.out.mono hz1').trans O4.out).trans O5.out)).mono (by omega))
            · have HL7 : Hid (∀ q, q < j + 1 → ltE (O q) cur = true) := Lib.hid (fun q hq => by
                by_cases h : q = j
                · subst h; exact HRR.out.symm
                · exact HL6.out q (by omega))
              go_wp2_with fail
              refine onlyN_intro ?_
              go_wp2_with fail
              go_roundw
              case rel => exact ⟨j + 1, by go_num, by omega, Lib.hid ⟨HL7.out, HB6.out⟩⟩
              case measure => simp [intOf]; omega
          · obtain rfl : j = k := by omega
            have tj : decide ((j : Int) < (j : Int)) = false := decide_eq_false (by omega)
            have HLT : Hid (∀ q x, q < j → (ents O j)[q]? = some x → ltE x cur = true) := Lib.hid (fun q x hq hx => by
              rw [ents_get (by omega)] at hx
              cases hx; exact hrel.out.1 q hq)
            have HGE : Hid (∀ x, (ents O j)[j]? = some x → ltE x cur = false) := Lib.hid (fun x hx => by
              rw [List.getElem?_eq_none (by rw [ents_len]; exact Nat.le_refl _)] at hx
              cases hx)
            have HB0 := Lib.hid hrel.out.2
            clear hrel
            go_wp2_with fail
            (focus (refine region_all (fun i : Nat => World.drewN _ i) mixed (by kernel_rfl) ⟨1, rfl⟩ ?_; (repeat (any_goals (first | go_big_quiet_step (fail) | quiet_step (fail) | (refine wpQuiet_step (fun K hK => ?_); go_simp; split <;> (refine hK _ ?_; clear hK K))))); (all_goals (refine wpQuiet_nil (fun nq => ?_)))))
            obtain ⟨w6, hw6⟩ : ∃ w6, w6 = wz.drewN nq := ⟨_, rfl⟩
            rw [← hw6]
            have HBZ : Hid (Below wo.heap.size wo w6) := Lib.hid (by rw [hw6]; exact below_drewN HB0.out _)
            clear hw6 d0 d1 d2 d3 d4 d5 d6 d7 d8 HB0 zb
            obtain ⟨wz, rfl⟩ : ∃ wz : World, wz = w6 := ⟨_, rfl⟩
            by_cases hjc : j = cap
            · subst hjc
              -- the world is wz, the place is j: the first j, the event, the rest
              have hwj : Hid (withE (ents R i) e = (ents O j).take j ++ cur :: (ents O j).drop j) := Lib.hid (by
                unfold withE
                rw [← HREL.out.2.1, ← HREL.out.2.2.1]
                exact insE_split (by rw [ents_len]; omega) HLT.out HGE.out)
              have S1 : Hid (SlE wz 9 (some ⟨g, 0, none⟩) j (fun i => evs (O i))) := Lib.hid (SlE.cut (SO.out.below (fun i => evs_len _) HBZ.out) hj)
              have S2 : Hid (SlE wz 9 (some ⟨g, 0, none⟩) 0 (fun i => evs (O (j + i)))) := Lib.hid (fun i hi => absurd hi (Nat.not_lt_zero i))
              have BXz : Hid (Box wz w.heap.size cur) := Lib.hid (HREL.out.2.2.2.1.below HBZ.out)
              have BWz : Hid (Below w.heap.size w wz) := Lib.hid (HREL.out.2.2.2.2.trans (HBZ.out.mono HREL.out.2.2.2.2.size))
              have hzz : w.heap.size + 1 ≤ wz.heap.size := BXz.out.lt
              have hnk : j + 0 = j := by omega
              obtain ⟨wy, hwy⟩ : ∃ wy, wy = wz.alloc (.cells #[] 26) := ⟨_, rfl⟩
              have HWY := Lib.hid hwy
              have RY : Hid (Row wy wz.heap.size 26 9 (.slice (some ⟨wz.heap.size, 0, none⟩) 0 0) 0 (fun i => evs (O i))) := Lib.hid (by rw [hwy]; exact World.ownsRow_made wz #[] 0 (Nat.le_refl _) (Nat.zero_le _) (by simp))
              have BY : Hid (Below wz.heap.size wz wy) := Lib.hid (by rw [hwy]; (repeat' (first | (with_reducible exact Below.refl _ _) | (with_reducible assumption) | (with_reducible refine Below.drew ?_) | (with_reducible refine below_drewN ?_ _) | (with_reducible refine Below.alloc ?_ ?_ _) | (with_reducible refine Below.setCell ?_ ?_ _) | go_size)))
              have hzy : wz.heap.size ≤ wy.heap.size := BY.out.size
              clear hwy
              go_wp2_with (at_builtin; rw [← HWY.out]; go_loud (refine wpList_append_sl wy rfl (.tmp 64) (.tmp 67) 34 rfl wz.heap.size 26 i0 _ 9 72 Try.underlying34 hi0 hz0 hz1 hz2 rfl (by decide) _ 0 (fun i => evs (O i)) rfl RY.out (fun i => evs_len _) (some ⟨g, 0, none⟩) j j (fun i => evs (O i)) rfl (fun i => evs_len _) (by first | (intro h; cases h; done) | (intro h; exact ⟨by omega, by omega⟩)) (S1.out.below (fun i => evs_len _) BY.out) (fun i => evs_one _) (by omega) (by unfold maxLen; omega) hzy ?_))
              intro v1 w1 r1 g1 f1
              have R1 : Hid (Row w1 wz.heap.size 26 9 v1 j (fun i => evs (O i))) := Lib.hid (by
                exact Row.congr r1 fun i hi => by simp [cat])
              have B1 : Hid (Below wz.heap.size wz w1) := Lib.hid (BY.out.trans ((Off.of_grown g1).toBelow hzy (fun q hq h => RY.out.apart hq h)))
              have hz1' : wz.heap.size ≤ w1.heap.size := B1.out.size
              have BX1 : Hid (Box w1 w.heap.size cur) := Lib.hid (BXz.out.below B1.out)
              have D1 := BX1.out.at
              clear r1 g1 f1 RY BY
              have zb := szs BX1.out.lt
              rw [← CURE.out] at D1
              (have d0 := (D1).c0; have d1 := (D1).c1; have d2 := (D1).c2; have d3 := (D1).c3; have d4 := (D1).c4; have d5 := (D1).c5; have d6 := (D1).c6; have d7 := (D1).c7; have d8 := (D1).c8); (try dsimp only at d0 d1 d2 d3 d4 d5 d6 d7 d8)
              simp only [Nat.zero_add] at d0 d1 d2 d3 d4 d5 d6 d7 d8
              clear D1
              go_wp2_with fail
              (refine region_order (fun i : Nat => World.drewN _ i) [0, 4, 5, 6] [1] 2 [3, 7, 8] mixed (by kernel_rfl) ⟨1, rfl⟩ ?_; simp only [List.map_cons, List.map_nil, Array.getD_eq_getD_getElem?, List.getElem?_toArray, List.getElem?_cons_zero, List.getElem?_cons_succ, Option.getD_some]; (repeat (refine wpPure_cons _ rfl (fun w' => by go_simp; try rfl) ?_; dsimp only [Act.put])); refine wpPure_nil ?_; (repeat (any_goals (first | go_big_quiet_step (fail) | quiet_step (fail) | (refine wpQuiet_step (fun K hK => ?_); go_simp; split <;> (refine hK _ ?_; clear hK K))))); (all_goals (refine wpQuiet_nil (fun nq => ?_))))
              obtain ⟨w2, hw2⟩ : ∃ w2, w2 = w1.drewN nq := ⟨_, rfl⟩
              obtain ⟨w3, hw3⟩ : ∃ w3, w3 = w2.alloc (.cells #[.int .i64 y1, .int .i64 y2, .int .i64 y3, .int .i64 y4, .int .i64 y5, .int .i64 y6, .int .i64 y7, .int .i64 y8, .int .i64 y9] 26) := ⟨_, rfl⟩
              have B3 : Hid (Below w1.heap.size w1 w3) := Lib.hid (by rw [hw3, hw2]; (repeat' (first | (with_reducible exact Below.refl _ _) | (with_reducible assumption) | (with_reducible refine Below.drew ?_) | (with_reducible refine below_drewN ?_ _) | (with_reducible refine Below.alloc ?_ ?_ _) | (with_reducible refine Below.setCell ?_ ?_ _) | go_size)))
              have R3 : Hid (Row w3 wz.heap.size 26 9 v1 j (fun i => evs (O i))) := Lib.hid (Row.off (X := fun _ => False) R1.out (Off.of_below B3.out) (fun _ _ h => h))
              have X3 : Hid (w3.heap[w2.heap.size]? = some (.cells (evs ⟨y1, y2, y3, y4, y5, y6, y7, y8, y9⟩).toArray 26 (0, 0))) := Lib.hid (by rw [hw3]; exact heap_alloc_new w2 _)
              have S23 : Hid (SlE w3 9 (some ⟨g, 0, none⟩) 0 (fun i => evs (O (j + i)))) := Lib.hid ((S2.out.below (fun i => evs_len _) B1.out).below (fun i => evs_len _) B3.out)
              have hz3 : wz.heap.size ≤ w3.heap.size := by have := B3.out.size; omega
              have HW3 := Lib.hid hw3
              rw [← hw2]
              clear hw2 hw3 d0 d1 d2 d3 d4 d5 d6 d7 d8
              go_wp2_with (at_builtin; rw [← HW3.out]; go_loud (refine wpList_append_row w3 rfl (.tmp 69) (.tmp 71) 34 rfl wz.heap.size 26 i0 _ 9 72 Try.underlying34 hi0 hz0 hz1 hz2 rfl (by decide) v1 j (fun i => evs (O i)) rfl R3.out (fun i => evs_len _) w2.heap.size 1 (evs ⟨y1, y2, y3, y4, y5, y6, y7, y8, y9⟩) rfl rfl 26 (0, 0) X3.out (evs_one _) (by omega) (by unfold maxLen; omega) hz3 ?_))
              intro g4 c4 w4 hc4 hc4' hg4 hl4 ho4 r4 gr4
              have O4 : Hid (Below wz.heap.size w3 w4) := Lib.hid ((Off.of_grown gr4).toBelow hz3 (fun q hq h => R3.out.apart hq h))
              have R4 := Lib.hid r4
              have S24 : Hid (SlE w4 9 (some ⟨g, 0, none⟩) 0 (fun i => evs (O (j + i)))) := Lib.hid (SlE.below (fun i => evs_len _) S2.out (B1.out.trans ((B3.out.mono hz1').trans O4.out)))
              have hz4 : wz.heap.size ≤ w4.heap.size := by have := O4.out.size; omega
              clear r4 gr4 ho4
              go_wp2_with (at_builtin; go_loud (refine wpList_append_sl w4 rfl (.tmp 72) (.tmp 75) 34 rfl wz.heap.size 26 i0 _ 9 72 Try.underlying34 hi0 hz0 hz1 hz2 rfl (by decide) (.slice (some ⟨g4, 0, none⟩) (j + 1) c4) (j + 1) _ rfl R4.out (upd_len (fun i => evs_len _) (evs_len _)) (some ⟨g, 0, none⟩) 0 0 (fun i => evs (O (j + i))) rfl (fun i => evs_len _) (by first | (intro h; cases h; done) | (intro h; exact ⟨by omega, by omega⟩)) S24.out (fun i => evs_one _) (by omega) (by unfold maxLen; omega) hz4 ?_))
              intro v5 w5 r5 g5 f5
              have O5 : Hid (Below wz.heap.size w4 w5) := Lib.hid ((Off.of_grown g5).toBelow hz4 (fun q hq h => R4.out.apart hq h))
              have R5 := Lib.hid r5
              clear r5 g5 f5
              go_wp2_with fail
              refine onlyN_intro ?_
              go_wp2_with fail
              go_returns
              refine ⟨v5, j + 1 + 0, fun i => if i < j then O i else if i = j then cur else O (i - 1), rfl, ?_, ?_, ?_⟩
              · rw [hwj.out, show j + 1 + 0 = j + 1 by omega]
                exact ents_ins O j j (by omega) cur
              · refine Row.base_mono (Row.congr R5.out fun q hq => ?_) (Nat.le_trans (Nat.le_succ _) hzz)
                unfold cat
                rw [← CURE.out]
                dsimp only
                by_cases h1 : q < j
                · rw [if_pos (by omega), upd_ne (by omega), if_pos h1]
                · by_cases h2 : q = j
                  · subst h2
                    rw [if_pos (by omega), upd_same, if_neg (by omega), if_pos rfl]
                  · rw [if_neg (by omega), if_neg h1, if_neg h2]
                    try rw [show j + (q - (j + 1)) = q - 1 by omega]
              · exact BWz.out.trans ((B1.out.trans (((B3.out.mono hz1').trans O4.out).trans O5.out)).mono (by omega))
            · have hjc2 : j < cap := by omega
              -- the world is wz, the place is j: the first j, the event, the rest
              have hwj : Hid (withE (ents R i) e = (ents O j).take j ++ cur :: (ents O j).drop j) := Lib.hid (by
                unfold withE
                rw [← HREL.out.2.1, ← HREL.out.2.2.1]
                exact insE_split (by rw [ents_len]; omega) HLT.out HGE.out)
              have S1 : Hid (SlE wz 9 (some ⟨g, 0, none⟩) j (fun i => evs (O i))) := Lib.hid (SlE.cut (SO.out.below (fun i => evs_len _) HBZ.out) hj)
              have S2 : Hid (SlE wz 9 (some ⟨g, j * 9, none⟩) 0 (fun i => evs (O (j + i)))) := Lib.hid (fun i hi => absurd hi (Nat.not_lt_zero i))
              have BXz : Hid (Box wz w.heap.size cur) := Lib.hid (HREL.out.2.2.2.1.below HBZ.out)
              have BWz : Hid (Below w.heap.size w wz) := Lib.hid (HREL.out.2.2.2.2.trans (HBZ.out.mono HREL.out.2.2.2.2.size))
              have hzz : w.heap.size + 1 ≤ wz.heap.size := BXz.out.lt
              have hnk : j + 0 = j := by omega
              obtain ⟨wy, hwy⟩ : ∃ wy, wy = wz.alloc (.cells #[] 26) := ⟨_, rfl⟩
              have HWY := Lib.hid hwy
              have RY : Hid (Row wy wz.heap.size 26 9 (.slice (some ⟨wz.heap.size, 0, none⟩) 0 0) 0 (fun i => evs (O i))) := Lib.hid (by rw [hwy]; exact World.ownsRow_made wz #[] 0 (Nat.le_refl _) (Nat.zero_le _) (by simp))
              have BY : Hid (Below wz.heap.size wz wy) := Lib.hid (by rw [hwy]; (repeat' (first | (with_reducible exact Below.refl _ _) | (with_reducible assumption) | (with_reducible refine Below.drew ?_) | (with_reducible refine below_drewN ?_ _) | (with_reducible refine Below.alloc ?_ ?_ _) | (with_reducible refine Below.setCell ?_ ?_ _) | go_size)))
              have hzy : wz.heap.size ≤ wy.heap.size := BY.out.size
              clear hwy
              go_wp2_with (at_builtin; rw [← HWY.out]; go_loud (refine wpList_append_sl wy rfl (.tmp 64) (.tmp 67) 34 rfl wz.heap.size 26 i0 _ 9 72 Try.underlying34 hi0 hz0 hz1 hz2 rfl (by decide) _ 0 (fun i => evs (O i)) rfl RY.out (fun i => evs_len _) (some ⟨g, 0, none⟩) j cap (fun i => evs (O i)) rfl (fun i => evs_len _) (by first | (intro h; cases h; done) | (intro h; exact ⟨by omega, by omega⟩)) (S1.out.below (fun i => evs_len _) BY.out) (fun i => evs_one _) (by omega) (by unfold maxLen; omega) hzy ?_))
              intro v1 w1 r1 g1 f1
              have R1 : Hid (Row w1 wz.heap.size 26 9 v1 j (fun i => evs (O i))) := Lib.hid (by
                exact Row.congr r1 fun i hi => by simp [cat])
              have B1 : Hid (Below wz.heap.size wz w1) := Lib.hid (BY.out.trans ((Off.of_grown g1).toBelow hzy (fun q hq h => RY.out.apart hq h)))
              have hz1' : wz.heap.size ≤ w1.heap.size := B1.out.size
              have BX1 : Hid (Box w1 w.heap.size cur) := Lib.hid (BXz.out.below B1.out)
              have D1 := BX1.out.at
              clear r1 g1 f1 RY BY
              have zb := szs BX1.out.lt
              rw [← CURE.out] at D1
              (have d0 := (D1).c0; have d1 := (D1).c1; have d2 := (D1).c2; have d3 := (D1).c3; have d4 := (D1).c4; have d5 := (D1).c5; have d6 := (D1).c6; have d7 := (D1).c7; have d8 := (D1).c8); (try dsimp only at d0 d1 d2 d3 d4 d5 d6 d7 d8)
              simp only [Nat.zero_add] at d0 d1 d2 d3 d4 d5 d6 d7 d8
              clear D1
              go_wp2_with fail
              (refine region_order (fun i : Nat => World.drewN _ i) [0, 4, 5, 6] [1] 2 [3, 7, 8] mixed (by kernel_rfl) ⟨1, rfl⟩ ?_; simp only [List.map_cons, List.map_nil, Array.getD_eq_getD_getElem?, List.getElem?_toArray, List.getElem?_cons_zero, List.getElem?_cons_succ, Option.getD_some]; (repeat (refine wpPure_cons _ rfl (fun w' => by go_simp; try rfl) ?_; dsimp only [Act.put])); refine wpPure_nil ?_; (repeat (any_goals (first | go_big_quiet_step (fail) | quiet_step (fail) | (refine wpQuiet_step (fun K hK => ?_); go_simp; split <;> (refine hK _ ?_; clear hK K))))); (all_goals (refine wpQuiet_nil (fun nq => ?_))))
              obtain ⟨w2, hw2⟩ : ∃ w2, w2 = w1.drewN nq := ⟨_, rfl⟩
              obtain ⟨w3, hw3⟩ : ∃ w3, w3 = w2.alloc (.cells #[.int .i64 y1, .int .i64 y2, .int .i64 y3, .int .i64 y4, .int .i64 y5, .int .i64 y6, .int .i64 y7, .int .i64 y8, .int .i64 y9] 26) := ⟨_, rfl⟩
              have B3 : Hid (Below w1.heap.size w1 w3) := Lib.hid (by rw [hw3, hw2]; (repeat' (first | (with_reducible exact Below.refl _ _) | (with_reducible assumption) | (with_reducible refine Below.drew ?_) | (with_reducible refine below_drewN ?_ _) | (with_reducible refine Below.alloc ?_ ?_ _) | (with_reducible refine Below.setCell ?_ ?_ _) | go_size)))
              have R3 : Hid (Row w3 wz.heap.size 26 9 v1 j (fun i => evs (O i))) := Lib.hid (Row.off (X := fun _ => False) R1.out (Off.of_below B3.out) (fun _ _ h => h))
              have X3 : Hid (w3.heap[w2.heap.size]? = some (.cells (evs ⟨y1, y2, y3, y4, y5, y6, y7, y8, y9⟩).toArray 26 (0, 0))) := Lib.hid (by rw [hw3]; exact heap_alloc_new w2 _)
              have S23 : Hid (SlE w3 9 (some ⟨g, j * 9, none⟩) 0 (fun i => evs (O (j + i)))) := Lib.hid ((S2.out.below (fun i => evs_len _) B1.out).below (fun i => evs_len _) B3.out)
              have hz3 : wz.heap.size ≤ w3.heap.size := by have := B3.out.size; omega
              have HW3 := Lib.hid hw3
              rw [← hw2]
              clear hw2 hw3 d0 d1 d2 d3 d4 d5 d6 d7 d8
              go_wp2_with (at_builtin; rw [← HW3.out]; go_loud (refine wpList_append_row w3 rfl (.tmp 69) (.tmp 71) 34 rfl wz.heap.size 26 i0 _ 9 72 Try.underlying34 hi0 hz0 hz1 hz2 rfl (by decide) v1 j (fun i => evs (O i)) rfl R3.out (fun i => evs_len _) w2.heap.size 1 (evs ⟨y1, y2, y3, y4, y5, y6, y7, y8, y9⟩) rfl rfl 26 (0, 0) X3.out (evs_one _) (by omega) (by unfold maxLen; omega) hz3 ?_))
              intro g4 c4 w4 hc4 hc4' hg4 hl4 ho4 r4 gr4
              have O4 : Hid (Below wz.heap.size w3 w4) := Lib.hid ((Off.of_grown gr4).toBelow hz3 (fun q hq h => R3.out.apart hq h))
              have R4 := Lib.hid r4
              have S24 : Hid (SlE w4 9 (some ⟨g, j * 9, none⟩) 0 (fun i => evs (O (j + i)))) := Lib.hid (SlE.below (fun i => evs_len _) S2.out (B1.out.trans ((B3.out.mono hz1').trans O4.out)))
              have hz4 : wz.heap.size ≤ w4.heap.size := by have := O4.out.size; omega
              clear r4 gr4 ho4
              go_wp2_with (at_builtin; go_loud (refine wpList_append_sl w4 rfl (.tmp 72) (.tmp 75) 34 rfl wz.heap.size 26 i0 _ 9 72 Try.underlying34 hi0 hz0 hz1 hz2 rfl (by decide) (.slice (some ⟨g4, 0, none⟩) (j + 1) c4) (j + 1) _ rfl R4.out (upd_len (fun i => evs_len _) (evs_len _)) (some ⟨g, j * 9, none⟩) 0 (cap - j) (fun i => evs (O (j + i))) rfl (fun i => evs_len _) (by first | (intro h; cases h; done) | (intro h; exact ⟨by omega, by omega⟩)) S24.out (fun i => evs_one _) (by omega) (by unfold maxLen; omega) hz4 ?_))
              intro v5 w5 r5 g5 f5
              have O5 : Hid (Below wz.heap.size w4 w5) := Lib.hid ((Off.of_grown g5).toBelow hz4 (fun q hq h => R4.out.apart hq h))
              have R5 := Lib.hid r5
              clear r5 g5 f5
              go_wp2_with fail
              refine onlyN_intro ?_
              go_wp2_with fail
              go_returns
              refine ⟨v5, j + 1 + 0, fun i => if i < j then O i else if i = j then cur else O (i - 1), rfl, ?_, ?_, ?_⟩
              · rw [hwj.out, show j + 1 + 0 = j + 1 by omega]
                exact ents_ins O j j (by omega) cur
              · refine Row.base_mono (Row.congr R5.out fun q hq => ?_) (Nat.le_trans (Nat.le_succ _) hzz)
                unfold cat
                rw [← CURE.out]
                dsimp only
                by_cases h1 : q < j
                · rw [if_pos (by omega), upd_ne (by omega), if_pos h1]
                · by_cases h2 : q = j
                  · subst h2
                    rw [if_pos (by omega), upd_same, if_neg (by omega), if_pos rfl]
                  · rw [if_neg (by omega), if_neg h1, if_neg h2]
                    try rw [show j + (q - (j + 1)) = q - 1 by omega]
              · exact BWz.out.trans ((B1.out.trans (((B3.out.mono hz1').trans O4.out).trans O5.out)).mono (by omega))
end Go.Proofs.Ytmhnkfcbbjbpfaa
