/- A frame opened, the program's. -/
import Derived.Test.YtlnfhlmgnppcbaaCR8
import Derived.Test.YtlnfhlmgnppcbaaWI3
import Derived.Test.YtlnfhlmgnppcbaaBA
import Derived.BigQuiet
namespace Go.Proofs.Ytlnfhlmgnppcbaa
open Go.RowKit Go.ChangeShapes Go.WideShapes Go.Deep
set_option linter.unusedVariables false
set_option linter.unusedSimpArgs false
/-- The call hands back these bytes and two numbers. -/
def BytesO (w : World) (r : List Nat × Int × Int) (e : Ending) (w' : World) : Prop := ∃ (v : Value) (k : Nat) (R : Nat → Nat), e = .returned (.tuple #[v, .int .i64 r.2.1, .int .i64 r.2.2]) ∧ ents R k = r.1 ∧ BRow w' w.heap.size v k R ∧ Below w.heap.size w w'
theorem BytesO.err {w w' : World} (x : Int) (hb : Below w.heap.size w w') : BytesO w ([], 0, x) (.returned (.tuple #[.slice none 0 0, .int .i64 0, .int .i64 x])) w' := ⟨_, 0, fun _ => 0, rfl, rfl, BRow.none _ _, hb⟩
theorem openE_1 {L : List Nat} {a x to er : Int} (h : intE L a = (x, to, er)) (he : er ≠ 0) : openE L a = ([], 0, er) := by
  unfold openE; rw [h]; dsimp only; rw [if_pos he]
theorem openE_2 {L : List Nat} {a x to er : Int} (h : intE L a = (x, to, er)) (he : er = 0) (hx : x < 0 ∨ 65536 < x) : openE L a = ([], 0, 3) := by
  unfold openE; rw [h]; dsimp only; rw [if_neg (by omega), if_pos hx]
theorem openE_3 {L : List Nat} {a x to er : Int} (h : intE L a = (x, to, er)) (he : er = 0) (hx : ¬ (x < 0 ∨ 65536 < x)) (hl : (L.length : Int) - to < x + 4) : openE L a = ([], 0, 4) := by
  unfold openE; rw [h]; dsimp only; rw [if_neg (by omega), if_neg hx, if_pos hl]
theorem openE_4 {L : List Nat} {a : Int} {m q : Nat} (h : intE L a = ((m : Int), (q : Int), 0)) (hm : (m : Int) ≤ 65536) (hl : q + m + 4 ≤ L.length) :
    openE L a = if (L.drop (q + m)).take 4 = tailB (sumB ((L.drop q).take m)) then ((L.drop q).take m, (q : Int) + (m : Int) + 4, 0) else ([], 0, 13) := by
  unfold openE; rw [h]; dsimp only; rw [if_neg (by omega), if_neg (by omega), if_neg (by omega), Int.toNat_natCast, Int.toNat_natCast]
theorem ents_sub {B : Nat → Nat} {n q m : Nat} (h : q + m ≤ n) : ((ents B n).drop q).take m = ents (fun i => B (q + i)) m := by
  apply List.ext_getElem?
  intro i
  rw [List.getElem?_take]
  by_cases hi : i < m
  · rw [if_pos hi, List.getElem?_drop, ents_get (by omega), ents_get hi]
  · rw [if_neg hi, List.getElem?_eq_none (by rw [ents_len]; omega)]
theorem BSl.sub {w : World} {g o n c : Nat} {B : Nat → Nat} (h : BSl w (some ⟨g, o, Option.none⟩) n c B) {q m : Nat} (hm : q + m ≤ n) : BSl w (some ⟨g, o + q, Option.none⟩) m (c - q) (fun i => B (q + i)) := by
  have h1 := h.hm
  have h2 := h.hc
  refine ⟨by omega, by omega, (fun e => by cases e), bf_len _, fun i hi => ⟨g, o + q, rfl, fun j hj => ?_⟩⟩
  obtain ⟨g', o', e, hc⟩ := h.sl (q + i) (by omega)
  cases e
  have := hc j hj
  rw [show o + q + i * 1 + j = o + (q + i) * 1 + j by omega]
  exact this
/-- A slice of these bytes. -/
def SlY (w : World) (v : Value) (l : List Nat) : Prop := ∃ (ao : Option Addr) (k c : Nat) (R : Nat → Nat), v = .slice ao k c ∧ BSl w ao k c R ∧ ents R k = l
theorem SlY.below {w w' : World} {v : Value} {l : List Nat} (h : SlY w v l) (hb : Below w.heap.size w w') : SlY w' v l := by
  obtain ⟨ao, k, c, R, e, hs, hl⟩ := h
  exact ⟨ao, k, c, R, e, hs.below hb, hl⟩
theorem SlY.of {w : World} {base : Nat} {v : Value} {k : Nat} {R : Nat → Nat} {l : List Nat} (h : BRow w base v k R) (hl : ents R k = l) : SlY w v l := by
  obtain ⟨ao, c, e, hs⟩ := BRow.toSl h
  exact ⟨ao, k, c, R, e, hs, hl⟩
def openG (l : List Nat) : List Value → World → Prop
  | [v1], w => SlY w v1 l
  | _, _ => True
def openS (r : Bool) : List Value → Prop
  | [v1] => ∃ (ao : Option Addr) (k c : Nat), v1 = .slice ao k c
  | v :: _ => v = .bool r
  | [] => True
theorem openG_below {l : List Nat} : ∀ (s : List Value) (w w' : World), openG l s w → Below w.heap.size w w' → openG l s w'
  | [], _, _, _, _ => trivial
  | [_], _, _, h, hb => SlY.below h hb
  | _ :: _ :: _, _, _, _, _ => trivial
set_option maxRecDepth 4000 in
set_option maxHeartbeats 4000000 in
theorem open38 (ao : Option Addr) (n c : Nat) (B : Nat → Nat) (a : Int) (w : World) (h : BSl w ao n c B) (hB : ∀ i, i < n → B i < 256) (hn : n ≤ 1000000) (ha : inI a) : Calls Try.prog 38 #[.slice ao n c, .int .i64 a] w (BytesO w (openE (ents B n) a)) := by
  have hmc := h.hm
  have hcc := h.hc
  have HS := Lib.hid h
  have HB := Lib.hid hB
  have CI := Lib.hid (int55 ao n c B a w h hB hn ha)
  have hlen : ((ents B n).length : Int) = n := by rw [ents_len]
  have HF := Lib.hid (intE_form (l := ents B n) (byte_ents hB) (a := a))
  obtain ⟨⟨x, to, er⟩, hI⟩ : ∃ r, r = intE (ents B n) a := ⟨_, rfl⟩
  have HI := Lib.hid hI.symm
  rw [← hI] at CI HF
  unfold i3 at CI
  dsimp only at CI HF
  clear h hB hI
  by_cases he : er = 0
  · subst he
    obtain ⟨p, hp1, hp2, t, ht, hto⟩ := HF.out rfl
    have htl := congrArg List.length ht
    rw [List.length_drop, List.length_append, ents_len] at htl
    rw [ents_len] at hp2
    obtain ⟨q, hq⟩ : ∃ q, q = p + (codeN x).length := ⟨_, rfl⟩
    rw [← hq] at hto
    have hqn : q ≤ n := by omega
    subst hto
    clear HF hp1 hp2 ht htl hq
    by_cases hx1 : x < 0
    · rw [openE_2 HI.out rfl (.inl hx1)]
      go_enter Try.func38, Try.ntmps38
      go_wp2_with fail
      refine CI.out.mono ?_
      rintro e w1 ⟨rfl, b1⟩
      have B1 := Lib.hid b1
      clear CI b1
      go_wp2_with fail
      go_returns
      exact BytesO.err 3 B1.out
    by_cases hx2 : 65536 < x
    · rw [openE_2 HI.out rfl (.inr hx2)]
      go_enter Try.func38, Try.ntmps38
      go_wp2_with fail
      refine CI.out.mono ?_
      rintro e w1 ⟨rfl, b1⟩
      have B1 := Lib.hid b1
      clear CI b1
      go_wp2_with fail
      go_returns
      exact BytesO.err 3 B1.out
    obtain ⟨m, rfl⟩ := Int.eq_ofNat_of_zero_le (show 0 ≤ x by omega)
    have hm : m ≤ 65536 := by omega
    by_cases hx3 : (n : Int) - (q : Int) < (m : Int) + 4
    · rw [openE_3 HI.out rfl (by omega) (by rw [hlen]; exact hx3)]
      clear hlen
      have tx1 : (0 : Int) ≤ (m : Int) := by omega
      have tx2 : (m : Int) ≤ 65536 := by omega
      go_enter Try.func38, Try.ntmps38
      go_wp2_with fail
      refine CI.out.mono ?_
      rintro e w1 ⟨rfl, b1⟩
      have B1 := Lib.hid b1
      clear CI b1
      go_wp2_with fail
      go_returns
      exact BytesO.err 4 B1.out
    have hsum : q + m + 4 ≤ n := by omega
    have HA : Hid ((ao : Option Addr) ≠ none) := Lib.hid (fun e => by have := (HS.out.hno e).1; omega)
    obtain ⟨g, o, rfl, hg, _⟩ := BSl.byte HS.out (i := 0) (by omega)
    have tx1 : (0 : Int) ≤ (m : Int) := by omega
    have tx2 : (m : Int) ≤ 65536 := by omega
    have tx3 : (m : Int) + 4 ≤ (n : Int) - (q : Int) := by omega
    have ti1 : (q : Int) ≤ (q : Int) + (m : Int) := by omega
    have ti2 : (q : Int) + (m : Int) ≤ (c : Int) := by omega
    clear hx1 hx2 hx3 hlen HA
    go_enter Try.func38, Try.ntmps38
    go_wp2_with fail
    refine CI.out.mono ?_
    rintro e w1 ⟨rfl, b1⟩
    have B1 := Lib.hid b1
    have S1 := Lib.hid (HS.out.below b1)
    clear CI b1 HS
    have SC := Lib.hid (BSl.sub S1.out (q := q) (m := m) (by omega))
    have ST := Lib.hid (BSl.sub S1.out (q := q + m) (m := 4) (by omega))
    have EO := Lib.hid (openE_4 HI.out tx2 (by rw [ents_len]; omega))
    rw [ents_sub (by omega), ents_sub (by omega)] at EO
    have HB1 := Lib.hid (fun (i : Nat) (hi : i < m) => HB.out (q + i) (by omega))
    have HB2 := Lib.hid (fun (i : Nat) (hi : i < 4) => HB.out (q + m + i) (by omega))
    clear HI S1 HB
    obtain ⟨l, hl⟩ : ∃ l, l = tailB (sumB (ents (fun i => B (q + i)) m)) := ⟨_, rfl⟩
    have N1 := Lib.hid (fun w' hb => tail44 _ _ _ _ w' (SC.out.below hb) HB1.out)
    have HLB : Hid (∀ x ∈ l, x < 256) := Lib.hid (by rw [hl]; exact tailB_byte _)
    rw [← hl] at EO N1
    obtain ⟨r, hr⟩ : ∃ r, r = decide (ents (fun i => B (q + m + i)) 4 = l) := ⟨_, rfl⟩
    have HR := Lib.hid hr
    clear hl hr
    have hq4 : q + m + 4 ≤ c := by omega
    have hw1 : wrap64 ((q : Int) + (m : Int)) = (q : Int) + (m : Int) := by simp only [wrap64, IntKind.wrap_i64]; omega
    have HW1 := Lib.hid hw1
    clear hw1
    have e1 : q + m - q = m := by omega
    have e2 : q + m + 4 - (q + m) = 4 := by omega
    go_wp2_with fail
    (obtain ⟨ι, hne, Fw, fb, hF⟩ := grow_family w1); have hF : ∀ w', (vPlan w1 (openG l) (openS r) [7, 8] [] (fun _ => [])).D [] w' → ∃ i, w' = Fw i := hF
    (refine region_chainO (vPlan w1 (openG l) (openS r) [7, 8] [] (fun _ => [])) [] [] [0, 1, 2, 3, 4, 5, 6, 7, 8, 9] [] mixed (by kernel_rfl) (by kernel_rfl) (fun _ _ h => nomatch h) (vPlan_ok (openG_below) (by simp)) (vPlan_start (trivial)) ?_; refine wpPure_nil ?_; simp only [List.map_cons, List.map_nil, Array.getD_eq_getD_getElem?, List.getElem?_toArray, List.getElem?_cons_zero, List.getElem?_cons_succ, Option.getD_some])
    (repeat (first | (refine wpChainO_skip rfl ?_; simp only [Act.put, List.setIfInBounds_toArray, List.set_cons_succ, List.set_cons_zero]) | (refine wpChainO_quiet hF rfl rfl rfl ?_; intro K hK; go_big_quiet_op; go_big_quiet_on) | (refine wpChainO_pure _ rfl rfl (fun w' _ => by go_simp; try rfl) ?_; simp only [Act.put, List.setIfInBounds_toArray, List.set_cons_succ, List.set_cons_zero])))
    refine wpChainO_vcall 44 #[.slice (some ⟨g, o + q, none⟩) m (c - q)] rfl rfl (fun w' => by go_simp; try simp only [e1]) (fun w' hb _ _ => ?_) ?_
    · refine (N1.out w' hb).mono ?_
      rintro e w5 ⟨u, k, R, rfl, hl, hrow, hb5⟩
      have hsl := SlY.of hrow hl
      obtain ⟨ao, k, c, R', e, _⟩ := id hsl
      exact ⟨u, rfl, ⟨ao, k, c, e⟩, hsl, hb5⟩
    rintro u1 ⟨ao1, k1, c1, rfl⟩
    simp only [Act.put, List.setIfInBounds_toArray, List.set_cons_succ, List.set_cons_zero]
    (repeat (first | (refine wpChainO_skip rfl ?_; simp only [Act.put, List.setIfInBounds_toArray, List.set_cons_succ, List.set_cons_zero]) | (refine wpChainO_quiet hF rfl rfl rfl ?_; intro K hK; go_big_quiet_op; go_big_quiet_on) | (refine wpChainO_pure _ rfl rfl (fun w' _ => by go_simp; try rfl) ?_; simp only [Act.put, List.setIfInBounds_toArray, List.set_cons_succ, List.set_cons_zero])))
    refine wpChainO_vcall 56 #[.slice (some ⟨g, o + (q + m), none⟩) 4 (c - (q + m)), .slice ao1 k1 c1] rfl rfl (fun w' => by go_simp; try simp only [e2]) (fun w' hb hg _ => ?_) ?_
    · obtain ⟨ao, k, c, R, e, hs, hl⟩ := hg
      cases e
      refine (equal56 _ _ _ _ _ _ _ R w' (ST.out.below hb) hs HB2.out (fun i hi => HLB.out _ (by rw [← hl]; exact mem_ents.2 ⟨i, hi, rfl⟩))).mono ?_
      rintro e w5 ⟨rfl, rfl⟩
      rw [hl, ← HR.out]
      exact ⟨_, rfl, rfl, trivial, Below.refl _ _⟩
    rintro u2 hu2
    obtain rfl : u2 = .bool r := hu2
    simp only [Act.put, List.setIfInBounds_toArray, List.set_cons_succ, List.set_cons_zero]
    (repeat (first | (refine wpChainO_skip rfl ?_; simp only [Act.put, List.setIfInBounds_toArray, List.set_cons_succ, List.set_cons_zero]) | (refine wpChainO_quiet hF rfl rfl rfl ?_; intro K hK; go_big_quiet_op; go_big_quiet_on) | (refine wpChainO_pure _ rfl rfl (fun w' _ => by go_simp; try rfl) ?_; simp only [Act.put, List.setIfInBounds_toArray, List.set_cons_succ, List.set_cons_zero])))
    refine wpChainO_nil (fun w8 hb8 hl8 => ?_)
    have B8 : Hid (Below w1.heap.size w1 w8) := Lib.hid hb8.1
    clear hb8 hl8 hF fb hne N1
    refine onlyN_intro ?_
    have CCL := Lib.hid (clone57 g (o + q) m (c - q) _ w8 (SC.out.below B8.out) (by omega))
    cases r with
    | false =>
      have EO' := Lib.hid (EO.out.trans (if_neg (of_decide_eq_false HR.out.symm)))
      clear EO HR CCL
      go_wp2_with fail
      go_returns
      rw [EO'.out]
      exact BytesO.err 13 (B1.out.trans (B8.out.mono B1.out.size))
    | true =>
      have EO' := Lib.hid (EO.out.trans (if_pos (of_decide_eq_true HR.out.symm)))
      clear EO HR
      go_wp2_with fail
      refine CCL.out.mono ?_
      rintro e w9 ⟨v9, k9, R9, rfl, l9, r9, b9⟩
      have L9 := Lib.hid l9
      have R9r := Lib.hid r9
      have B9 := Lib.hid b9
      clear CCL l9 r9 b9
      go_wp2_with fail
      go_returns
      rw [EO'.out]
      have b18 := B1.out.trans (B8.out.mono B1.out.size)
      exact ⟨v9, k9, R9, rfl, L9.out, Row.base_mono R9r.out b18.size, b18.trans (B9.out.mono b18.size)⟩
  · rw [openE_1 HI.out he]
    have he' : (er == 0) = false := by simpa using he
    go_enter Try.func38, Try.ntmps38
    go_wp2_with fail
    refine CI.out.mono ?_
    rintro e w1 ⟨rfl, b1⟩
    have B1 := Lib.hid b1
    clear CI b1
    go_wp2_with fail
    go_returns
    exact BytesO.err er B1.out
end Go.Proofs.Ytlnfhlmgnppcbaa
