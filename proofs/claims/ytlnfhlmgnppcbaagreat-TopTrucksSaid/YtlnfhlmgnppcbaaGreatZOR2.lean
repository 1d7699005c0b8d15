/- All orders of a list, for somebody who is called with each. -/
import Derived.Test.YtlnfhlmgnppcbaaGreatZOR1
import Derived.BigQuiet
import Derived.BigRegion
namespace Go.Proofs.YtlnfhlmgnppcbaaGreat
open Go.RowKit Go.ChangeShapes Go.WideShapes Go.Deep
set_option linter.unusedVariables false
set_option linter.unusedSimpArgs false
structure EachB (b1 b2 O : Nat) (J : Nat → World → Prop) : Prop where
  off : ∀ {B : Nat} {w w' : World}, J B w → Off (fun q => q = B) w w' → J B w'
  ne : ∀ {B : Nat} {w : World}, J B w → O ≠ B
  call : ∀ {B base m : Nat} {v : Value} {V : Nat → Int} {w : World}, J B w → NumR w base v m V → (∀ g, v.ownBlock = some g → g = B) → m ≤ 6 → (∀ i, i < m → 0 ≤ V i ∧ V i < 16) →
    Calls Tryz.prog 138 #[v, .pointer (some ⟨b1, 0, none⟩), .pointer (some ⟨b2, 0, none⟩), .pointer (some ⟨O, 0, none⟩)] w fun e w' => e = .returned (.tuple #[]) ∧ J B w' ∧ Off (fun q => q = O) w w'
def rowV (w : World) (B : Nat) : Nat → Int := fun i => match w.cell? ⟨B, i, none⟩ with | some (.int _ x) => x | _ => 0
theorem rowV_at {w : World} {base b n c : Nat} {V : Nat → Int} (h : NumR w base (.slice (some ⟨b, 0, none⟩) n c) n V) {i : Nat} (hi : i < n) : rowV w b i = V i := by
  unfold rowV; rw [h.at hi]
theorem rank_congr {V V' : Nat → Int} {m : Nat} (h : ∀ i, i < m → V i = V' i) : lastN V m = lastN V' m := by
  unfold lastN; rw [rankN_same (V := V') (V' := V) h]
theorem flat_nums : ∀ (l : List Int), flat (nf (fun i => l.getD i 0)) l.length = l.map (Value.int .i64) := fun l => by
  have key : ∀ n, n ≤ l.length → flat (nf (fun i => l.getD i 0)) n = (l.take n).map (Value.int .i64) := fun n => by
    induction n with
    | zero => intro _; rfl
    | succ n ih =>
      intro h
      rw [flat_succ, ih (by omega), List.take_add_one, List.map_append]
      congr 1
      have hn : n < l.length := by omega
      simp [nf, List.getD, hn]
  have := key l.length (Nat.le_refl _)
  rwa [List.take_length] at this
theorem numR_of {w : World} {base : Nat} {v : Value} {l : List Int} (h : w.ownsRow base 3 1 v l.length (l.map (Value.int .i64))) : NumR w base v l.length (fun i => l.getD i 0) := by
  unfold NumR Row
  rw [flat_nums]; exact h
set_option maxRecDepth 8000 in
set_option maxHeartbeats 8000000 in
theorem orders137 (b1 b2 O : Nat) (J : Nat → World → Prop) (HE : EachB b1 b2 O J) (a : Option Addr) (n c : Nat) (V : Nat → Int) (w : World) (hs : Sl w 1 a n c (nf V)) (hn : n ≤ 6) (hb : ∀ i, i < n → 0 ≤ V i ∧ V i < 16)
    (h0 : ∀ B w', w.heap.size ≤ B → B < w'.heap.size → Below w.heap.size w w' → J B w') :
    Calls Tryz.prog 137 #[.slice a n c, .func (.func 138) #[] #[.pointer (some ⟨b1, 0, none⟩), .pointer (some ⟨b2, 0, none⟩), .pointer (some ⟨O, 0, none⟩)]] w fun e w' => e = .returned (.tuple #[]) ∧ ∃ B, w.heap.size ≤ B ∧ J B w' := by
  have E := Lib.hid HE
  have B1 : Hid (Below w.heap.size w (w.alloc (.cells #[.slice a n c] 22))) := Lib.hid (by (repeat' (first | (with_reducible exact Below.refl _ _) | (with_reducible assumption) | (with_reducible refine Below.drew ?_) | (with_reducible refine below_drewN ?_ _) | (with_reducible refine Below.alloc ?_ ?_ _) | (with_reducible refine Below.setCell ?_ ?_ _) | go_size)))
  have X1 := Lib.hid (heap_alloc_new w (.cells #[.slice a n c] 22))
  obtain ⟨w1, hw1⟩ : ∃ w1, w1 = w.alloc (.cells #[.slice a n c] 22) := ⟨_, rfl⟩
  have C1 := values135 a n c w
  rw [← hw1] at B1 X1 C1
  have C1 := Lib.hid C1
  have C2 := Lib.hid (sorted134 w.heap.size n c a V w1 (by omega) (hs.below B1.out) (cell_at X1.out 0))
  have H0 := Lib.hid h0
  have HSZ1 : Hid (w.heap.size < w1.heap.size) := Lib.hid (block_lt X1.out)
  have HB := Lib.hid hb
  clear hw1 HE hs X1 h0 hb
  go_enter Tryz.func137, Tryz.ntmps137
  go_wp2_with fail
  go_step3
  go_wp2_with fail
  refine C1.out.mono ?_
  rintro e w' ⟨rfl, rfl⟩
  clear C1
  go_wp2_with fail
  refine C2.out.mono ?_
  rintro e w2 ⟨v, ss, rfl, hss, hrow, hnil, b2'⟩
  have hl : ss.length = n := by rw [hss, ents_len]
  have HM : Hid (∀ x, x ∈ (ss.mergeSort fun x y => decide (x ≤ y)) → 0 ≤ x ∧ x < 16) := Lib.hid (fun x hx => by
    rw [List.mem_mergeSort, hss] at hx
    obtain ⟨i, hi, rfl⟩ := mem_ents.1 hx
    exact HB.out i hi)
  have hTl : (ss.mergeSort fun x y => decide (x ≤ y)).length = n := by rw [List.length_mergeSort, hl]
  generalize (ss.mergeSort fun x y => decide (x ≤ y)) = T at *
  rw [hl, ← hTl] at hrow
  have R2 := numR_of hrow
  rw [hTl] at R2
  have HV : Hid (∀ i, i < n → 0 ≤ (fun i => T.getD i 0) i ∧ (fun i => T.getD i 0) i < 16) := Lib.hid (fun i hi => by
    have hi' : i < T.length := by omega
    have := HM.out (T[i]) (List.getElem_mem hi')
    simpa [List.getD, hi'] using this)
  generalize (fun i => T.getD i 0) = V0 at *
  obtain ⟨B, hB1, hBs, hB2⟩ : ∃ B, w.heap.size ≤ B ∧ B < w2.heap.size ∧ ∀ g, v.ownBlock = some g → g = B := by
    rcases Row.shape R2 with ⟨rfl, _⟩ | ⟨g, cap, rfl, hg, hgl, _⟩
    · exact ⟨w.heap.size, Nat.le_refl _, Nat.lt_of_lt_of_le HSZ1.out b2'.size, fun g h => by cases h⟩
    · exact ⟨g, Nat.le_trans B1.out.size hg, hgl, fun g' h => by cases h; rfl⟩
  obtain ⟨ao, cap, rfl, hsl⟩ := Row.toSl R2 (nf_len V0)
  have hcm := hsl.hm
  have hcc := hsl.hc
  have J2 := Lib.hid (H0.out B w2 hB1 hBs (B1.out.trans (b2'.mono B1.out.size)))
  have HR2 := Lib.hid R2
  have HB2 := Lib.hid hB2
  obtain ⟨bs, hbs⟩ : ∃ bs, bs = w'.heap.size := ⟨_, rfl⟩
  rw [← hbs] at HR2
  clear hss hl HM hTl hrow hnil R2 hsl C1 C2 b2' H0 HB B1 hB2 hbs hBs HSZ1
  go_wp2_with fail
  go_step3
  go_wp2_with fail
  go_loopw [4] (fun s4 wr => ∃ Vr : Nat → Int, Hid (J B wr ∧ NumR wr bs (.slice ao n cap) n Vr ∧ ∀ i, i < n → 0 ≤ Vr i ∧ Vr i < 16)) (fun _ wr => lastN (rowV wr B) n)
  case atStart => exact ⟨V0, Lib.hid ⟨J2.out, HR2.out, HV.out⟩⟩
  case round =>
    obtain ⟨Vr, hr⟩ := hrel
    have HREL := hr
    clear hr HR2 J2 HV
    have CE := Lib.hid (E.out.call HREL.out.1 HREL.out.2.1 HB2.out hn HREL.out.2.2)
    go_wp2_with fail
    refine CE.out.mono ?_
    rintro e w4 ⟨rfl, j4, o4⟩
    have J4 := Lib.hid j4
    have HOB := Lib.hid (E.out.ne j4)
    have R4 : Hid (NumR w4 bs (.slice ao n cap) n Vr) := Lib.hid (Row.off HREL.out.2.1 o4 (fun g hg h => by have := HB2.out g hg; exact HOB.out (h.symm.trans this)))
    have M4 : Hid (lastN (rowV wr B) n = lastN Vr n) := Lib.hid (rank_congr (fun i hi => by
      rcases Row.shape HREL.out.2.1 with ⟨h, h0⟩ | ⟨g, cap', h, _⟩
      · omega
      · have hg : g = B := HB2.out g (by rw [h]; rfl)
        have hR := HREL.out.2.1
        rw [h, hg] at hR
        exact rowV_at hR hi))
    clear CE j4 o4
    go_wp2_with fail
    go_loopw [4] (fun s4 wr2 => ∃ z : Int, s4 = .int .i64 z ∧ -2 ≤ z ∧ z ≤ (n : Int) - 2 ∧ Hid (Below w4.heap.size w4 wr2)) (fun s4 _ => (intOf s4 + 2).toNat)
    case atStart => exact ⟨(n : Int) - 2, rfl, by omega, by omega, Lib.hid (Below.refl _ _)⟩
    case round =>
      obtain ⟨z, rfl, hz1, hz2, hBz⟩ := hrel
      have BZ := hBz
      clear hBz
      by_cases hz : 0 ≤ z
      · obtain ⟨i, rfl⟩ := Int.eq_ofNat_of_zero_le hz
        have tz : decide (0 ≤ (i : Int)) = true := decide_eq_true hz
        have hin : i + 1 < n := by omega
        have hao : ao = some ⟨B, 0, none⟩ ∧ bs ≤ B ∧ B < w4.heap.size := by
          rcases Row.shape R4.out with ⟨h, h0⟩ | ⟨g, cap', h, hg1, hg2, _⟩
          · omega
          · cases h
            obtain rfl : g = B := HB2.out g rfl
            exact ⟨rfl, hg1, hg2⟩
        obtain ⟨rfl, hbB, hB4⟩ := hao
        clear hz
        go_wp2_with fail
        go_loopw [5] (fun s5 wr3 => ∃ y : Int, s5 = .int .i64 y ∧ (i : Int) ≤ y ∧ y ≤ (n : Int) - 1 ∧ Hid (Below w4.heap.size w4 wr3)) (fun s5 _ => (intOf s5 - (i : Int)).toNat)
        case atStart => exact ⟨(n : Int) - 1, rfl, by omega, by omega, BZ⟩
        case round =>
          obtain ⟨y, rfl, hy1, hy2, hBy⟩ := hrel
          have BY := hBy
          clear hBy
          by_cases hiy : (i : Int) < y
          · obtain ⟨j, rfl⟩ := Int.eq_ofNat_of_zero_le (show 0 ≤ y by omega)
            have tij : decide ((i : Int) < (j : Int)) = true := decide_eq_true hiy
            have ti : (i : Int) < (n : Int) := by omega
            have tj : (j : Int) < (n : Int) := by omega
            have R5 : NumR wr bs (.slice (some ⟨B, 0, none⟩) n cap) n Vr := Row.off (X := fun _ => False) R4.out (Off.of_below BY.out) (fun _ _ h => h)
            have HR5 := Lib.hid R5
            have ci := R5.at (show i < n by omega)
            have cj := R5.at (show j < n by omega)
            have fr := fun x => Row.free R5 x
            have zr := szs (Nat.lt_of_lt_of_le hB4 BY.out.size)
            clear R5
            by_cases hlt : Vr i < Vr j
            · have tl : decide (Vr i < Vr j) = true := decide_eq_true hlt
              go_wp2_with fail
              (refine region_all (fun i : Nat => World.drewN _ i) mixed (by kernel_rfl) ⟨1, rfl⟩ ?_; (repeat (any_goals (first | go_big_quiet_step (fail) | quiet_step (fail) | (refine wpQuiet_step (fun K hK => ?_); go_simp; split <;> (refine hK _ ?_; clear hK K))))); (all_goals (refine wpQuiet_nil (fun nq => ?_))))
              go_wp2_with fail
              have BD := below_drewN (Below.refl wr.heap.size wr) nq
              have RD : NumR (wr.drewN nq) bs (.slice (some ⟨B, 0, none⟩) n cap) n Vr := Row.off (X := fun _ => False) HR5.out (Off.of_below BD) (fun _ _ h => h)
              have ci := RD.at (show i < n by omega)
              have cj := RD.at (show j < n by omega)
              have fr := fun x => Row.free RD x
              have zr := szs (Nat.lt_of_lt_of_le hB4 (Nat.le_trans BY.out.size BD.size))
              have HRD := Lib.hid RD
              have BYD := Lib.hid (BY.out.trans (BD.mono BY.out.size))
              clear RD HR5
              generalize wr.drewN nq = w5 at *
              (refine region_order (fun i : Nat => World.drewN _ i) [2, 3] [0, 1, 4, 5, 6, 7, 8, 9, 10, 11, 12] 13 [14, 15] mixed (by kernel_rfl) ⟨1, rfl⟩ ?_; simp only [List.map_cons, List.map_nil, Array.getD_eq_getD_getElem?, List.getElem?_toArray, List.getElem?_cons_zero, List.getElem?_cons_succ, Option.getD_some]; (repeat (refine wpPure_cons _ rfl (fun w' => by go_simp; try rfl) ?_; dsimp only [Act.put])); refine wpPure_nil ?_; (repeat (any_goals (first | go_big_quiet_step (fail) | quiet_step (fail) | (refine wpQuiet_step (fun K hK => ?_); go_simp; split <;> (refine hK _ ?_; clear hK K))))); (all_goals (refine wpQuiet_nil (fun nq => ?_))))
              go_wp2_with fail
              have BD2 := below_drewN (Below.refl w5.heap.size w5) nq
              have RD2 : NumR (w5.drewN nq) bs (.slice (some ⟨B, 0, none⟩) n cap) n Vr := Row.off (X := fun _ => False) HRD.out (Off.of_below BD2) (fun _ _ h => h)
              have R6 := Lib.hid ((RD2.set (show i < n by omega) (Vr j)).set (show j < n by omega) (Vr i))
              have O6 : Hid (Off (fun k => k = B) w4 (((w5.drewN nq).setCell ⟨B, i, none⟩ (.int .i64 (Vr j))).setCell ⟨B, j, none⟩ (.int .i64 (Vr i)))) := Lib.hid ((((Off.of_below (X := fun k => k = B) BYD.out).trans (Off.of_below (X := fun k => k = B) BD2) (fun _ _ h => h)).setCell (p := ⟨B, i, none⟩) (fun _ => rfl) _).setCell (p := ⟨B, j, none⟩) (fun _ => rfl) _)
              generalize ((w5.drewN nq).setCell ⟨B, i, none⟩ (.int .i64 (Vr j))).setCell ⟨B, j, none⟩ (.int .i64 (Vr i)) = w6 at *
              have C6 := Lib.hid (reverse163 bs B (i + 1) n cap _ w6 R6.out (by omega))
              clear RD2 BD2 ci cj fr
              refine onlyN_intro ?_
              go_wp2_with fail
              refine C6.out.mono ?_
              rintro e w7 ⟨rfl, V9, hT, r9, o9⟩
              go_wp2_with fail
              have hij : i < j := by omega
              have hS : ∀ x, x < n → 0 ≤ upd (upd Vr i (Vr j)) j (Vr i) x ∧ upd (upd Vr i (Vr j)) j (Vr i) x < 16 := fun x hx => by
                by_cases e : x = j
                · subst e; rw [upd_same]; exact HREL.out.2.2 i (by omega)
                · rw [upd_ne e]
                  by_cases e2 : x = i
                  · subst e2; rw [upd_same]; exact HREL.out.2.2 j (by omega)
                  · rw [upd_ne e2]; exact HREL.out.2.2 x hx
              have h9 : ∀ x, x < n → 0 ≤ V9 x ∧ V9 x < 16 := fun x hx => by
                obtain ⟨y, hy, e⟩ := hT.2 x hx
                rw [e]; exact hS y hy
              refine ⟨⟨V9, Lib.hid ⟨E.out.off J4.out (O6.out.trans o9 (fun _ _ h => h)), r9, h9⟩⟩, ?_⟩
              rw [M4.out, rank_congr (fun x hx => rowV_at r9 hx)]
              refine lastN_lt (i := i) (fun x hx => ?_) ?_ (by omega) HREL.out.2.2 h9
              · rw [hT.1 x (by omega), upd_ne (by omega), upd_ne (by omega)]
              · rw [hT.1 i (by omega), upd_ne (by omega), upd_same]; exact hlt
            · have tl : decide (Vr i < Vr j) = false := decide_eq_false hlt
              go_wp2_with fail
              (refine region_all (fun i : Nat => World.drewN _ i) mixed (by kernel_rfl) ⟨1, rfl⟩ ?_; (repeat (any_goals (first | go_big_quiet_step (fail) | quiet_step (fail) | (refine wpQuiet_step (fun K hK => ?_); go_simp; split <;> (refine hK _ ?_; clear hK K))))); (all_goals (refine wpQuiet_nil (fun nq => ?_))))
              go_wp2_with fail
              go_roundw
              case rel => exact ⟨(j : Int) - 1, by go_num, by omega, by omega, Lib.hid (BY.out.trans (below_drewN (Below.refl _ _) nq))⟩
              case measure => simp [intOf]; omega
          · have tij : decide ((i : Int) < y) = false := decide_eq_false hiy
            go_wp2_with fail
            go_roundw
            case rel => exact ⟨(i : Int) - 1, by go_num, by omega, by omega, BY⟩
            case measure => simp [intOf]; omega
      · have tz : decide (0 ≤ z) = false := decide_eq_false hz
        go_wp2_with fail
        go_returns
        exact ⟨rfl, B, hB1, E.out.off J4.out (Off.of_below BZ.out)⟩
end Go.Proofs.YtlnfhlmgnppcbaaGreat
