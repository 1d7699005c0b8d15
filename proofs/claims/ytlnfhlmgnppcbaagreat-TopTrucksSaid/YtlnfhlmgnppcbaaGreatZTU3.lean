/- TopTrucks: the examples are awake. -/
import Derived.Test.YtlnfhlmgnppcbaaGreatZTU2
import Derived.Test.YtlnfhlmgnppcbaaGreatZLC2
import Derived.BigQuiet
import Derived.BigRegion
namespace Go.Proofs.YtlnfhlmgnppcbaaGreat
open Go.RowKit Go.ChangeShapes Go.WideShapes Go.Deep
set_option linter.unusedVariables false
set_option linter.unusedSimpArgs false
set_option maxRecDepth 8000
open Rd
def lwF (a : Option Addr) : Fl := ⟨1, 1, 1, none, 0, 0, fun _ => 0, a, 1, 1, fun _ => 1⟩
def lwL : List Ev := [⟨0, 1, 10, 10, 7, 0, 0, 0, 0⟩, ⟨0, 2, 20, 20, 2, 0, 0, 0, 0⟩]
def lwE : Nat → Ev := fun i => lwL.getD i ⟨0, 0, 0, 0, 0, 0, 0, 0, 0⟩
theorem lw_m15 : movedV (lwF none) lwL 0 15 = (1, 0, 0) := by decide
theorem lw_m20 : movedV (lwF none) lwL 0 20 = (1, 1, 0) := by decide
theorem lw_loads : loadsL (lwF none) lwL 0 = [(0, 0), (10, 1), (20, 0)] := by decide
theorem lw_E : loadsE (lwF none) 0 = 0 := by decide
theorem lw_mv15 (a : Option Addr) : movedV (lwF a) (ents lwE 2) 0 15 = (1, 0, 0) := lw_m15
theorem lw_mv20 (a : Option Addr) : movedV (lwF a) (ents lwE 2) 0 20 = (1, 1, 0) := lw_m20
theorem lw_ld (a : Option Addr) : loadsL (lwF a) (ents lwE 2) 0 = [(0, 0), (10, 1), (20, 0)] := lw_loads
theorem lw_e (a : Option Addr) : loadsE (lwF a) 0 = 0 := lw_E
def lwV : Nat → Int × Int := fun i => [((0 : Int), (0 : Int)), (10, 1), (20, 0)].getD i (0, 0)
theorem lw_car1 : carB 1 3 lwV = true := carB_yes ⟨by decide, rfl, fun i hi => by
  rcases (by omega : i = 0 ∨ i = 1 ∨ i = 2) with rfl | rfl | rfl <;> (unfold lvI lwV; decide)⟩
theorem lw_car0 : carB 0 3 lwV = false := carB_no (fun h => by
  have := (h.2.2 1 (by decide)).2.1
  revert this; unfold lwV; decide)
theorem loads_row {w : World} {base m : Nat} {v : Value} {F : Nat → Int × Int} {L : List (Int × Int)} (h : LvR w base v m F) (e : ents F m = L) : LvR w base v L.length (fun i => L.getD i (0, 0)) := by
  subst e
  rw [ents_len]
  exact Row.congr h (fun i hi => by
    have e : (ents F m).getD i (0, 0) = F i := by rw [List.getD, ents_get hi]; rfl
    simp only [lvf, e])
section
variable (bt be : Nat) (w : World)
theorem lw_in (ht : w.heap[bt]? = some (.cells #[.int .i64 1] 3 (0, 0))) : (lwF (some ⟨bt, 0, none⟩)).In w := ⟨⟨Nat.le_refl _, show (0 : Nat) ≤ 9223372036854775807 by decide, fun _ => ⟨rfl, rfl⟩, fun _ => rfl, fun i hi => absurd hi (Nat.not_lt_zero i)⟩, sl_ofB (n := 1) (s := 1) (f := nf (fun _ => 1)) ht (fun _ => rfl) rfl (by decide)⟩
theorem lw_inN : ∀ e ∈ ents lwE 2, inN e := fun e he => by
  obtain ⟨i, hi, rfl⟩ := mem_ents.1 he
  rcases (by omega : i = 0 ∨ i = 1) with rfl | rfl <;> (intro x hx; revert x; decide)
theorem lw_moved15 (hf : (lwF (some ⟨bt, 0, none⟩)).In w) (hs : EvSl w (some ⟨be, 0, none⟩) 2 2 lwE) :
    Calls Tryz.prog 13 #[.agg #[.int .i64 1, .int .i64 1, .int .i64 1, .slice none 0 0, .slice (some ⟨bt, 0, none⟩) 1 1], .slice (some ⟨be, 0, none⟩) 2 2, .int .i64 0, .int .i64 15] w fun e w' => e = .returned (.tuple #[.int .i64 1, .int .i64 0, .int .i64 0]) ∧ Below w.heap.size w w' := by
  refine (moved13 (lwF (some ⟨bt, 0, none⟩)) (some ⟨be, 0, none⟩) 2 2 lwE 0 15 w hf hs (by decide) lw_inN).mono ?_
  rintro e w' ⟨rfl, bb⟩
  rw [lw_mv15]
  exact ⟨rfl, bb⟩
theorem lw_moved20 (hf : (lwF (some ⟨bt, 0, none⟩)).In w) (hs : EvSl w (some ⟨be, 0, none⟩) 2 2 lwE) :
    Calls Tryz.prog 13 #[.agg #[.int .i64 1, .int .i64 1, .int .i64 1, .slice none 0 0, .slice (some ⟨bt, 0, none⟩) 1 1], .slice (some ⟨be, 0, none⟩) 2 2, .int .i64 0, .int .i64 20] w fun e w' => e = .returned (.tuple #[.int .i64 1, .int .i64 1, .int .i64 0]) ∧ Below w.heap.size w w' := by
  refine (moved13 (lwF (some ⟨bt, 0, none⟩)) (some ⟨be, 0, none⟩) 2 2 lwE 0 20 w hf hs (by decide) lw_inN).mono ?_
  rintro e w' ⟨rfl, bb⟩
  rw [lw_mv20]
  exact ⟨rfl, bb⟩
theorem lw_loads14 (hf : (lwF (some ⟨bt, 0, none⟩)).In w) (hs : EvSl w (some ⟨be, 0, none⟩) 2 2 lwE) :
    Calls Tryz.prog 14 #[.agg #[.int .i64 1, .int .i64 1, .int .i64 1, .slice none 0 0, .slice (some ⟨bt, 0, none⟩) 1 1], .slice (some ⟨be, 0, none⟩) 2 2, .int .i64 0] w fun e w' => ∃ (a : Option Addr) (c : Nat), e = .returned (.tuple #[.slice a 3 c, .int .i64 0]) ∧ Sl w' 2 a 3 c (lvf lwV) ∧ Below w.heap.size w w' := by
  refine (loads14 (lwF (some ⟨bt, 0, none⟩)) (some ⟨be, 0, none⟩) 2 2 lwE 0 w hf hs (by decide) lw_inN).mono ?_
  rintro e w' ⟨bb, ⟨h, _⟩ | ⟨_, v, m, F, rfl, hr, he⟩⟩
  · exact absurd (lw_e _) h
  · rw [lw_ld] at he
    have hr2 := loads_row hr he
    obtain ⟨a, c, rfl, hs⟩ := Row.toSl hr2 (lvf_len _)
    exact ⟨a, c, rfl, hs, bb⟩
end
set_option maxHeartbeats 16000000 in
theorem loadAwake12 (w : World) : Calls Tryz.prog 12 #[] w fun e w' => e = .returned (.bool true) ∧ Below w.heap.size w w' := by
  have XA := Lib.hid (al_keep (al_keep (al_at w (.cells #[.int .i64 1] 3) rfl) (.cells #[.int .i64 1, .int .i64 1, .int .i64 1, .slice none 0 0, .slice (some ⟨w.heap.size, 0, none⟩) 1 1] 24)) (.cells #[.int .i64 0, .int .i64 1, .int .i64 10, .int .i64 10, .int .i64 7, .int .i64 0, .int .i64 0, .int .i64 0, .int .i64 0, .int .i64 0, .int .i64 2, .int .i64 20, .int .i64 20, .int .i64 2, .int .i64 0, .int .i64 0, .int .i64 0, .int .i64 0] 81))
  have XF := Lib.hid (al_keep (al_at (w.alloc (.cells #[.int .i64 1] 3)) (.cells #[.int .i64 1, .int .i64 1, .int .i64 1, .slice none 0 0, .slice (some ⟨w.heap.size, 0, none⟩) 1 1] 24) (k := w.heap.size + 1) (by simp)) (.cells #[.int .i64 0, .int .i64 1, .int .i64 10, .int .i64 10, .int .i64 7, .int .i64 0, .int .i64 0, .int .i64 0, .int .i64 0, .int .i64 0, .int .i64 2, .int .i64 20, .int .i64 20, .int .i64 2, .int .i64 0, .int .i64 0, .int .i64 0, .int .i64 0] 81))
  have XE := Lib.hid (al_at ((w.alloc (.cells #[.int .i64 1] 3)).alloc (.cells #[.int .i64 1, .int .i64 1, .int .i64 1, .slice none 0 0, .slice (some ⟨w.heap.size, 0, none⟩) 1 1] 24)) (.cells #[.int .i64 0, .int .i64 1, .int .i64 10, .int .i64 10, .int .i64 7, .int .i64 0, .int .i64 0, .int .i64 0, .int .i64 0, .int .i64 0, .int .i64 2, .int .i64 20, .int .i64 20, .int .i64 2, .int .i64 0, .int .i64 0, .int .i64 0, .int .i64 0] 81) (k := w.heap.size + 1 + 1) (by simp))
  have BB : Hid (Below w.heap.size w (((w.alloc (.cells #[.int .i64 1] 3)).alloc (.cells #[.int .i64 1, .int .i64 1, .int .i64 1, .slice none 0 0, .slice (some ⟨w.heap.size, 0, none⟩) 1 1] 24)).alloc (.cells #[.int .i64 0, .int .i64 1, .int .i64 10, .int .i64 10, .int .i64 7, .int .i64 0, .int .i64 0, .int .i64 0, .int .i64 0, .int .i64 0, .int .i64 2, .int .i64 20, .int .i64 20, .int .i64 2, .int .i64 0, .int .i64 0, .int .i64 0, .int .i64 0] 81))) := Lib.hid (by (repeat' (first | (with_reducible exact Below.refl _ _) | (with_reducible assumption) | (with_reducible refine Below.drew ?_) | (with_reducible refine below_drewN ?_ _) | (with_reducible refine Below.alloc ?_ ?_ _) | (with_reducible refine Below.setCell ?_ ?_ _) | go_size)))
  obtain ⟨w1, hw1⟩ : ∃ w1, w1 = (((w.alloc (.cells #[.int .i64 1] 3)).alloc (.cells #[.int .i64 1, .int .i64 1, .int .i64 1, .slice none 0 0, .slice (some ⟨w.heap.size, 0, none⟩) 1 1] 24)).alloc (.cells #[.int .i64 0, .int .i64 1, .int .i64 10, .int .i64 10, .int .i64 7, .int .i64 0, .int .i64 0, .int .i64 0, .int .i64 0, .int .i64 0, .int .i64 2, .int .i64 20, .int .i64 20, .int .i64 2, .int .i64 0, .int .i64 0, .int .i64 0, .int .i64 0] 81)) := ⟨_, rfl⟩
  rw [← hw1] at XA XF XE BB
  have HW1 := Lib.hid hw1
  have HF := Lib.hid (lw_in _ _ XA.out)
  have HE : Hid (EvSl w1 (some ⟨w.heap.size + 1 + 1, 0, none⟩) 2 2 lwE) := Lib.hid (sl_ofB (n := 2) (s := 9) (f := fun i => evs (lwE i)) XE.out (fun _ => rfl) rfl (by decide))
  have C1 := Lib.hid (lw_moved15 _ _ w1 HF.out HE.out)
  clear hw1
  go_enter Tryz.func12, Tryz.ntmps12
  go_wp2_with fail
  rw [← HW1.out]
  clear HW1
  refine C1.out.mono ?_
  rintro e w2 ⟨rfl, b2⟩
  have B2 := Lib.hid (BB.out.trans (b2.mono BB.out.size))
  replace XF := Lib.hid ((b2.block _ (block_lt XF.out)).trans XF.out)
  replace HF := Lib.hid (HF.out.below b2)
  replace HE := Lib.hid (HE.out.below b2)
  have C2 := Lib.hid (lw_moved20 _ _ w2 HF.out HE.out)
  clear C1 b2
  have f0 := cell_at XF.out 0
  have f1 := cell_at XF.out 1
  have f2 := cell_at XF.out 2
  have f3 := cell_at XF.out 3
  have f4 := cell_at XF.out 4
  have zf := szs (block_lt XF.out)
  go_wp2_with fail
  refine C2.out.mono ?_
  rintro e w3 ⟨rfl, b3⟩
  have B3 := Lib.hid (B2.out.trans (b3.mono B2.out.size))
  replace XF := Lib.hid ((b3.block _ (block_lt XF.out)).trans XF.out)
  replace HF := Lib.hid (HF.out.below b3)
  replace HE := Lib.hid (HE.out.below b3)
  have C3 := Lib.hid (lw_loads14 _ _ w3 HF.out HE.out)
  clear C2 b3 f0 f1 f2 f3 f4 zf
  have f0 := cell_at XF.out 0
  have f1 := cell_at XF.out 1
  have f2 := cell_at XF.out 2
  have f3 := cell_at XF.out 3
  have f4 := cell_at XF.out 4
  have zf := szs (block_lt XF.out)
  go_wp2_with fail
  refine C3.out.mono ?_
  rintro e w4 ⟨la, lc, rfl, hl, b4⟩
  have B4 := Lib.hid (B3.out.trans (b4.mono B3.out.size))
  have HL := Lib.hid hl
  clear C3 b4 hl f0 f1 f2 f3 f4 zf XF HF HE XA XE BB B2 B3
  go_wp2_with fail
  refine (night33 w4).mono ?_
  rintro e w5 ⟨ea, ta, tc, na, rfl, hg, b5⟩
  have eC : (lnG ea ta tc na).cells = #[.int .i64 3, .slice ea 3 3, .slice ta 1 tc, .slice na 2 2, .int .i64 10] := rfl
  have B5 := Lib.hid (B4.out.trans (b5.mono B4.out.size))
  have HL5 := Lib.hid (HL.out.below b5)
  have b6 : Below w5.heap.size w5 (w5.alloc (.cells #[.int .i64 0, .int .i64 1] 3)) := by (repeat' (first | (with_reducible exact Below.refl _ _) | (with_reducible assumption) | (with_reducible refine Below.drew ?_) | (with_reducible refine below_drewN ?_ _) | (with_reducible refine Below.alloc ?_ ?_ _) | (with_reducible refine Below.setCell ?_ ?_ _) | go_size))
  have XR := heap_alloc_new w5 (.cells #[.int .i64 0, .int .i64 1] 3)
  have B6 := Lib.hid (B5.out.trans (b6.mono B5.out.size))
  have HL6 := Lib.hid (HL5.out.below b6)
  have WK := Lib.hid (walkW17 (lnG ea ta tc na) 0 smR 2 (some ⟨w5.heap.size, 0, none⟩) 2 (w5.alloc (.cells #[.int .i64 0, .int .i64 1] 3)) (hg.below b6) (sl_ofB (n := 2) (s := 1) (f := nf smR) XR (fun _ => rfl) rfl (by decide)) (by decide))
  rw [eC] at WK ⊢
  clear hg b5 b6 XR eC HL HL5 B4 B5
  go_wp2_with fail
  refine WK.out.mono ?_
  rintro e w7 ⟨b7, ⟨h, _⟩ | ⟨_, v, rfl, hv⟩⟩
  · exact absurd (ln_walk _ _ _ _) h
  have B7 := Lib.hid (B6.out.trans (b7.mono B6.out.size))
  have HL7 := Lib.hid (HL6.out.below b7)
  clear B6 HL6 b7 WK
  obtain ⟨va, vc, rfl, sv⟩ := hv.toSl
  have SV := Lib.hid sv
  have hb : backK (lnG ea ta tc na) ((lnG ea ta tc na).T (0 : Int).toNat) smR 2 = 330 := ln_back _ _ _ _
  rw [hb]
  clear hv sv hb
  have hlm := HL7.out.hm
  have hlc := HL7.out.hc
  have hvm := SV.out.hm
  have hvc := SV.out.hc
  have K1 := Lib.hid (carried15 la 3 lc lwV 1 w7 HL7.out)
  rw [lw_car1] at K1
  go_wp2_with fail
  refine K1.out.mono ?_
  rintro e w8 ⟨rfl, b8⟩
  have B8 := Lib.hid (B7.out.trans (b8.mono B7.out.size))
  have HL8 := Lib.hid (HL7.out.below b8)
  have SV8 := Lib.hid (SV.out.below b8)
  clear B7 HL7 SV b8 K1
  have K2 := Lib.hid (carried15 la 3 lc lwV 0 w8 HL8.out)
  rw [lw_car0] at K2
  go_wp2_with fail
  refine K2.out.mono ?_
  rintro e w9 ⟨rfl, b9⟩
  have B9 := Lib.hid (B8.out.trans (b9.mono B8.out.size))
  obtain ⟨g, o, rfl, hg, v0, v1, v2, v3⟩ := (SV8.out.below b9).vi (show 1 < 2 by decide)
  rw [ln_vis1] at v3
  have zg := szs hg
  have hno := hlm
  clear B8 HL8 SV8 b9 K2
  go_wp2_with fail
  go_returns
  exact ⟨rfl, B9.out⟩
end Go.Proofs.YtlnfhlmgnppcbaaGreat
