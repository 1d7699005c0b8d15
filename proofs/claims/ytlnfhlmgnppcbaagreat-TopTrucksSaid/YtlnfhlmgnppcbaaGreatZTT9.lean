/- The plan of a night: routes that can be driven. -/
import Derived.Test.YtlnfhlmgnppcbaaGreatZTT7
import Derived.Test.YtlnfhlmgnppcbaaGreatZTT8
import Derived.BigQuiet
import Derived.BigRegion
namespace Go.Proofs.YtlnfhlmgnppcbaaGreat
open Go.RowKit Go.ChangeShapes Go.WideShapes Go.Deep
set_option linter.unusedVariables false
set_option linter.unusedSimpArgs false
open Rd
structure Rt where
  r : Int
  a : Option Addr
  n : Nat
  c : Nat
  R : Nat → Int
def rtf (F : Nat → Rt) : Nat → List Value := fun i => [.int .i64 (F i).r, .slice (F i).a (F i).n (F i).c]
theorem rtf_len (F : Nat → Rt) (i : Nat) : (rtf F i).length = 2 := rfl
theorem infoRt51 : (Tryz.prog.info? 51).map (fun i => (i.zero, i.size, i.bytes)) = some (some (.agg #[.int .i64 0, .slice none 0 0]), 2, 32) := by kernel_rfl
theorem wpList_append_Rt {ops : Array Oper} {rest : List Oper} {o : Oper} {a : Act} {Q : Exit → Act → World → Prop} (w : World) (hgd : o.guard = none) (x1 x2 : Operand) (ho : o.op = .call { callee := .builtin .append, args := #[x1, x2], argTypes := #[35, 35] })
    (base : Nat) (v : Value) (n : Nat) (F : Nat → Rt) (hs : a.eval x1 = v) (h1 : Row w base 51 2 v n (rtf F)) (b1 : Nat) (x : Rt) (hx : a.eval x2 = .slice (some ⟨b1, 0, none⟩) 1 1) (ob : TypeId) (fz : Nat × Nat) (hb1 : w.heap[b1]? = some (.cells #[.int .i64 x.r, .slice x.a x.n x.c] ob fz)) (hn : n ≤ 1000000) (hb : base ≤ w.heap.size)
    (h : ∀ g cap w', n + 1 ≤ cap → cap ≤ 9223372036854775807 → g < w'.heap.size → (v.ownBlock = some g ∨ w.heap.size ≤ g) → Row w' base 51 2 (.slice (some ⟨g, 0, none⟩) (n + 1) cap) (n + 1) (rtf (upd F n x)) → Off (fun i => v.ownBlock = some i) w w' → wpList Tryz.prog ops Q rest (a.put o.dst (.slice (some ⟨g, 0, none⟩) (n + 1) cap)) w') : wpList Tryz.prog ops Q (o :: rest) a w := by
  obtain ⟨i0, hi, hz0, hz1, hz2⟩ := info_parts infoRt51
  refine wpList_append_row w hgd x1 x2 35 ho base 51 i0 _ 2 32 Tryz.underlying35 hi hz0 hz1 hz2 rfl (by decide) v n _ hs h1 (rtf_len F) b1 1 [.int .i64 x.r, .slice x.a x.n x.c] hx rfl ob fz hb1 (fun u hu => by
    simp only [List.mem_cons, List.not_mem_nil, or_false] at hu
    rcases hu with rfl | rfl <;> rfl) (by omega) (by unfold maxLen; omega) hb ?_
  intro g cap w' k1 k2 k3 k4 k5 r b
  refine h g cap w' k1 k2 k4 k5 (Row.congr r (fun i hi => ?_)) ((Off.of_grown b).mono (fun i _ hh => by first | exact hh | exact hh.symm))
  unfold rtf upd
  split <;> rfl
structure MkIs (g : Ng) (base : Nat) (w : World) (rv lv : Value) (q m : Nat) (F : Nat → Rt) (V : Nat → Int) : Prop where
  rts : Row w base 51 2 rv q (rtf F)
  left : NumR w base lv m V
  sep : ∀ k, rv.ownBlock = some k → lv.ownBlock = some k → False
  ok : ∀ i, i < q → Sl w 1 (F i).a (F i).n (F i).c (nf (F i).R) ∧ walkE g (F i).r (F i).R (F i).n = 0 ∧ (∀ gb, (F i).a = some gb → base ≤ gb.block ∧ gb.block < w.heap.size ∧ rv.ownBlock ≠ some gb.block ∧ lv.ownBlock ≠ some gb.block)
theorem MkIs.below {g : Ng} {base : Nat} {w w' : World} {rv lv : Value} {q m : Nat} {F : Nat → Rt} {V : Nat → Int} (h : MkIs g base w rv lv q m F V) (hb : Below w.heap.size w w') : MkIs g base w' rv lv q m F V :=
  ⟨Row.off (X := fun _ => False) h.rts (Off.of_below hb) (fun _ _ h => h), Row.off (X := fun _ => False) h.left (Off.of_below hb) (fun _ _ h => h), h.sep, fun i hi => ⟨(h.ok i hi).1.below hb, (h.ok i hi).2.1, fun gb e => ⟨((h.ok i hi).2.2 gb e).1, Nat.lt_of_lt_of_le ((h.ok i hi).2.2 gb e).2.1 hb.size, ((h.ok i hi).2.2 gb e).2.2⟩⟩⟩
theorem MkIs.offP {g : Ng} {base P : Nat} {w w' : World} {rv lv : Value} {q m : Nat} {F : Nat → Rt} {V : Nat → Int} (h : MkIs g base w rv lv q m F V) (hP : P < base) (ho : Off (fun b => b = P) w w') : MkIs g base w' rv lv q m F V :=
  ⟨Row.off h.rts ho (fun b hb e => by have := World.ownsRow.lt h.rts b hb; have e : b = P := e; omega), Row.off h.left ho (fun b hb e => by have := World.ownsRow.lt h.left b hb; have e : b = P := e; omega), h.sep,
    fun i hi => ⟨(h.ok i hi).1.off ho (fun gb eg e => by have := ((h.ok i hi).2.2 gb eg).1; have e : gb.block = P := e; omega), (h.ok i hi).2.1, fun gb e => ⟨((h.ok i hi).2.2 gb e).1, Nat.lt_of_lt_of_le ((h.ok i hi).2.2 gb e).2.1 ho.size, ((h.ok i hi).2.2 gb e).2.2⟩⟩⟩
theorem MkIs.add {g : Ng} {base : Nat} {w w' : World} {rv lv : Value} {q m : Nat} {F : Nat → Rt} {V : Nat → Int} (h : MkIs g base w rv lv q m F V) (x : Rt) {g2 cap : Nat} (hr : Row w' base 51 2 (.slice (some ⟨g2, 0, none⟩) (q + 1) cap) (q + 1) (rtf (upd F q x))) (ho : Off (fun i => rv.ownBlock = some i) w w') (hg : rv.ownBlock = some g2 ∨ w.heap.size ≤ g2)
    (hs : Sl w 1 x.a x.n x.c (nf x.R)) (hw : walkE g x.r x.R x.n = 0) (hb : ∀ gb, x.a = some gb → base ≤ gb.block ∧ gb.block < w.heap.size ∧ rv.ownBlock ≠ some gb.block ∧ lv.ownBlock ≠ some gb.block) : MkIs g base w' (.slice (some ⟨g2, 0, none⟩) (q + 1) cap) lv (q + 1) m (upd F q x) V where
  rts := hr
  left := Row.off h.left ho (fun b hb e => h.sep b e hb)
  sep k h1 h2 := by
    have h1 : some g2 = some k := h1
    cases h1
    rcases hg with hg | hg
    · exact h.sep _ hg h2
    · have := World.ownsRow.lt h.left _ h2; omega
  ok i hi := by
    have key : ∀ y : Rt, Sl w 1 y.a y.n y.c (nf y.R) → walkE g y.r y.R y.n = 0 → (∀ gb, y.a = some gb → base ≤ gb.block ∧ gb.block < w.heap.size ∧ rv.ownBlock ≠ some gb.block ∧ lv.ownBlock ≠ some gb.block) →
        Sl w' 1 y.a y.n y.c (nf y.R) ∧ walkE g y.r y.R y.n = 0 ∧ ∀ gb, y.a = some gb → base ≤ gb.block ∧ gb.block < w'.heap.size ∧ (Value.slice (some ⟨g2, 0, none⟩) (q + 1) cap).ownBlock ≠ some gb.block ∧ lv.ownBlock ≠ some gb.block := fun y h1 h2 h3 =>
      ⟨h1.off ho (fun gb e hx => (h3 gb e).2.2.1 hx), h2, fun gb e => ⟨(h3 gb e).1, Nat.lt_of_lt_of_le (h3 gb e).2.1 ho.size, fun he => by
        have he : some g2 = some gb.block := he
        have he := Option.some.inj he
        rcases hg with hg | hg
        · exact (h3 gb e).2.2.1 (by rw [hg, he])
        · have := (h3 gb e).2.1; omega, (h3 gb e).2.2.2⟩⟩
    by_cases e : i = q
    · subst e; rw [upd_same]; exact key x hs hw hb
    · rw [upd_ne e]; exact key (F i) (h.ok i (by omega)).1 (h.ok i (by omega)).2.1 (h.ok i (by omega)).2.2
theorem MkIs.del {g : Ng} {base : Nat} {w w' : World} {rv lv lv' : Value} {q m m' : Nat} {F : Nat → Rt} {V V' : Nat → Int} (h : MkIs g base w rv lv q m F V) (hl : NumR w' base lv' m' V') (he : lv'.ownBlock = lv.ownBlock) (ho : Off (fun i => lv.ownBlock = some i) w w') : MkIs g base w' rv lv' q m' F V' where
  rts := Row.off h.rts ho (fun b hb e => h.sep b hb e)
  left := hl
  sep k h1 h2 := h.sep k h1 (by rw [← he]; exact h2)
  ok i hi := ⟨(h.ok i hi).1.off ho (fun gb e hx => ((h.ok i hi).2.2 gb e).2.2.2 hx), (h.ok i hi).2.1, fun gb e => ⟨((h.ok i hi).2.2 gb e).1, Nat.lt_of_lt_of_le ((h.ok i hi).2.2 gb e).2.1 ho.size, ((h.ok i hi).2.2 gb e).2.2.1, by rw [he]; exact ((h.ok i hi).2.2 gb e).2.2.2⟩⟩
def MakeW (g : Ng) (w : World) (e : Ending) (w' : World) : Prop :=
  Below w.heap.size w w' ∧ ((∃ x : Int, x ≠ 0 ∧ e = .returned (.tuple #[.agg #[.slice none 0 0, .slice none 0 0], .int .i64 x])) ∨
    ∃ (ra : Option Addr) (q rc : Nat) (la : Option Addr) (m lc : Nat) (F : Nat → Rt), e = .returned (.tuple #[.agg #[.slice ra q rc, .slice la m lc], .int .i64 0]) ∧ Sl w' 2 ra q rc (rtf F) ∧ ∀ i, i < q → Sl w' 1 (F i).a (F i).n (F i).c (nf (F i).R) ∧ walkE g (F i).r (F i).R (F i).n = 0)
theorem off_setCell (w : World) (b o : Nat) (v : Value) : Off (fun k => k = b) w (w.setCell ⟨b, o, none⟩ v) := off_putCells (X := fun k => k = b) rfl [v] o w (Off.refl _ _)
set_option maxRecDepth 8000 in
set_option maxHeartbeats 16000000 in
theorem make16 (g : Ng) (w : World) (hg : g.In w) (hnn : g.nn ≤ 6) :
    Calls Tryz.prog 16 #[.agg g.cells] w (MakeW g w) := by
  have BB : Hid (Below w.heap.size w ((w.alloc (.cells g.cells 32)).alloc (.cells #[.slice none 0 0, .slice none 0 0] 37))) := Lib.hid (by (repeat' (first | (with_reducible exact Below.refl _ _) | (with_reducible assumption) | (with_reducible refine Below.drew ?_) | (with_reducible refine below_drewN ?_ _) | (with_reducible refine Below.alloc ?_ ?_ _) | (with_reducible refine Below.setCell ?_ ?_ _) | go_size)))
  have XN := Lib.hid (al_keep (al_at w (.cells g.cells 32) rfl) (.cells #[.slice none 0 0, .slice none 0 0] 37))
  have XR := Lib.hid (al_at (w.alloc (.cells g.cells 32)) (.cells #[.slice none 0 0, .slice none 0 0] 37) (k := w.heap.size + 1) (by simp))
  obtain ⟨w1, hw1⟩ : ∃ w1, w1 = (w.alloc (.cells g.cells 32)).alloc (.cells #[.slice none 0 0, .slice none 0 0] 37) := ⟨_, rfl⟩
  rw [← hw1] at BB XN XR
  have HW1 := Lib.hid hw1
  have CK := Lib.hid (check41 g w1 (hg.below BB.out))
  have HCC : Hid (g.cells = #[.int .i64 g.N, .slice g.ea g.em g.ec, .slice g.ta g.tn g.tc, .slice g.na g.nn g.nc, .int .i64 g.h]) := Lib.hid rfl
  have HG := Lib.hid hg
  have hndl := hg.needs.hm
  have hndc := hg.needs.hc
  have htkl := hg.trucks.hm
  have htkc := hg.trucks.hc
  rw [HCC.out] at CK HW1 XN ⊢
  obtain ⟨x, hx⟩ : ∃ x, x = nightE g := ⟨_, rfl⟩
  rw [← hx] at CK
  have HX := Lib.hid hx
  clear hw1 hg hx
  go_enter Tryz.func16, Tryz.ntmps16
  go_wp2_with fail
  rw [← HW1.out]
  have x0 := cell_at XN.out 0
  have x1 := cell_at XN.out 1
  have x2 := cell_at XN.out 2
  have x3 := cell_at XN.out 3
  have x4 := cell_at XN.out 4
  have zx := szs (block_lt XN.out)
  go_wp2_with fail
  refine CK.out.mono ?_
  rintro e w2 ⟨rfl, b2⟩
  have B2 := Lib.hid (BB.out.trans (b2.mono BB.out.size))
  have XN2 := Lib.hid ((b2.block _ (block_lt XN.out)).trans XN.out)
  have XR2 := Lib.hid ((b2.block _ (block_lt XR.out)).trans XR.out)
  clear x0 x1 x2 x3 x4 zx CK b2 XN XR HW1
  by_cases hx0 : x = 0
  · subst hx0
    have htn8 : g.tn ≤ 8 := by
      obtain ⟨n, hn, _⟩ := nok_of HX.out.symm
      exact hn.tn
    have B3a : Below w2.heap.size w2 (w2.alloc (.cells #[.slice none 0 0, .slice none 0 0] 37)) := by (repeat' (first | (with_reducible exact Below.refl _ _) | (with_reducible assumption) | (with_reducible refine Below.drew ?_) | (with_reducible refine below_drewN ?_ _) | (with_reducible refine Below.alloc ?_ ?_ _) | (with_reducible refine Below.setCell ?_ ?_ _) | go_size))
    have B3 := Lib.hid (B2.out.trans (B3a.mono B2.out.size))
    have XP := Lib.hid (heap_alloc_new w2 (.cells #[.slice none 0 0, .slice none 0 0] 37))
    have XN3 := Lib.hid (al_keep XN2.out (.cells #[.slice none 0 0, .slice none 0 0] 37))
    have XR3 := Lib.hid (al_keep XR2.out (.cells #[.slice none 0 0, .slice none 0 0] 37))
    have HP1 : Hid (w.heap.size + 1 < w2.heap.size) := Lib.hid (block_lt XR2.out)
    have n2 := cell_at XN2.out 3
    have zn := szs (block_lt XN2.out)
    clear B3a
    go_wp2_with fail
    obtain ⟨wb, hwb⟩ : ∃ wb, wb = w2.alloc (.cells #[.slice none 0 0, .slice none 0 0] 37) := ⟨_, rfl⟩
    rw [← hwb] at B3 XP XN3 XR3 ⊢
    have HBS : Hid (wb.heap.size = w2.heap.size + 1) := Lib.hid (by rw [hwb]; simp)
    clear hwb n2 zn
    go_loopw [19] (fun s19 wr => ∃ (k : Nat) (la : Option Addr) (lc : Nat) (V : Nat → Int), s19 = .int .i64 k ∧ k ≤ g.nn ∧ Hid (wr.heap[w2.heap.size]? = some (.cells #[.slice none 0 0, .slice la k lc] 37 (0, 0))) ∧ Hid (NumR wr wb.heap.size (.slice la k lc) k V) ∧ Hid (Off (fun q => q = w2.heap.size) wb wr)) (fun s19 _ => g.nn - (intOf s19).toNat)
    case atStart => exact ⟨0, none, 0, fun _ => 0, rfl, by omega, XP, Lib.hid ⟨rfl, .inl ⟨rfl, rfl⟩⟩, Lib.hid (Off.refl _ _)⟩
    case round =>
      obtain ⟨k, la, lc, V, rfl, hk, hP, hV, hO⟩ := hrel
      have XPk := hP
      have HV := hV
      have HO := hO
      clear hP hV hO XP
      by_cases hlt : k < g.nn
      · have tk : (k : Int) < (g.nn : Int) := by omega
        have tk2 : decide ((k : Int) < (g.nn : Int)) = true := decide_eq_true tk
        have p0 := cell_at XPk.out 0
        have p1 := cell_at XPk.out 1
        have pf := fun j => free_at XPk.out j
        have zp := szs (block_lt XPk.out)
        have ba : Below wr.heap.size wr (wr.alloc (.cells #[.int .i64 (k : Int)] 3)) := by (repeat' (first | (with_reducible exact Below.refl _ _) | (with_reducible assumption) | (with_reducible refine Below.drew ?_) | (with_reducible refine below_drewN ?_ _) | (with_reducible refine Below.alloc ?_ ?_ _) | (with_reducible refine Below.setCell ?_ ?_ _) | go_size))
        have XB := Lib.hid (heap_alloc_new wr (.cells #[.int .i64 (k : Int)] 3))
        have RA : Hid (IntRow (wr.alloc (.cells #[.int .i64 (k : Int)] 3)) wb.heap.size (.slice la k lc) k V) := Lib.hid (Row.off (X := fun _ => False) HV.out (Off.of_below ba) (fun _ _ h => h))
        have OA := Lib.hid (HO.out.trans (Off.of_below (X := fun q => q = w2.heap.size) ba) (fun _ _ h => h))
        have XPa := Lib.hid ((ba.block _ (block_lt XPk.out)).trans XPk.out)
        clear ba
        go_wp2_with (at_builtin; go_loud (refine wpList_append_I _ rfl (.tmp 23) (.tmp 25) rfl wb.heap.size _ k V rfl RA.out wr.heap.size (k : Int) rfl 3 (0, 0) XB.out (by omega) OA.out.size ?_))
        intro g2 cap w4 k1 k2 k3 k4 r4 o4
        have hq := fun q (h : (Value.slice la k lc).ownBlock = some q) => (World.ownsRow.lt RA.out q h).1
        have XP4 := Lib.hid ((o4.block _ (block_lt XPa.out) (fun h => by have := hq _ h; have := HBS.out; omega)).trans XPa.out)
        have O4 := Lib.hid (OA.out.trans o4 (fun i hi h => by have := hq _ h; omega))
        have R4 := Lib.hid r4
        clear p0 p1 pf zp hq r4 o4 k4 OA XPa RA XB HO HV XPk
        have p0 := cell_at XP4.out 0
        have p1 := cell_at XP4.out 1
        have pf := fun j => free_at XP4.out j
        have zp := szs (block_lt XP4.out)
        go_wp2_with fail
        go_roundw
        case rel =>
          refine ⟨k + 1, some ⟨g2, 0, none⟩, cap, upd V k k, by go_num, by omega, Lib.hid ?_, Lib.hid ?_, Lib.hid ?_⟩
          · rw [setCell_at XP4.out]; exact setAt_same (block_lt XP4.out)
          · exact Row.off R4.out (off_setCell w4 w2.heap.size _ _) (fun b hb e => by have := (World.ownsRow.lt R4.out b hb).1; have e : b = w2.heap.size := e; have := HBS.out; omega)
          · exact O4.out.trans (off_setCell w4 w2.heap.size _ _) (fun _ _ h => h)
        case measure => simp [intOf]; omega
      · obtain rfl : k = g.nn := by omega
        obtain ⟨wc, hwc⟩ : ∃ wc, wc = wr := ⟨_, rfl⟩
        rw [← hwc] at XPk HV HO
        have XNc := Lib.hid ((HO.out.block _ (block_lt XN3.out) (by have := HP1.out; omega)).trans XN3.out)
        have n2 := cell_at XNc.out 2
        have zn := szs (block_lt XNc.out)
        rw [hwc] at n2 zn
        have HWC := Lib.hid hwc
        clear hwc
        go_wp2_with fail
        rw [← HWC.out]
        clear n2 zn HWC
        go_loopw [32] (fun s32 wr => ∃ (j : Nat) (ra : Option Addr) (q rc : Nat) (la : Option Addr) (m lc : Nat) (F : Nat → Rt) (V : Nat → Int), s32 = .int .i64 j ∧ j ≤ g.tn ∧ q ≤ j ∧ m ≤ g.nn ∧ Hid (wr.heap[w2.heap.size]? = some (.cells #[.slice ra q rc, .slice la m lc] 37 (0, 0))) ∧ Hid (MkIs g wb.heap.size wr (.slice ra q rc) (.slice la m lc) q m F V) ∧ Hid (Off (fun q => q = w2.heap.size) wb wr)) (fun s32 _ => g.tn - (intOf s32).toNat)
        case atStart => exact ⟨0, none, 0, 0, la, g.nn, lc, fun _ => ⟨0, none, 0, 0, fun _ => 0⟩, V, rfl, by omega, by omega, by omega, XPk, Lib.hid ⟨⟨rfl, .inl ⟨rfl, rfl⟩⟩, HV.out, fun k h => (by cases h), fun i hi => absurd hi (by omega)⟩, HO⟩
        case round =>
          clear XPk HV HO XNc
          obtain ⟨j, ra, q, rc, la, m, lc, F, V, rfl, hj, hq, hm, hP, hM, hO⟩ := hrel
          have XPj := hP
          have HM := hM
          have HO := hO
          clear hP hM hO
          have XNj := Lib.hid ((HO.out.block _ (block_lt XN3.out) (by have := HP1.out; omega)).trans XN3.out)
          have XRj := Lib.hid ((HO.out.block _ (block_lt XR3.out) (by have := HP1.out; omega)).trans XR3.out)
          have BJ := Lib.hid (B3.out.trans ((HO.out.toBelow B3.out.size (fun q hq h => by have h : q = w2.heap.size := h; have := HP1.out; omega))))
          by_cases hlt : j < g.tn
          · have tj : (j : Int) < (g.tn : Int) := by omega
            have tj2 : decide ((j : Int) < (g.tn : Int)) = true := decide_eq_true tj
            have tm : (m : Int) ≤ 6 := by omega
            have tm2 : decide ((m : Int) ≤ 6) = true := decide_eq_true tm
            have x0 := cell_at XNj.out 0
            have x1 := cell_at XNj.out 1
            have x2 := cell_at XNj.out 2
            have x3 := cell_at XNj.out 3
            have x4 := cell_at XNj.out 4
            have zx := szs (block_lt XNj.out)
            have p0 := cell_at XPj.out 0
            have p1 := cell_at XPj.out 1
            have zp := szs (block_lt XPj.out)
            have c3 : Below wr.heap.size wr (wr.alloc (.cells #[.int .i64 g.N, .slice g.ea g.em g.ec, .slice g.ta g.tn g.tc, .slice g.na g.nn g.nc, .int .i64 g.h, .func (.func 43) #[.pointer (some ⟨wr.heap.size, 0, none⟩)] #[]] 97)) := by (repeat' (first | (with_reducible exact Below.refl _ _) | (with_reducible assumption) | (with_reducible refine Below.drew ?_) | (with_reducible refine below_drewN ?_ _) | (with_reducible refine Below.alloc ?_ ?_ _) | (with_reducible refine Below.setCell ?_ ?_ _) | go_size))
            have X3 := Lib.hid (heap_alloc_new wr (.cells #[.int .i64 g.N, .slice g.ea g.em g.ec, .slice g.ta g.tn g.tc, .slice g.na g.nn g.nc, .int .i64 g.h, .func (.func 43) #[.pointer (some ⟨wr.heap.size, 0, none⟩)] #[]] 97))
            go_wp2_with fail
            obtain ⟨w3, hw3⟩ : ∃ w3, w3 = wr.alloc (.cells #[.int .i64 g.N, .slice g.ea g.em g.ec, .slice g.ta g.tn g.tc, .slice g.na g.nn g.nc, .int .i64 g.h, .func (.func 43) #[.pointer (some ⟨wr.heap.size, 0, none⟩)] #[]] 97) := ⟨_, rfl⟩
            rw [← hw3] at c3 X3 ⊢
            clear hw3 x0 x1 x2 x3 x4 zx p0 p1 zp
            have C3 := Lib.hid c3
            have M3 := Lib.hid (HM.out.below c3)
            clear c3
            obtain ⟨la', lc', el, hsl⟩ := Row.toSl M3.out.left (nf_len V)
            cases el
            refine (exact43 g j V m la lc wr.heap.size (.func (.func 43) #[.pointer (some ⟨wr.heap.size, 0, none⟩)] #[]) w3 (HG.out.below (BJ.out.trans (C3.out.mono BJ.out.size))) hsl (by omega) (by omega) X3.out).mono ?_
            rintro e w4 ⟨b4, a, n, c, R, rfl, hs4, hlo, hwk⟩
            have B4 := Lib.hid b4
            have M4 := Lib.hid (M3.out.below b4)
            have C4 := Lib.hid (C3.out.trans (b4.mono C3.out.size))
            have HS4 := Lib.hid hs4
            have HLO := Lib.hid hlo
            have HWK := Lib.hid hwk
            have XP4 := Lib.hid ((C4.out.block _ (block_lt XPj.out)).trans XPj.out)
            have O4 := Lib.hid (HO.out.trans (Off.of_below (X := fun q => q = w2.heap.size) C4.out) (fun _ _ h => h))
            have c5 : Below w4.heap.size w4 (w4.alloc (.cells #[.int .i64 (j : Int), .slice a n c] 51)) := by (repeat' (first | (with_reducible exact Below.refl _ _) | (with_reducible assumption) | (with_reducible refine Below.drew ?_) | (with_reducible refine below_drewN ?_ _) | (with_reducible refine Below.alloc ?_ ?_ _) | (with_reducible refine Below.setCell ?_ ?_ _) | go_size))
            have X5 := Lib.hid (heap_alloc_new w4 (.cells #[.int .i64 (j : Int), .slice a n c] 51))
            have XP5 := Lib.hid ((c5.block _ (block_lt XP4.out)).trans XP4.out)
            have M5 := Lib.hid (M4.out.below c5)
            have O5 := Lib.hid (O4.out.trans (Off.of_below (X := fun q => q = w2.heap.size) c5) (fun _ _ h => h))
            have HS5 := Lib.hid (HS4.out.below c5)
            have hnm := hs4.hm
            have hnc := hs4.hc
            clear b4 hs4 hlo hwk c5 hsl
            by_cases hn0 : n = 0
            · subst hn0
              go_wp2_with fail
              go_roundw
              case rel => exact ⟨j + 1, ra, q, rc, la, m, lc, F, V, by go_num, by omega, by omega, by omega, XP5, M5, O5⟩
              case measure => simp [intOf]; omega
            · have tn0 : (0 : Int) < (n : Int) := by omega
              have tn1 : decide ((0 : Int) < (n : Int)) = true := decide_eq_true tn0
              have p0 := cell_at XP4.out 0
              have p1 := cell_at XP4.out 1
              have pf := fun j => free_at XP4.out j
              have zp := szs (block_lt XP4.out)
              have c6 : Below (w4.alloc (.cells #[.int .i64 (j : Int), .slice a n c] 51)).heap.size (w4.alloc (.cells #[.int .i64 (j : Int), .slice a n c] 51)) ((w4.alloc (.cells #[.int .i64 (j : Int), .slice a n c] 51)).alloc (.cells #[.int .i64 (j : Int), .slice a n c] 51)) := by (repeat' (first | (with_reducible exact Below.refl _ _) | (with_reducible assumption) | (with_reducible refine Below.drew ?_) | (with_reducible refine below_drewN ?_ _) | (with_reducible refine Below.alloc ?_ ?_ _) | (with_reducible refine Below.setCell ?_ ?_ _) | go_size))
              have X6 := Lib.hid (heap_alloc_new (w4.alloc (.cells #[.int .i64 (j : Int), .slice a n c] 51)) (.cells #[.int .i64 (j : Int), .slice a n c] 51))
              have X56 := Lib.hid ((c6.block _ (block_lt X5.out)).trans X5.out)
              have XP6 := Lib.hid ((c6.block _ (block_lt XP5.out)).trans XP5.out)
              have M6 := Lib.hid (M5.out.below c6)
              have O6 := Lib.hid (O5.out.trans (Off.of_below (X := fun q => q = w2.heap.size) c6) (fun _ _ h => h))
              have HS6 := Lib.hid (HS5.out.below c6)
              have HS0 : Hid (w4.heap.size + 1 = (w4.alloc (.cells #[.int .i64 (j : Int), .slice a n c] 51)).heap.size) := Lib.hid (by simp)
              clear c6
              go_wp2_with (at_builtin; go_loud (refine wpList_append_Rt _ rfl (.tmp 56) (.tmp 58) rfl wb.heap.size _ q F rfl M6.out.rts (w4.heap.size + 1) ⟨j, a, n, c, R⟩ rfl 51 (0, 0) (by have h := X6.out; rw [← HS0.out] at h; exact h) (by omega) O6.out.size ?_))
              intro g7 cap7 w7 k1 k2 k3 k4 r7 o7
              have hbr : wb.heap.size ≤ wr.heap.size := HO.out.size
              have hr3 : wr.heap.size ≤ w3.heap.size := C3.out.size
              have hr4 : wr.heap.size ≤ w4.heap.size := C4.out.size
              have hPb := HBS.out
              have q1 := fun b (h : (Value.slice ra q rc).ownBlock = some b) => World.ownsRow.lt HM.out.rts b h
              have q2 := fun b (h : (Value.slice la m lc).ownBlock = some b) => World.ownsRow.lt HM.out.left b h
              have M7 := Lib.hid (M6.out.add ⟨j, a, n, c, R⟩ r7 o7 (by simpa using k4) HS6.out (HWK.out (by omega)) (fun gb e => by
                have e : a = some gb := e
                have h1 := HLO.out gb e
                obtain ⟨g9, o9, e9, h9, _⟩ := HS6.out.num (show 0 < n by omega)
                rw [e] at e9; cases e9
                exact ⟨by omega, h9, fun h => by have := q1 _ h; dsimp only at this h1; omega, fun h => by have := q2 _ h; dsimp only at this h1; omega⟩))
              have XP7 := Lib.hid ((o7.block _ (block_lt XP6.out) (fun h => by have := q1 _ h; omega)).trans XP6.out)
              have X57 := Lib.hid ((o7.block _ (block_lt X56.out) (fun h => by have := q1 _ h; omega)).trans X56.out)
              have O7 := Lib.hid (O6.out.trans o7 (fun i hi h => by have := q1 _ h; omega))
              have HS7 := Lib.hid (HS6.out.off o7 (fun gb e h => by have := q1 _ h; have := HLO.out gb e; omega))
              have o8 := off_setAt (w := w7) (b := w2.heap.size) (o := .cells #[.slice (some ⟨g7, 0, none⟩) (q + 1) cap7, .slice la m lc] 37)
              have M8 := Lib.hid (M7.out.offP (P := w2.heap.size) (by omega) o8)
              have XP8 := Lib.hid (setAt_same (w := w7) (o := .cells #[.slice (some ⟨g7, 0, none⟩) (q + 1) cap7, .slice la m lc] 37) (block_lt XP7.out))
              have X58 := Lib.hid ((o8.block _ (block_lt X57.out) (fun h => by have h : w4.heap.size = w2.heap.size := h; omega)).trans X57.out)
              have O8 := Lib.hid (O7.out.trans o8 (fun _ _ h => h))
              have HS8 := Lib.hid (HS7.out.off o8 (fun gb e h => by have h : gb.block = w2.heap.size := h; have := HLO.out gb e; omega))
              have HW8 := Lib.hid (setCell_at XP7.out (i := 0) (v := .slice (some ⟨g7, 0, none⟩) (q + 1) cap7))
              have HLW : Hid (∀ b, (Value.slice la m lc).ownBlock = some b → b < w4.heap.size ∧ ∀ gb, a = some gb → gb.block ≠ b) := Lib.hid (fun b h => by have := q2 b h; exact ⟨by omega, fun gb e => by have := HLO.out gb e; omega⟩)
              clear p0 p1 pf zp k3 k4 r7 o7 o8 M6 X6 X56 XP6 O6 HS6 HS0 q1 q2
              have p0 := cell_at XP7.out 0
              have p1 := cell_at XP7.out 1
              have pf := fun j => free_at XP7.out j
              have zp := szs (block_lt XP7.out)
              go_wp2_with fail
              rw [HW8.out]
              obtain ⟨w8, hw8⟩ : ∃ w8, w8 = setAt w7 w2.heap.size (.cells #[.slice (some ⟨g7, 0, none⟩) (q + 1) cap7, .slice la m lc] 37) := ⟨_, rfl⟩
              have e8 : ∀ (v1 v2 : Value), (#[.slice ra q rc, v2] : Array Value).setIfInBounds 0 v1 = #[v1, v2] := fun _ _ => rfl
              rw [e8]
              rw [← hw8] at M8 XP8 X58 O8 HS8 ⊢
              clear hw8 e8 HW8 p0 p1 pf zp M7 XP7 X57 O7 HS7
              refine (delete44 wb.heap.size w4.heap.size (.slice la m lc) m V w8 M8.out.left (by omega) ⟨_, a, n, c, R, X58.out, HS8.out, by
                obtain ⟨z, hz⟩ := wok_of (HWK.out (by omega))
                have := hz.ro.k16; omega⟩ (fun w' ho => ⟨_, a, n, c, R, (ho.block _ (block_lt X58.out) (fun h => by have := (HLW.out _ h).1; omega)).trans X58.out, HS8.out.off ho (fun gb e h => (HLW.out _ h).2 gb e rfl), by
                obtain ⟨z, hz⟩ := wok_of (HWK.out (by omega))
                have := hz.ro.k16; omega⟩)).mono ?_
              rintro e w9 ⟨v9, m9, V9, rfl, hm9, hN9, hown, ho9⟩
              obtain ⟨la9, lc9, rfl, _⟩ := Row.toSl hN9 (nf_len V9)
              have q2 := fun b (h : (Value.slice la m lc).ownBlock = some b) => World.ownsRow.lt M8.out.left b h
              have M9 := Lib.hid (M8.out.del hN9 hown ho9)
              have XP9 := Lib.hid ((ho9.block _ (block_lt XP8.out) (fun h => by have := q2 _ h; omega)).trans XP8.out)
              have O9 := Lib.hid (O8.out.trans ho9 (fun i hi h => by have := q2 _ h; omega))
              have oA := off_setAt (w := w9) (b := w2.heap.size) (o := .cells #[.slice (some ⟨g7, 0, none⟩) (q + 1) cap7, .slice la9 m9 lc9] 37)
              have MA := Lib.hid (M9.out.offP (P := w2.heap.size) (by omega) oA)
              have XPA := Lib.hid (setAt_same (w := w9) (o := .cells #[.slice (some ⟨g7, 0, none⟩) (q + 1) cap7, .slice la9 m9 lc9] 37) (block_lt XP9.out))
              have OA := Lib.hid (O9.out.trans oA (fun _ _ h => h))
              have HWA := Lib.hid (setCell_at XP9.out (i := 1) (v := .slice la9 m9 lc9))
              clear hN9 hown ho9 oA q2 M8 O8 XP8 X58
              have p0 := cell_at XP9.out 0
              have p1 := cell_at XP9.out 1
              have pf := fun j => free_at XP9.out j
              have zp := szs (block_lt XP9.out)
              go_wp2_with fail
              go_roundw
              case rel =>
                rw [HWA.out]
                exact ⟨j + 1, some ⟨g7, 0, none⟩, q + 1, cap7, la9, m9, lc9, upd F q ⟨j, a, n, c, R⟩, V9, by go_num, by omega, by omega, by omega, XPA, MA, OA⟩
              case measure => simp [intOf]; omega
          · obtain rfl : j = g.tn := by omega
            obtain ⟨la9, lc9, e9, _⟩ := Row.toSl HM.out.left (nf_len V)
            cases e9
            obtain ⟨ra9, rc9, e9, hs9⟩ := Row.toSl HM.out.rts (rtf_len F)
            cases e9
            have HS9 := Lib.hid hs9
            have hqm := hs9.hm
            have hqc := hs9.hc
            have tjj : decide ((g.tn : Int) < (g.tn : Int)) = false := decide_eq_false (by omega)
            have p0 := cell_at XPj.out 0
            have p1 := cell_at XPj.out 1
            have zp := szs (block_lt XPj.out)
            have r0 := cell_at XRj.out 0
            have r1 := cell_at XRj.out 1
            have rf := fun j => free_at XRj.out j
            have zr := szs (block_lt XRj.out)
            clear hs9
            go_wp2_with fail
            have hlt' := block_lt XRj.out
            rw [setCell_at XRj.out, setAt_setCell hlt']
            have E4 : (setAt wr (w.heap.size + 1) (.cells #[.slice ra q rc, .slice la m lc] 37)).heap[w.heap.size + 1]? = some (.cells #[.slice ra q rc, .slice la m lc] 37) := setAt_same hlt'
            have e0 := cell_at E4 0
            have e1 := cell_at E4 1
            have oz := off_setAt (w := wr) (b := w.heap.size + 1) (o := .cells #[.slice ra q rc, .slice la m lc] 37)
            have MZ := HM.out.offP (P := w.heap.size + 1) (by have := HBS.out; have := HP1.out; omega) oz
            obtain ⟨_, _, ez, hsz⟩ := Row.toSl MZ.rts (rtf_len F)
            cases ez
            exact bodyPost_ret (v := .tuple #[.agg #[.slice ra q rc, .slice la m lc], .int .i64 0]) (by simp [results, Tryz.results16, go_sem, e0, e1]) rfl ⟨below_setAt (by omega) BJ.out, .inr ⟨ra, q, rc, la, m, lc, F, rfl, hsz, fun i hi => ⟨(MZ.ok i hi).1, (MZ.ok i hi).2.1⟩⟩⟩
  · have HX0 := Lib.hid hx0
    have te : (x != 0) = true := by simpa using hx0
    have r0 := cell_at XR2.out 0
    have r1 := cell_at XR2.out 1
    have rf := fun j => free_at XR2.out j
    have zr := szs (block_lt XR2.out)
    clear hx0
    go_wp2_with fail
    have hlt' := block_lt XR2.out
    rw [setCell_at XR2.out, setAt_setCell hlt']
    have E4 : (setAt w2 (w.heap.size + 1) (.cells #[.slice none 0 0, .slice none 0 0] 37)).heap[w.heap.size + 1]? = some (.cells #[.slice none 0 0, .slice none 0 0] 37) := setAt_same hlt'
    have e0 := cell_at E4 0
    have e1 := cell_at E4 1
    exact bodyPost_ret (v := .tuple #[.agg #[.slice none 0 0, .slice none 0 0], .int .i64 x]) (by simp [results, Tryz.results16, go_sem, e0, e1]) rfl ⟨below_setAt (by omega) B2.out, .inl ⟨x, HX0.out, rfl⟩⟩
end Go.Proofs.YtlnfhlmgnppcbaaGreat
