/- The reference's custody: the state without events, a state copied. -/
import Derived.Test.YtlnfhlmgnppcbaaGreatZRG1
import Derived.Test.YtlnfhlmgnppcbaaGreatZK12
import Derived.Test.YtlnfhlmgnppcbaaGreatZCTA
import Derived.BigQuiet
import Derived.BigRegion
namespace Go.Proofs.YtlnfhlmgnppcbaaGreat
open Go.RowKit Go.ChangeShapes Go.WideShapes Go.Deep
set_option linter.unusedVariables false
set_option linter.unusedSimpArgs false
set_option maxRecDepth 8000
theorem infoSp : (Tryz.prog.info? 147).map (fun i => (i.zero, i.size, i.bytes)) = some (some (.agg #[.int .i64 0, .int .i64 0, .int .i64 0, .bool false]), 4, 32) := by kernel_rfl
theorem infoTr : (Tryz.prog.info? 163).map (fun i => (i.zero, i.size, i.bytes)) = some (some (.agg #[.int .i64 0, .int .i64 0, .int .i64 0, .bool false]), 4, 32) := by kernel_rfl
theorem spv_one (x : Sp) : ∀ u ∈ spv x, u.oneCell' = true := fun u hu => by
  simp only [spv, List.mem_cons, List.not_mem_nil, or_false] at hu
  rcases hu with rfl | rfl | rfl | rfl <;> rfl
theorem trv_one (x : Tr) : ∀ u ∈ trv x, u.oneCell' = true := fun u hu => by
  simp only [trv, List.mem_cons, List.not_mem_nil, or_false] at hu
  rcases hu with rfl | rfl | rfl | rfl <;> rfl
def SpR (w : World) (base : Nat) (v : Value) (n : Nat) (F : Nat → Sp) : Prop := Row w base 147 4 v n (spf F)
def TrR (w : World) (base : Nat) (v : Value) (k : Nat) (G : Nat → Tr) : Prop := Row w base 163 4 v k (trf G)
theorem upd_spf (F : Nat → Sp) (n : Nat) (x : Sp) (i : Nat) : upd (spf F) n (spv x) i = spf (upd F n x) i := by
  by_cases e : i = n
  · subst e; rw [upd_same]; unfold spf; rw [upd_same]
  · rw [upd_ne e]; unfold spf; rw [upd_ne e]
theorem upd_trf (G : Nat → Tr) (n : Nat) (x : Tr) (i : Nat) : upd (trf G) n (trv x) i = trf (upd G n x) i := by
  by_cases e : i = n
  · subst e; rw [upd_same]; unfold trf; rw [upd_same]
  · rw [upd_ne e]; unfold trf; rw [upd_ne e]
theorem wpList_append_Sp {ops : Array Oper} {rest : List Oper} {o : Oper} {a : Act} {Q : Exit → Act → World → Prop} (w : World) (hgd : o.guard = none) (x1 x2 : Operand) (ho : o.op = .call { callee := .builtin .append, args := #[x1, x2], argTypes := #[119, 119] })
    (base : Nat) (v : Value) (n : Nat) (F : Nat → Sp) (hs : a.eval x1 = v) (h1 : SpR w base v n F) (b1 : Nat) (x : Sp) (hx : a.eval x2 = .slice (some ⟨b1, 0, none⟩) 1 1) (ob : TypeId) (fz : Nat × Nat) (hb1 : w.heap[b1]? = some (.cells #[.int .i64 x.wh, .int .i64 x.pl, .int .i64 x.rd, .bool x.ps] ob fz)) (hn : n ≤ 1000000) (hb : base ≤ w.heap.size)
    (h : ∀ g cap w', n + 1 ≤ cap → cap ≤ 9223372036854775807 → SpR w' base (.slice (some ⟨g, 0, none⟩) (n + 1) cap) (n + 1) (upd F n x) → Off (fun i => base ≤ i) w w' → wpList Tryz.prog ops Q rest (a.put o.dst (.slice (some ⟨g, 0, none⟩) (n + 1) cap)) w') : wpList Tryz.prog ops Q (o :: rest) a w := by
  obtain ⟨i0, hi, hz0, hz1, hz2⟩ := info_parts infoSp
  refine wpList_append_row w hgd x1 x2 119 ho base 147 i0 _ 4 32 Tryz.underlying119 hi hz0 hz1 hz2 rfl (by decide) v n (spf F) hs h1 (spf_len F) b1 1 (spv x) hx rfl ob fz hb1 (spv_one x) (by omega) (by unfold maxLen; omega) hb ?_
  intro g cap w' k1 k2 k3 k4 k5 r b
  refine h g cap w' k1 k2 (Row.congr r (fun i _ => upd_spf F n x i)) ((Off.of_grown b).mono (fun i _ hh => ?_))
  have hh : v.ownBlock = some i := by first | exact hh | exact hh.symm
  exact (World.ownsRow.lt h1 i hh).1
theorem wpList_append_Tr {ops : Array Oper} {rest : List Oper} {o : Oper} {a : Act} {Q : Exit → Act → World → Prop} (w : World) (hgd : o.guard = none) (x1 x2 : Operand) (ho : o.op = .call { callee := .builtin .append, args := #[x1, x2], argTypes := #[120, 120] })
    (base : Nat) (v : Value) (n : Nat) (G : Nat → Tr) (hs : a.eval x1 = v) (h1 : TrR w base v n G) (b1 : Nat) (x : Tr) (hx : a.eval x2 = .slice (some ⟨b1, 0, none⟩) 1 1) (ob : TypeId) (fz : Nat × Nat) (hb1 : w.heap[b1]? = some (.cells #[.int .i64 x.id, .int .i64 x.rider, .int .i64 x.bike, .bool x.opn] ob fz)) (hn : n ≤ 1000000) (hb : base ≤ w.heap.size)
    (h : ∀ g cap w', n + 1 ≤ cap → cap ≤ 9223372036854775807 → TrR w' base (.slice (some ⟨g, 0, none⟩) (n + 1) cap) (n + 1) (upd G n x) → Off (fun i => v.ownBlock = some i) w w' → wpList Tryz.prog ops Q rest (a.put o.dst (.slice (some ⟨g, 0, none⟩) (n + 1) cap)) w') : wpList Tryz.prog ops Q (o :: rest) a w := by
  obtain ⟨i0, hi, hz0, hz1, hz2⟩ := info_parts infoTr
  refine wpList_append_row w hgd x1 x2 120 ho base 163 i0 _ 4 32 Tryz.underlying120 hi hz0 hz1 hz2 rfl (by decide) v n (trf G) hs h1 (trf_len G) b1 1 (trv x) hx rfl ob fz hb1 (trv_one x) (by omega) (by unfold maxLen; omega) hb ?_
  intro g cap w' k1 k2 k3 k4 k5 r b
  refine h g cap w' k1 k2 (Row.congr r (fun i _ => upd_trf G n x i)) ((Off.of_grown b).mono (fun i _ hh => ?_))
  first | exact hh | exact hh.symm
theorem spR_none (w : World) (base : Nat) (F : Nat → Sp) : SpR w base (.slice none 0 0) 0 F := ⟨rfl, .inl ⟨rfl, rfl⟩⟩
theorem trR_none (w : World) (base : Nat) (G : Nat → Tr) : TrR w base (.slice none 0 0) 0 G := ⟨rfl, .inl ⟨rfl, rfl⟩⟩
structure ROwn (w : World) (base n : Nat) (s : CSt) (sv tv : Value) : Prop where
  sp : SpR w base sv n s.F
  tr : TrR w base tv s.k s.G
theorem ROwn.toIn {w : World} {base n : Nat} {s : CSt} {sv tv : Value} (h : ROwn w base n s sv tv) : ∃ sa sc ta tc, sv = .slice sa n sc ∧ tv = .slice ta s.k tc ∧ RIn w n s sa sc ta tc := by
  obtain ⟨sa, sc, e1, h1⟩ := Row.toSl h.sp (spf_len s.F)
  obtain ⟨ta, tc, e2, h2⟩ := Row.toSl h.tr (trf_len s.G)
  exact ⟨sa, sc, ta, tc, e1, e2, h1, h2⟩
theorem ROwn.below {w w' : World} {base n : Nat} {s : CSt} {sv tv : Value} (h : ROwn w base n s sv tv) (hb : Below w.heap.size w w') : ROwn w' base n s sv tv :=
  ⟨Row.off (X := fun _ => False) h.sp (Off.of_below hb) (fun _ _ h => h), Row.off (X := fun _ => False) h.tr (Off.of_below hb) (fun _ _ h => h)⟩
theorem ROwn.base_mono {w : World} {B base n : Nat} {s : CSt} {sv tv : Value} (h : ROwn w B n s sv tv) (hb : base ≤ B) : ROwn w base n s sv tv := ⟨Row.base_mono h.sp hb, Row.base_mono h.tr hb⟩
def MadeR (n : Nat) (s : CSt) (w : World) (e : Ending) (w' : World) : Prop := ∃ sv tv, e = .returned (.agg #[sv, tv]) ∧ ROwn w' w.heap.size n s sv tv ∧ Below w.heap.size w w'
set_option maxHeartbeats 8000000 in
theorem beginR57 (f : Fl) (w : World) (hb1 : 1 ≤ f.bikes) (hbk : f.bikes ≤ 1000) : Calls Tryz.prog 57 #[.agg f.cells] w (MadeR f.bikes.toNat startS w) := by
  have HFC : Hid (f.cells = #[.int .i64 f.bikes, .int .i64 f.riders, .int .i64 f.devs, .slice f.ad f.nd f.cd, .slice f.a2 f.nt f.ct]) := Lib.hid rfl
  have BB : Hid (Below w.heap.size w (((w.alloc (.cells f.cells 24)).alloc (.cells #[.slice none 0 0, .slice none 0 0] 122)).alloc (.cells #[.slice none 0 0, .slice none 0 0] 122))) := Lib.hid (by (repeat' (first | (with_reducible exact Below.refl _ _) | (with_reducible assumption) | (with_reducible refine Below.drew ?_) | (with_reducible refine below_drewN ?_ _) | (with_reducible refine Below.alloc ?_ ?_ _) | (with_reducible refine Below.setCell ?_ ?_ _) | go_size)))
  have X0 := Lib.hid (al_keep (al_keep (al_at w (.cells f.cells 24) rfl) (.cells #[.slice none 0 0, .slice none 0 0] 122)) (.cells #[.slice none 0 0, .slice none 0 0] 122))
  have X1 := Lib.hid (al_keep (al_at (w.alloc (.cells f.cells 24)) (.cells #[.slice none 0 0, .slice none 0 0] 122) (k := w.heap.size + 1) (by simp)) (.cells #[.slice none 0 0, .slice none 0 0] 122))
  have X2 := Lib.hid (al_at ((w.alloc (.cells f.cells 24)).alloc (.cells #[.slice none 0 0, .slice none 0 0] 122)) (.cells #[.slice none 0 0, .slice none 0 0] 122) (k := w.heap.size + 1 + 1) (by simp))
  have HZ : Hid (w.heap.size + 1 + 1 + 1 ≤ (((w.alloc (.cells f.cells 24)).alloc (.cells #[.slice none 0 0, .slice none 0 0] 122)).alloc (.cells #[.slice none 0 0, .slice none 0 0] 122)).heap.size) := Lib.hid (by simp)
  obtain ⟨w1, hw1⟩ : ∃ w1, w1 = ((w.alloc (.cells f.cells 24)).alloc (.cells #[.slice none 0 0, .slice none 0 0] 122)).alloc (.cells #[.slice none 0 0, .slice none 0 0] 122) := ⟨_, rfl⟩
  rw [← hw1] at BB X0 X1 X2 HZ
  have HW1 := Lib.hid hw1
  rw [HFC.out] at X0 HW1 ⊢
  obtain ⟨bk, hbk'⟩ := Int.eq_ofNat_of_zero_le (show 0 ≤ f.bikes by omega)
  rw [hbk'] at hbk hb1 X0 HW1 ⊢
  rw [Int.toNat_natCast]
  clear hw1 hbk' HFC
  go_enter Tryz.func57, Tryz.ntmps57
  go_wp2_with fail
  rw [← HW1.out]
  go_loopw [4] (fun s4 wr => ∃ (j : Nat) (v : Value), s4 = .int .i64 j ∧ j ≤ bk ∧ Hid (wr.heap[w.heap.size]? = some (.cells #[.int .i64 (bk : Int), .int .i64 f.riders, .int .i64 f.devs, .slice f.ad f.nd f.cd, .slice f.a2 f.nt f.ct] 24 (0, 0))) ∧ Hid (wr.heap[w.heap.size + 1]? = some (.cells #[.slice none 0 0, .slice none 0 0] 122 (0, 0))) ∧
    Hid (wr.heap[w.heap.size + 1 + 1]? = some (.cells #[v, .slice none 0 0] 122 (0, 0))) ∧ Hid (SpR wr (w.heap.size + 1 + 1 + 1) v j startS.F) ∧ Hid (Below w.heap.size w wr) ∧ Hid (w.heap.size + 1 + 1 + 1 ≤ wr.heap.size)) (fun s4 _ => bk - (intOf s4).toNat)
  case atStart => exact ⟨0, _, rfl, by omega, X0, X1, X2, Lib.hid (spR_none _ _ _), BB, HZ⟩
  case round =>
    clear X0 X1 X2 BB HZ HW1
    obtain ⟨j, v, rfl, hj, y0, y1, y2, yr, yb, yz⟩ := hrel
    have Y0 := y0
    have Y1 := y1
    have Y2 := y2
    have YR := yr
    have YB := yb
    have YZ := yz
    clear y0 y1 y2 yr yb yz
    by_cases hlt : j < bk
    · have tj : (j : Int) < (bk : Int) := by omega
      have c0 := cell_at Y0.out 0
      have d0 := cell_at Y2.out 0
      have zc := szs (block_lt Y0.out)
      have zd := szs (block_lt Y2.out)
      have BA : Below wr.heap.size wr (wr.alloc (.cells #[.int .i64 5, .int .i64 0, .int .i64 0, .bool false] 147)) := by (repeat' (first | (with_reducible exact Below.refl _ _) | (with_reducible assumption) | (with_reducible refine Below.drew ?_) | (with_reducible refine below_drewN ?_ _) | (with_reducible refine Below.alloc ?_ ?_ _) | (with_reducible refine Below.setCell ?_ ?_ _) | go_size))
      have XB := Lib.hid (al_at wr (.cells #[.int .i64 5, .int .i64 0, .int .i64 0, .bool false] 147) rfl)
      have R1 := Lib.hid (Row.off (X := fun _ => False) YR.out (Off.of_below BA) (fun _ _ h => h))
      have hle : w.heap.size + 1 + 1 + 1 ≤ (wr.alloc (.cells #[.int .i64 5, .int .i64 0, .int .i64 0, .bool false] 147)).heap.size := Nat.le_trans YZ.out BA.size
      replace Y0 := Lib.hid ((BA.block _ (block_lt Y0.out)).trans Y0.out)
      replace Y1 := Lib.hid ((BA.block _ (block_lt Y1.out)).trans Y1.out)
      replace Y2 := Lib.hid ((BA.block _ (block_lt Y2.out)).trans Y2.out)
      replace YB := Lib.hid (YB.out.trans (BA.mono YB.out.size))
      obtain ⟨va, vc, rfl, _⟩ := Row.toSl YR.out (spf_len startS.F)
      clear BA YR
      go_wp2_with (at_builtin; go_loud (refine wpList_append_Sp _ rfl (.tmp 13) (.tmp 15) rfl (w.heap.size + 1 + 1 + 1) _ j startS.F rfl R1.out wr.heap.size ⟨5, 0, 0, false⟩ rfl 147 (0, 0) XB.out (by omega) hle ?_))
      intro g4 c4 w4 kk1 kk2 r4 o4
      have hsz := o4.size
      replace Y0 := Lib.hid ((o4.block _ (block_lt Y0.out) (fun h => by have h : w.heap.size + 1 + 1 + 1 ≤ w.heap.size := h; omega)).trans Y0.out)
      replace Y1 := Lib.hid ((o4.block _ (block_lt Y1.out) (fun h => by have h : w.heap.size + 1 + 1 + 1 ≤ w.heap.size + 1 := h; omega)).trans Y1.out)
      replace Y2 := Lib.hid ((o4.block _ (block_lt Y2.out) (fun h => by have h : w.heap.size + 1 + 1 + 1 ≤ w.heap.size + 1 + 1 := h; omega)).trans Y2.out)
      replace YB := Lib.hid (YB.out.trans (o4.toBelow YB.out.size (fun q hq h => by have h : w.heap.size + 1 + 1 + 1 ≤ q := h; omega)))
      replace YZ := Lib.hid (Nat.le_trans hle hsz)
      have R4 := Lib.hid (Row.congr r4 (fun i _ => by
        rw [show upd startS.F j ⟨5, 0, 0, false⟩ = startS.F from by
          funext q
          by_cases e : q = j
          · subst e; rw [upd_same]; rfl
          · rw [upd_ne e]]))
      clear r4 o4 c0 d0 zc zd R1 XB hle hsz
      have d0 := cell_at Y2.out 0
      have fr := fun i => free_at Y2.out i
      have zd := szs (block_lt Y2.out)
      go_wp2_with fail
      have o5 : Off (fun q => q = w.heap.size + 1 + 1) w4 (w4.setCell ⟨w.heap.size + 1 + 1, 0, none⟩ (.slice (some ⟨g4, 0, none⟩) (j + 1) c4)) := (Off.refl (fun q => q = w.heap.size + 1 + 1) w4).setCell (p := ⟨w.heap.size + 1 + 1, 0, none⟩) (fun _ => rfl) _
      have h2 : (w4.setCell ⟨w.heap.size + 1 + 1, 0, none⟩ (.slice (some ⟨g4, 0, none⟩) (j + 1) c4)).heap[w.heap.size + 1 + 1]? = some (.cells #[(.slice (some ⟨g4, 0, none⟩) (j + 1) c4), .slice none 0 0] 122 (0, 0)) := by
        rw [setCell_at Y2.out, setAt_same (block_lt Y2.out)]; rfl
      go_roundw
      case rel =>
        exact ⟨j + 1, _, by go_num, by omega, Lib.hid ((o5.block _ (block_lt Y0.out) (fun h => by have h : w.heap.size = w.heap.size + 1 + 1 := h; omega)).trans Y0.out), Lib.hid ((o5.block _ (block_lt Y1.out) (fun h => by have h : w.heap.size + 1 = w.heap.size + 1 + 1 := h; omega)).trans Y1.out), Lib.hid h2,
          Lib.hid (Row.off R4.out o5 (fun gg hgg h => by have := (World.ownsRow.lt R4.out gg hgg).1; have h : gg = w.heap.size + 1 + 1 := h; omega)), Lib.hid (YB.out.trans (o5.toBelow YB.out.size (fun q hq h => by have h : q = w.heap.size + 1 + 1 := h; omega))), Lib.hid (Nat.le_trans YZ.out o5.size)⟩
      case measure => simp [intOf]; omega
    · obtain rfl : j = bk := by omega
      obtain ⟨va, vc, rfl, _⟩ := Row.toSl YR.out (spf_len startS.F)
      have c0 := cell_at Y0.out 0
      have d0 := cell_at Y2.out 0
      have d1 := cell_at Y2.out 1
      have m0 := cell_at Y1.out 0
      have m1 := cell_at Y1.out 1
      have fr := fun i => free_at Y1.out i
      have zc := szs (block_lt Y0.out)
      have zd := szs (block_lt Y2.out)
      have zm := szs (block_lt Y1.out)
      go_wp2_with fail
      show bodyPost _ _ _ Exit.ret _ _
      have KZ := put2 Y1.out (.slice va j vc) (.slice none 0 0)
      have OZ := off2 wr (w.heap.size + 1) (.slice va j vc) (.slice none 0 0)
      have RZ := Lib.hid (Row.off YR.out OZ (fun gg hgg h => by have := (World.ownsRow.lt YR.out gg hgg).1; have h : gg = w.heap.size + 1 := h; omega))
      have BZ := Lib.hid (YB.out.trans (OZ.toBelow YB.out.size (fun q hq h => by have h : q = w.heap.size + 1 := h; omega)))
      clear fr zm m0 m1 OZ YR YB Y1 c0 d0 d1 zc zd
      generalize World.setCell (World.setCell wr _ _) _ _ = w9 at *
      have k0 := cell_at KZ 0
      have k1 := cell_at KZ 1
      have zk := szs (block_lt KZ)
      exact bodyPost_ret (v := .agg #[.slice va j vc, .slice none 0 0]) (by simp [results, Tryz.results57, go_sem, k0, k1]) rfl ⟨_, .slice none 0 0, rfl, ⟨Row.base_mono RZ.out (by omega), trR_none _ _ _⟩, BZ.out⟩
def cpG (base n k : Nat) (F : Nat → Sp) (G : Nat → Tr) : List Value → World → Prop
  | [], _ => True
  | [v1], w => SpR w base v1 n F
  | [v2, v1], w => SpR w base v1 n F ∧ TrR w base v2 k G
  | _, _ => False
def cpS (n k : Nat) : List Value → Prop
  | [v1] => ∃ a c, v1 = .slice a n c
  | [v2, v1] => (∃ a c, v1 = .slice a n c) ∧ ∃ a c, v2 = .slice a k c
  | _ => False
theorem cpG_below {base n k : Nat} {F : Nat → Sp} {G : Nat → Tr} : ∀ (s : List Value) (w w' : World), cpG base n k F G s w → Below w.heap.size w w' → cpG base n k F G s w'
  | [], _, _, _, _ => trivial
  | [v1], w, w', h, hb => Row.off (X := fun _ => False) h (Off.of_below hb) (fun _ _ h => h)
  | [v2, v1], w, w', h, hb => ⟨Row.off (X := fun _ => False) h.1 (Off.of_below hb) (fun _ _ h => h), Row.off (X := fun _ => False) h.2 (Off.of_below hb) (fun _ _ h => h)⟩
  | _ :: _ :: _ :: _, _, _, h, _ => h.elim
def cpU : Nat → List Nat := fun i => if i = 3 then [0] else if i = 7 then [4] else []
set_option maxHeartbeats 8000000 in
theorem copiedR89 {n : Nat} {s : CSt} {sa ta : Option Addr} {sc tc : Nat} {w : World} (h : RIn w n s sa sc ta tc) (hn : n ≤ 100000) (hk : s.k ≤ 100000) :
    Calls Tryz.prog 89 #[.agg #[.slice sa n sc, .slice ta s.k tc]] w (MadeR n s w) := by
  have BB : Hid (Below w.heap.size w ((w.alloc (.cells #[.slice sa n sc, .slice ta s.k tc] 122)).alloc (.cells #[.slice none 0 0, .slice none 0 0] 122))) := Lib.hid (by (repeat' (first | (with_reducible exact Below.refl _ _) | (with_reducible assumption) | (with_reducible refine Below.drew ?_) | (with_reducible refine below_drewN ?_ _) | (with_reducible refine Below.alloc ?_ ?_ _) | (with_reducible refine Below.setCell ?_ ?_ _) | go_size)))
  have X0 := Lib.hid (al_keep (al_at w (.cells #[.slice sa n sc, .slice ta s.k tc] 122) rfl) (.cells #[.slice none 0 0, .slice none 0 0] 122))
  have X1 := Lib.hid (al_at (w.alloc (.cells #[.slice sa n sc, .slice ta s.k tc] 122)) (.cells #[.slice none 0 0, .slice none 0 0] 122) (k := w.heap.size + 1) (by simp))
  obtain ⟨w1, hw1⟩ : ∃ w1, w1 = (w.alloc (.cells #[.slice sa n sc, .slice ta s.k tc] 122)).alloc (.cells #[.slice none 0 0, .slice none 0 0] 122) := ⟨_, rfl⟩
  rw [← hw1] at BB X0 X1
  have HW1 := Lib.hid hw1
  have HI := Lib.hid (h.below BB.out)
  clear hw1 h
  generalize hsk : s.k = k at *
  have HSK := Lib.hid hsk
  clear hsk
  have x0 := cell_at X0.out 0
  have x1 := cell_at X0.out 1
  have zx := szs (block_lt X0.out)
  go_enter Tryz.func89, Tryz.ntmps89
  go_wp2_with fail
  rw [← HW1.out]
  obtain ⟨i1, hi1, hz1, hs1, hb1⟩ := info_parts infoSp
  obtain ⟨i2, hi2, hz2, hs2, hb2⟩ := info_parts infoTr
  (obtain ⟨ι, hne, Fw, fb, hF⟩ := grow_family w1); have hF : ∀ w', (vPlan w1 (cpG w1.heap.size n k s.F s.G) (cpS n k) [3, 7] [(0, fun b => .slice (some ⟨b, 0, none⟩) 0 0, .cells #[] 147), (4, fun b => .slice (some ⟨b, 0, none⟩) 0 0, .cells #[] 163)] (cpU)).D [] w' → ∃ i, w' = Fw i := hF
  have fx0 := fun i => cell_kept (fb i) x0
  have fx1 := fun i => cell_kept (fb i) x1
  clear x0 x1 zx
  (refine region_chainO (vPlan w1 (cpG w1.heap.size n k s.F s.G) (cpS n k) [3, 7] [(0, fun b => .slice (some ⟨b, 0, none⟩) 0 0, .cells #[] 147), (4, fun b => .slice (some ⟨b, 0, none⟩) 0 0, .cells #[] 163)] (cpU)) [] [] [0, 1, 2, 4, 5, 6, 3, 7, 8] [9] mixed (by kernel_rfl) (by kernel_rfl) (?_) (vPlan_ok (cpG_below) (by simp)) (vPlan_start (trivial)) ?_; rotate_left 1; refine wpPure_nil ?_; simp only [List.map_cons, List.map_nil, Array.getD_eq_getD_getElem?, List.getElem?_toArray, List.getElem?_cons_zero, List.getElem?_cons_succ, Option.getD_some])
  rotate_left 1
  · intro j k1 h
    have h : k1 ∈ cpU j := h
    unfold cpU at h
    split at h
    · rename_i e; subst e; obtain rfl := List.mem_singleton.1 h; show Region.waitsFor .any _ 3 0 = true; kernel_rfl
    · split at h
      · rename_i e; subst e; obtain rfl := List.mem_singleton.1 h; show Region.waitsFor .any _ 7 4 = true; kernel_rfl
      · simp at h
  (repeat (first | (refine wpChainO_skip rfl ?_; simp only [Act.put, List.setIfInBounds_toArray, List.set_cons_succ, List.set_cons_zero]) | (refine wpChainO_quiet hF rfl rfl rfl ?_; intro K hK; go_big_quiet_op; go_big_quiet_on) | (refine wpChainO_pure _ rfl rfl (fun w' _ => by go_simp; try rfl) ?_; simp only [Act.put, List.setIfInBounds_toArray, List.set_cons_succ, List.set_cons_zero])))
  (refine wpChainO_alloc _ _ rfl (List.mem_cons_self ..) rfl (fun w' => by go_simp) (fun b3 hb3 => ?_); simp only [Act.put, List.setIfInBounds_toArray, List.set_cons_succ, List.set_cons_zero])
  (repeat (first | (refine wpChainO_skip rfl ?_; simp only [Act.put, List.setIfInBounds_toArray, List.set_cons_succ, List.set_cons_zero]) | (refine wpChainO_quiet hF rfl rfl rfl ?_; intro K hK; go_big_quiet_op; go_big_quiet_on) | (refine wpChainO_pure _ rfl rfl (fun w' _ => by go_simp; try rfl) ?_; simp only [Act.put, List.setIfInBounds_toArray, List.set_cons_succ, List.set_cons_zero])))
  (refine wpChainO_alloc _ _ rfl (List.mem_cons_of_mem _ (List.mem_cons_self ..)) rfl (fun w' => by go_simp) (fun b7 hb7 => ?_); simp only [Act.put, List.setIfInBounds_toArray, List.set_cons_succ, List.set_cons_zero])
  (repeat (first | (refine wpChainO_skip rfl ?_; simp only [Act.put, List.setIfInBounds_toArray, List.set_cons_succ, List.set_cons_zero]) | (refine wpChainO_quiet hF rfl rfl rfl ?_; intro K hK; go_big_quiet_op; go_big_quiet_on) | (refine wpChainO_pure _ rfl rfl (fun w' _ => by go_simp; try rfl) ?_; simp only [Act.put, List.setIfInBounds_toArray, List.set_cons_succ, List.set_cons_zero])))
  refine wpChainO_append_new rfl rfl rfl rfl rfl (by show _ < 12; decide) 147 i1 _ 4 32 Tryz.underlying119 hi1 hz1 hs1 hb1 rfl (by decide) 0 b3 rfl (by simp [usedBy, vPlan, cpU]) sa n sc (spf s.F) rfl (spf_len s.F) HI.out.sp.hno (fun i => spv_one _) (fun w' hb _ => (HI.out.sp.below hb).sl) (by omega) (by unfold maxLen; omega) (fun v w' w'' _ _ hr => hr) (fun a' c' => ⟨a', c', rfl⟩) ?_
  rintro u1 ⟨a1, c1, rfl⟩
  simp only [Act.put, List.setIfInBounds_toArray, List.set_cons_succ, List.set_cons_zero]
  refine wpChainO_append_new rfl rfl rfl rfl rfl (by show _ < 12; decide) 163 i2 _ 4 32 Tryz.underlying120 hi2 hz2 hs2 hb2 rfl (by decide) 4 b7 rfl (by simp [usedBy, vPlan, cpU]) ta k tc (trf s.G) rfl (trf_len s.G) (by have := HI.out.tr.hno; rwa [HSK.out] at this) (fun i => trv_one _) (fun w' hb _ => (by have := (HI.out.tr.below hb).sl; rwa [HSK.out] at this)) (by omega) (by unfold maxLen; omega)
    (fun v w' w'' hg hb hr => ⟨Row.off (X := fun _ => False) hg (Off.of_below hb) (fun _ _ h => h), hr⟩) (fun a' c' => ⟨⟨a1, c1, rfl⟩, a', c', rfl⟩) ?_
  rintro u2 ⟨_, a2, c2, rfl⟩
  simp only [Act.put, List.setIfInBounds_toArray, List.set_cons_succ, List.set_cons_zero]
  (repeat (first | (refine wpChainO_skip rfl ?_; simp only [Act.put, List.setIfInBounds_toArray, List.set_cons_succ, List.set_cons_zero]) | (refine wpChainO_quiet hF rfl rfl rfl ?_; intro K hK; go_big_quiet_op; go_big_quiet_on) | (refine wpChainO_pure _ rfl rfl (fun w' _ => by go_simp; try rfl) ?_; simp only [Act.put, List.setIfInBounds_toArray, List.set_cons_succ, List.set_cons_zero])))
  refine wpChainO_nil (fun w7 hb7 hl7 => ?_)
  have b7' : Below w1.heap.size w1 w7 := hb7.1
  have hg7 : SpR w7 w1.heap.size (.slice a1 n c1) n s.F ∧ TrR w7 w1.heap.size (.slice a2 k c2) k s.G := hb7.2
  have X1b := Lib.hid ((b7'.block _ (block_lt X1.out)).trans X1.out)
  have B7 := Lib.hid (BB.out.trans (b7'.mono BB.out.size))
  have HL1 : Hid (w.heap.size + 1 < w1.heap.size) := Lib.hid (block_lt X1.out)
  obtain ⟨rs, rt⟩ := hg7
  have RS := Lib.hid rs
  have RT := Lib.hid rt
  clear hb7 hl7 hF fb hne b7' X1 X0 rs rt HI fx0 fx1 HW1
  have m0 := cell_at X1b.out 0
  have m1 := cell_at X1b.out 1
  have fr := fun i => free_at X1b.out i
  have zm := szs (block_lt X1b.out)
  go_wp2_with fail
  refine onlyN_intro ?_
  go_wp2_with fail
  show bodyPost _ _ _ Exit.ret _ _
  have KZ := put2 X1b.out (.slice a1 n c1) (.slice a2 k c2)
  have OZ := off2 w7 (w.heap.size + 1) (.slice a1 n c1) (.slice a2 k c2)
  have RZ := Lib.hid (Row.off RS.out OZ (fun gg hgg h => by have := (World.ownsRow.lt RS.out gg hgg).1; have := HL1.out; have h : gg = w.heap.size + 1 := h; omega))
  have TZ := Lib.hid (Row.off RT.out OZ (fun gg hgg h => by have := (World.ownsRow.lt RT.out gg hgg).1; have := HL1.out; have h : gg = w.heap.size + 1 := h; omega))
  have BZ := Lib.hid (B7.out.trans (OZ.toBelow B7.out.size (fun q hq h => by have h : q = w.heap.size + 1 := h; omega)))
  clear fr zm m0 m1 OZ RS RT B7 X1b
  generalize World.setCell (World.setCell w7 _ _) _ _ = w9 at *
  have k0 := cell_at KZ 0
  have k1 := cell_at KZ 1
  have zk := szs (block_lt KZ)
  exact bodyPost_ret (v := .agg #[.slice a1 n c1, .slice a2 k c2]) (by simp [results, Tryz.results89, go_sem, k0, k1]) rfl ⟨_, _, rfl, ⟨Row.base_mono RZ.out BB.out.size, by rw [HSK.out]; exact Row.base_mono TZ.out BB.out.size⟩, BZ.out⟩
end Go.Proofs.YtlnfhlmgnppcbaaGreat
