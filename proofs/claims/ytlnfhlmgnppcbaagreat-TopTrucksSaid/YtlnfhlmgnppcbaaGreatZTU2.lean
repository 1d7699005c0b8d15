/- TopTrucks: the night of the example, made; its walk. -/
import Derived.Test.YtlnfhlmgnppcbaaGreatZTU1
import Derived.Test.YtlnfhlmgnppcbaaGreatZCTA
import Derived.BigQuiet
import Derived.BigRegion
namespace Go.Proofs.YtlnfhlmgnppcbaaGreat
open Go.RowKit Go.ChangeShapes Go.WideShapes Go.Deep
set_option linter.unusedVariables false
set_option linter.unusedSimpArgs false
set_option maxRecDepth 8000
open Rd
def lnE : Nat → Ed := fun i => [(⟨0, 1, 60⟩ : Ed), ⟨1, 2, 30⟩, ⟨2, 0, 80⟩].getD i ⟨0, 0, 0⟩
def lnT : Nat → Tk := fun i => [(⟨0, 10, 0, 3600⟩ : Tk)].getD i ⟨0, 0, 0, 0⟩
def lnG (ea ta : Option Addr) (tc : Nat) (na : Option Addr) : Ng := ⟨3, ea, 3, 3, lnE, ta, 1, tc, lnT, na, 2, 2, smD, 10⟩
section
variable (ea ta : Option Addr) (tc : Nat) (na : Option Addr)
def lngr : Gr := gr Ed.frm Ed.til 3 3 lnE
theorem lnOk : lngr.Ok := by
  refine ⟨fun i hi => ?_, fun i hi => ?_, fun i hi => ?_⟩ <;> revert i <;> decide
theorem ln_01 : sec lngr 0 1 = 60 := sec_is lnOk (k := 1) (Rc.snoc (g := lngr) 0 .nil (by decide)) (fun v => if v = 1 then 60 else if v = 2 then 90 else 0) (by decide) (by intro i hi; revert i; decide) (by decide)
theorem ln_12 : sec lngr 1 2 = 30 := sec_is lnOk (k := 1) (Rc.snoc (g := lngr) 1 .nil (by decide)) (fun v => if v = 2 then 30 else if v = 0 then 110 else 0) (by decide) (by intro i hi; revert i; decide) (by decide)
theorem ln_20 : sec lngr 2 0 = 80 := sec_is lnOk (k := 1) (Rc.snoc (g := lngr) 2 .nil (by decide)) (fun v => if v = 0 then 80 else if v = 1 then 140 else 0) (by decide) (by intro i hi; revert i; decide) (by decide)
theorem lnS (a b : Int) : (lnG ea ta tc na).S a b = sec lngr a b := rfl
theorem ln_night : nightE (lnG ea ta tc na) = 0 := by rw [show nightE (lnG ea ta tc na) = nightE (lnG none none 1 none) from rfl]; decide
theorem ln_names : namesE (lnG ea ta tc na) 0 smR 2 = 0 := by rw [show namesE (lnG ea ta tc na) 0 smR 2 = namesE (lnG none none 1 none) 0 smR 2 from rfl]; decide
theorem ln_now1 : nowK (lnG ea ta tc na) (lnT 0) smR 1 = 140 := by
  have e : nowK (lnG ea ta tc na) (lnT 0) smR 1 = 0 + (lnG ea ta tc na).S 0 1 + (lnG ea ta tc na).work 0 := rfl
  rw [e, lnS, ln_01]; rfl
theorem ln_now2 : nowK (lnG ea ta tc na) (lnT 0) smR 2 = 220 := by
  have e : nowK (lnG ea ta tc na) (lnT 0) smR 2 = nowK (lnG ea ta tc na) (lnT 0) smR 1 + (lnG ea ta tc na).S 1 2 + (lnG ea ta tc na).work 1 := rfl
  rw [e, ln_now1, lnS, ln_12]; rfl
theorem ln_load (k : Nat) : loadK (lnG ea ta tc na) smR k = loadK (lnG none none 1 none) smR k := by
  induction k with
  | zero => rfl
  | succ k ih => unfold loadK; rw [ih]; rfl
theorem ln_step : scan (stepK (lnG ea ta tc na) (lnT 0) smR) 2 = 0 := by
  have s0 : stepK (lnG ea ta tc na) (lnT 0) smR 0 = 0 := by
    unfold stepK
    rw [show (lnG ea ta tc na).S (atK (lnG ea ta tc na) (lnT 0) smR 0) ((lnG ea ta tc na).nd (smR 0)).node = 60 from ln_01, ln_load]
    decide
  have s1 : stepK (lnG ea ta tc na) (lnT 0) smR 1 = 0 := by
    unfold stepK
    rw [show (lnG ea ta tc na).S (atK (lnG ea ta tc na) (lnT 0) smR 1) ((lnG ea ta tc na).nd (smR 1)).node = 30 from ln_12, ln_load]
    decide
  simp [scan, s0, s1]
theorem ln_back : backK (lnG ea ta tc na) (lnT 0) smR 2 = 330 := by
  unfold backK
  rw [show (lnG ea ta tc na).S (atK (lnG ea ta tc na) (lnT 0) smR 2) (lnT 0).dep = 80 from ln_20, ln_now2]; rfl
theorem ln_home : homeK (lnG ea ta tc na) (lnT 0) smR 2 = 0 := by
  unfold homeK
  rw [show (lnG ea ta tc na).S (atK (lnG ea ta tc na) (lnT 0) smR 2) (lnT 0).dep = 80 from ln_20, ln_back]; rfl
theorem ln_walk : walkE (lnG ea ta tc na) 0 smR 2 = 0 := by
  unfold walkE
  rw [if_neg (by rw [ln_night]; simp), if_neg (by rw [ln_names]; simp), if_neg (by rw [show (lnG ea ta tc na).T (0 : Int).toNat = lnT 0 from rfl, ln_step]; simp)]
  exact ln_home ea ta tc na
theorem ln_vis1 : (visK (lnG ea ta tc na) ((lnG ea ta tc na).T (0 : Int).toNat) smR 1).load = 3 := by
  show loadK (lnG ea ta tc na) smR 2 = 3
  rw [ln_load]; rfl
end
theorem infoTk62 : (Tryz.prog.info? 62).map (fun i => (i.zero, i.size, i.bytes)) = some (some (.agg #[.int .i64 0, .int .i64 0, .int .i64 0, .int .i64 0]), 4, 32) := by kernel_rfl
theorem wpList_append_Tk {ops : Array Oper} {rest : List Oper} {o : Oper} {a : Act} {Q : Exit → Act → World → Prop} (w : World) (hgd : o.guard = none) (x1 x2 : Operand) (ho : o.op = .call { callee := .builtin .append, args := #[x1, x2], argTypes := #[29, 29] })
    (base : Nat) (v : Value) (n : Nat) (F : Nat → Tk) (hs : a.eval x1 = v) (h1 : Row w base 62 4 v n (tkf F)) (b1 : Nat) (x : Tk) (hx : a.eval x2 = .slice (some ⟨b1, 0, none⟩) 1 1) (ob : TypeId) (fz : Nat × Nat) (hb1 : w.heap[b1]? = some (.cells #[.int .i64 x.dep, .int .i64 x.cap, .int .i64 x.frm, .int .i64 x.til] ob fz)) (hn : n ≤ 1000000) (hb : base ≤ w.heap.size)
    (h : ∀ g cap w', n + 1 ≤ cap → cap ≤ 9223372036854775807 → g < w'.heap.size → (v.ownBlock = some g ∨ w.heap.size ≤ g) → Row w' base 62 4 (.slice (some ⟨g, 0, none⟩) (n + 1) cap) (n + 1) (tkf (upd F n x)) → Off (fun i => v.ownBlock = some i) w w' → wpList Tryz.prog ops Q rest (a.put o.dst (.slice (some ⟨g, 0, none⟩) (n + 1) cap)) w') : wpList Tryz.prog ops Q (o :: rest) a w := by
  obtain ⟨i0, hi, hz0, hz1, hz2⟩ := info_parts infoTk62
  refine wpList_append_row w hgd x1 x2 29 ho base 62 i0 _ 4 32 Tryz.underlying29 hi hz0 hz1 hz2 (by rfl) (by decide) v n _ hs h1 (fun i => rfl) b1 1 [.int .i64 x.dep, .int .i64 x.cap, .int .i64 x.frm, .int .i64 x.til] hx rfl ob fz hb1 (fun u hu => by
    simp only [List.mem_cons, List.not_mem_nil, or_false] at hu
    rcases hu with rfl | rfl | rfl | rfl <;> rfl) (by omega) (by unfold maxLen; omega) hb ?_
  intro g cap w' k1 k2 k3 k4 k5 r b
  refine h g cap w' k1 k2 k4 k5 (Row.congr r (fun i hi => ?_)) ((Off.of_grown b).mono (fun i _ hh => by first | exact hh | exact hh.symm))
  unfold tkf upd
  split <;> rfl
theorem sl_ofB {w : World} {b s n : Nat} {e : TypeId} {cs : Array Value} {f : Nat → List Value} (h : w.heap[b]? = some (.cells cs e (0, 0))) (hf : ∀ i, (f i).length = s) (hc : cs.toList = flat f n) (hn : n ≤ maxLen) : Sl w s (some ⟨b, 0, none⟩) n n f := by
  obtain ⟨ao, c, e, h⟩ := (Row.of_block (base := 0) h (Nat.zero_le _) hf hc hn).toSl hf
  cases e
  exact h
set_option maxHeartbeats 4000000 in
theorem night33 (w : World) : Calls Tryz.prog 33 #[.int .i64 1] w fun e w' => ∃ (ea ta : Option Addr) (tc : Nat) (na : Option Addr), e = .returned (.agg (lnG ea ta tc na).cells) ∧ (lnG ea ta tc na).In w' ∧ Below w.heap.size w w' := by
  have XR := Lib.hid (al_keep (al_keep (al_keep (al_at w (.cells #[.int .i64 0, .slice none 0 0, .slice none 0 0, .slice none 0 0, .int .i64 0] 32) rfl) (.cells #[.int .i64 0, .int .i64 1, .int .i64 60, .int .i64 1, .int .i64 2, .int .i64 30, .int .i64 2, .int .i64 0, .int .i64 80] 130)) (.cells #[.int .i64 1, .int .i64 8, .int .i64 2, .int .i64 (-5)] 58)) (.cells #[.int .i64 3, .slice (some ⟨w.heap.size + 1, 0, none⟩) 3 3, .slice none 0 0, .slice (some ⟨w.heap.size + 1 + 1, 0, none⟩) 2 2, .int .i64 10] 32))
  have XE := Lib.hid (al_keep (al_keep (al_at (w.alloc (.cells #[.int .i64 0, .slice none 0 0, .slice none 0 0, .slice none 0 0, .int .i64 0] 32)) (.cells #[.int .i64 0, .int .i64 1, .int .i64 60, .int .i64 1, .int .i64 2, .int .i64 30, .int .i64 2, .int .i64 0, .int .i64 80] 130) (k := w.heap.size + 1) (by simp)) (.cells #[.int .i64 1, .int .i64 8, .int .i64 2, .int .i64 (-5)] 58)) (.cells #[.int .i64 3, .slice (some ⟨w.heap.size + 1, 0, none⟩) 3 3, .slice none 0 0, .slice (some ⟨w.heap.size + 1 + 1, 0, none⟩) 2 2, .int .i64 10] 32))
  have XD := Lib.hid (al_keep (al_at ((w.alloc (.cells #[.int .i64 0, .slice none 0 0, .slice none 0 0, .slice none 0 0, .int .i64 0] 32)).alloc (.cells #[.int .i64 0, .int .i64 1, .int .i64 60, .int .i64 1, .int .i64 2, .int .i64 30, .int .i64 2, .int .i64 0, .int .i64 80] 130)) (.cells #[.int .i64 1, .int .i64 8, .int .i64 2, .int .i64 (-5)] 58) (k := w.heap.size + 1 + 1) (by simp)) (.cells #[.int .i64 3, .slice (some ⟨w.heap.size + 1, 0, none⟩) 3 3, .slice none 0 0, .slice (some ⟨w.heap.size + 1 + 1, 0, none⟩) 2 2, .int .i64 10] 32))
  have XQ := Lib.hid (al_at (((w.alloc (.cells #[.int .i64 0, .slice none 0 0, .slice none 0 0, .slice none 0 0, .int .i64 0] 32)).alloc (.cells #[.int .i64 0, .int .i64 1, .int .i64 60, .int .i64 1, .int .i64 2, .int .i64 30, .int .i64 2, .int .i64 0, .int .i64 80] 130)).alloc (.cells #[.int .i64 1, .int .i64 8, .int .i64 2, .int .i64 (-5)] 58)) (.cells #[.int .i64 3, .slice (some ⟨w.heap.size + 1, 0, none⟩) 3 3, .slice none 0 0, .slice (some ⟨w.heap.size + 1 + 1, 0, none⟩) 2 2, .int .i64 10] 32) (k := w.heap.size + 1 + 1 + 1) (by simp))
  have BB : Hid (Below w.heap.size w ((((w.alloc (.cells #[.int .i64 0, .slice none 0 0, .slice none 0 0, .slice none 0 0, .int .i64 0] 32)).alloc (.cells #[.int .i64 0, .int .i64 1, .int .i64 60, .int .i64 1, .int .i64 2, .int .i64 30, .int .i64 2, .int .i64 0, .int .i64 80] 130)).alloc (.cells #[.int .i64 1, .int .i64 8, .int .i64 2, .int .i64 (-5)] 58)).alloc (.cells #[.int .i64 3, .slice (some ⟨w.heap.size + 1, 0, none⟩) 3 3, .slice none 0 0, .slice (some ⟨w.heap.size + 1 + 1, 0, none⟩) 2 2, .int .i64 10] 32))) := Lib.hid (by (repeat' (first | (with_reducible exact Below.refl _ _) | (with_reducible assumption) | (with_reducible refine Below.drew ?_) | (with_reducible refine below_drewN ?_ _) | (with_reducible refine Below.alloc ?_ ?_ _) | (with_reducible refine Below.setCell ?_ ?_ _) | go_size)))
  obtain ⟨w1, hw1⟩ : ∃ w1, w1 = ((((w.alloc (.cells #[.int .i64 0, .slice none 0 0, .slice none 0 0, .slice none 0 0, .int .i64 0] 32)).alloc (.cells #[.int .i64 0, .int .i64 1, .int .i64 60, .int .i64 1, .int .i64 2, .int .i64 30, .int .i64 2, .int .i64 0, .int .i64 80] 130)).alloc (.cells #[.int .i64 1, .int .i64 8, .int .i64 2, .int .i64 (-5)] 58)).alloc (.cells #[.int .i64 3, .slice (some ⟨w.heap.size + 1, 0, none⟩) 3 3, .slice none 0 0, .slice (some ⟨w.heap.size + 1 + 1, 0, none⟩) 2 2, .int .i64 10] 32)) := ⟨_, rfl⟩
  rw [← hw1] at XR XE XD XQ BB
  have HW1 := Lib.hid hw1
  have HQS : Hid (w.heap.size + 1 + 1 + 1 < w1.heap.size) := Lib.hid (block_lt XQ.out)
  clear hw1
  go_enter Tryz.func33, Tryz.ntmps33
  go_wp2_with fail
  rw [← HW1.out]
  clear HW1
  go_loopw [4] (fun s4 wr => ∃ (i : Nat) (ta : Option Addr) (tc : Nat), s4 = .int .i64 i ∧ i ≤ 1 ∧ Hid (wr.heap[w.heap.size + 1 + 1 + 1]? = some (.cells #[.int .i64 3, .slice (some ⟨w.heap.size + 1, 0, none⟩) 3 3, .slice ta i tc, .slice (some ⟨w.heap.size + 1 + 1, 0, none⟩) 2 2, .int .i64 10] 32 (0, 0))) ∧ Hid (Row wr w1.heap.size 62 4 (.slice ta i tc) i (tkf lnT)) ∧ Hid (Off (fun q => q = w.heap.size + 1 + 1 + 1) w1 wr)) (fun s4 _ => 1 - (intOf s4).toNat)
  case atStart => exact ⟨0, none, 0, rfl, by omega, XQ, Lib.hid ⟨rfl, .inl ⟨rfl, rfl⟩⟩, Lib.hid (Off.refl _ _)⟩
  case round =>
    obtain ⟨i, ta, tc, rfl, hi, hQ, hT, hO⟩ := hrel
    have XQi := hQ
    have HT := hT
    have HO := hO
    clear hQ hT hO XQ
    have p0 := cell_at XQi.out 0
    have p1 := cell_at XQi.out 1
    have p2 := cell_at XQi.out 2
    have p3 := cell_at XQi.out 3
    have p4 := cell_at XQi.out 4
    have pf := fun j => free_at XQi.out j
    have zp := szs (block_lt XQi.out)
    by_cases hlt : i < 1
    · obtain rfl : i = 0 := by omega
      have ba : Below wr.heap.size wr (wr.alloc (.cells #[.int .i64 0, .int .i64 10, .int .i64 0, .int .i64 3600] 62)) := by (repeat' (first | (with_reducible exact Below.refl _ _) | (with_reducible assumption) | (with_reducible refine Below.drew ?_) | (with_reducible refine below_drewN ?_ _) | (with_reducible refine Below.alloc ?_ ?_ _) | (with_reducible refine Below.setCell ?_ ?_ _) | go_size))
      have XB := Lib.hid (heap_alloc_new wr (.cells #[.int .i64 0, .int .i64 10, .int .i64 0, .int .i64 3600] 62))
      have RA := Lib.hid (Row.off (X := fun _ => False) HT.out (Off.of_below ba) (fun _ _ h => h))
      have OA := Lib.hid (HO.out.trans (Off.of_below (X := fun q => q = w.heap.size + 1 + 1 + 1) ba) (fun _ _ h => h))
      have XQa := Lib.hid ((ba.block _ (block_lt XQi.out)).trans XQi.out)
      clear ba
      go_wp2_with (at_builtin; go_loud (refine wpList_append_Tk _ rfl (.tmp 20) (.tmp 23) rfl w1.heap.size _ 0 lnT rfl RA.out wr.heap.size ⟨0, 10, 0, 3600⟩ rfl 62 (0, 0) XB.out (by omega) OA.out.size ?_))
      intro g2 cap w4 k1 k2 k3 k4 r4 o4
      have hq := fun q (h : (Value.slice ta 0 tc).ownBlock = some q) => (World.ownsRow.lt RA.out q h).1
      have XQ4 := Lib.hid ((o4.block _ (block_lt XQa.out) (fun h => by have := hq _ h; have := HQS.out; omega)).trans XQa.out)
      have O4 := Lib.hid (OA.out.trans o4 (fun i hi h => by have := hq _ h; omega))
      have R4 : Hid (Row w4 w1.heap.size 62 4 (.slice (some ⟨g2, 0, none⟩) 1 cap) 1 (tkf lnT)) := Lib.hid (Row.congr r4 (fun i hi => by
        obtain rfl : i = 0 := by omega
        rfl))
      clear p0 p1 p2 p3 p4 pf zp hq r4 o4 k4 OA XQa RA XB HO HT XQi
      have p2 := cell_at XQ4.out 2
      have pf := fun j => free_at XQ4.out j
      have zp := szs (block_lt XQ4.out)
      go_wp2_with fail
      go_roundw
      case rel =>
        refine ⟨1, some ⟨g2, 0, none⟩, cap, by go_num, by omega, Lib.hid ?_, Lib.hid ?_, Lib.hid ?_⟩
        · rw [setCell_at XQ4.out]; exact setAt_same (block_lt XQ4.out)
        · exact Row.off R4.out (off_setCell w4 (w.heap.size + 1 + 1 + 1) _ _) (fun b hb e => by have := (World.ownsRow.lt R4.out b hb).1; have e : b = w.heap.size + 1 + 1 + 1 := e; have := HQS.out; omega)
        · exact O4.out.trans (off_setCell w4 (w.heap.size + 1 + 1 + 1) _ _) (fun _ _ h => h)
      case measure => simp [intOf]
    · obtain rfl : i = 1 := by omega
      have XRi := Lib.hid ((HO.out.block _ (block_lt XR.out) (by omega)).trans XR.out)
      have XEi := Lib.hid ((HO.out.block _ (block_lt XE.out) (by omega)).trans XE.out)
      have XDi := Lib.hid ((HO.out.block _ (block_lt XD.out) (by omega)).trans XD.out)
      have r0 := cell_at XRi.out 0
      have r1 := cell_at XRi.out 1
      have r2 := cell_at XRi.out 2
      have r3 := cell_at XRi.out 3
      have r4 := cell_at XRi.out 4
      have rf := fun j => free_at XRi.out j
      have zr := szs (block_lt XRi.out)
      go_wp2_with fail
      have hlt' := block_lt XRi.out
      rw [setCell_at XRi.out, setAt_setCell hlt', setAt_setCell hlt', setAt_setCell hlt', setAt_setCell hlt']
      have E4 : (setAt wr w.heap.size (.cells #[.int .i64 3, .slice (some ⟨w.heap.size + 1, 0, none⟩) 3 3, .slice ta 1 tc, .slice (some ⟨w.heap.size + 1 + 1, 0, none⟩) 2 2, .int .i64 10] 32)).heap[w.heap.size]? = some (.cells #[.int .i64 3, .slice (some ⟨w.heap.size + 1, 0, none⟩) 3 3, .slice ta 1 tc, .slice (some ⟨w.heap.size + 1 + 1, 0, none⟩) 2 2, .int .i64 10] 32) := setAt_same hlt'
      have e0 := cell_at E4 0
      have e1 := cell_at E4 1
      have e2 := cell_at E4 2
      have e3 := cell_at E4 3
      have e4 := cell_at E4 4
      have oz := off_setAt (w := wr) (b := w.heap.size) (o := .cells #[.int .i64 3, .slice (some ⟨w.heap.size + 1, 0, none⟩) 3 3, .slice ta 1 tc, .slice (some ⟨w.heap.size + 1 + 1, 0, none⟩) 2 2, .int .i64 10] 32)
      have BW := BB.out.trans (HO.out.toBelow BB.out.size (fun q hq h => by have h : q = w.heap.size + 1 + 1 + 1 := h; omega))
      obtain ⟨_, _, ez, hst⟩ := Row.toSl HT.out (fun i => rfl)
      cases ez
      have se := (sl_ofB (n := 3) (s := 3) (f := ef lnE) XEi.out (ef_len _) rfl (by decide)).off oz (fun gb e h => by cases e; have h : w.heap.size + 1 = w.heap.size := h; omega)
      have sd := (sl_ofB (n := 2) (s := 2) (f := ndf smD) XDi.out (fun _ => rfl) rfl (by decide)).off oz (fun gb e h => by cases e; have h : w.heap.size + 1 + 1 = w.heap.size := h; omega)
      have st := hst.off oz (fun gb e h => by
        subst e
        have := (World.ownsRow.lt HT.out gb.block rfl).1; have h : gb.block = w.heap.size := h; have := HQS.out; omega)
      exact bodyPost_ret (v := .agg #[.int .i64 3, .slice (some ⟨w.heap.size + 1, 0, none⟩) 3 3, .slice ta 1 tc, .slice (some ⟨w.heap.size + 1 + 1, 0, none⟩) 2 2, .int .i64 10]) (by simp [results, Tryz.results33, go_sem, e0, e1, e2, e3, e4]) rfl ⟨some ⟨w.heap.size + 1, 0, none⟩, ta, tc, some ⟨w.heap.size + 1 + 1, 0, none⟩, rfl, ⟨⟨se.hm, se.hc, se.sl⟩, st, sd⟩, below_setAt (Nat.le_refl _) BW⟩
end Go.Proofs.YtlnfhlmgnppcbaaGreat
