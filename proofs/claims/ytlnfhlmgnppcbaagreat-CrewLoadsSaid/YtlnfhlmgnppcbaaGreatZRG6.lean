/- The reference's custody: all events, one after the other. -/
import Derived.Test.YtlnfhlmgnppcbaaGreatZRG4
import Derived.Test.YtlnfhlmgnppcbaaGreatZRG5
import Derived.Test.YtlnfhlmgnppcbaaGreatZCMZ
import Derived.BigQuiet
import Derived.BigRegion
namespace Go.Proofs.YtlnfhlmgnppcbaaGreat
open Go.RowKit Go.ChangeShapes Go.WideShapes Go.Deep
set_option linter.unusedVariables false
set_option linter.unusedSimpArgs false
set_option maxRecDepth 8000
theorem infoRj : (Tryz.prog.info? 167).map (fun i => (i.zero, i.size, i.bytes)) = some (some (.agg #[.int .i64 0, .int .i64 0, .int .i64 0]), 3, 24) := by kernel_rfl
def RjR (w : World) (base : Nat) (v : Value) (j : Nat) : Prop := ∃ (q : Nat) (F : Nat → List Value), q ≤ j ∧ (∀ i, (F i).length = 3) ∧ Row w base 167 3 v q F
theorem RjR.off {X : Nat → Prop} {w w' : World} {base j : Nat} {v : Value} (h : RjR w base v j) (ho : Off X w w') (hX : ∀ g, v.ownBlock = some g → ¬ X g) : RjR w' base v j := by
  obtain ⟨q, F, h1, h2, h3⟩ := h
  exact ⟨q, F, h1, h2, Row.off h3 ho hX⟩
theorem RjR.shape {w : World} {base j : Nat} {v : Value} (h : RjR w base v j) : ∃ ra rn rc, v = .slice ra rn rc := by
  obtain ⟨q, F, h1, h2, h3⟩ := h
  obtain ⟨a, c, e, _⟩ := Row.toSl h3 h2
  exact ⟨a, q, c, e⟩
theorem RjR.ne2 {w : World} {base base' j s' n' : Nat} {e' : TypeId} {v v' : Value} {f' : Nat → List Value} (h : RjR w base v j) (h' : Row w base' e' s' v' n' f') (he : 167 ≠ e') {a b : Nat} (ha : v.ownBlock = some a) (hb : v'.ownBlock = some b) : b ≠ a := by
  obtain ⟨q, F, h1, h2, h3⟩ := h
  exact Row.ne2 h3 h' he ha hb
theorem RjR.ne {w : World} {base j b : Nat} {T : TypeId} {v : Value} {cs : Array Value} (h : RjR w base v j) {g : Nat} (hg : v.ownBlock = some g) (hb : w.heap[b]? = some (.cells cs T (0, 0))) (hT : T ≠ 167) : g ≠ b := by
  obtain ⟨q, F, h1, h2, h3⟩ := h
  exact Row.ne h3 hg hb hT
theorem RjR.lt {w : World} {base j : Nat} {v : Value} (h : RjR w base v j) {g : Nat} (hg : v.ownBlock = some g) : base ≤ g ∧ g < w.heap.size := by
  obtain ⟨q, F, h1, h2, h3⟩ := h
  exact World.ownsRow.lt h3 g hg
theorem wpList_append_Rj {ops : Array Oper} {rest : List Oper} {o : Oper} {a : Act} {Q : Exit → Act → World → Prop} (w : World) (hgd : o.guard = none) (x1 x2 : Operand) (ho : o.op = .call { callee := .builtin .append, args := #[x1, x2], argTypes := #[133, 133] })
    (base : Nat) (v : Value) (j : Nat) (hs : a.eval x1 = v) (h1 : RjR w base v j) (b1 : Nat) (d s e : Int) (hx : a.eval x2 = .slice (some ⟨b1, 0, none⟩) 1 1) (ob : TypeId) (fz : Nat × Nat) (hb1 : w.heap[b1]? = some (.cells #[.int .i64 d, .int .i64 s, .int .i64 e] ob fz)) (hn : j ≤ 1000000) (hb : base ≤ w.heap.size)
    (h : ∀ g k cap w', RjR w' base (.slice (some ⟨g, 0, none⟩) k cap) (j + 1) → Off (fun i => v.ownBlock = some i) w w' → wpList Tryz.prog ops Q rest (a.put o.dst (.slice (some ⟨g, 0, none⟩) k cap)) w') : wpList Tryz.prog ops Q (o :: rest) a w := by
  obtain ⟨i0, hi, hz0, hz1, hz2⟩ := info_parts infoRj
  obtain ⟨q, F, hq, hF, hr⟩ := h1
  refine wpList_append_row w hgd x1 x2 133 ho base 167 i0 _ 3 24 Tryz.underlying133 hi hz0 hz1 hz2 rfl (by decide) v q F hs hr hF b1 1 [.int .i64 d, .int .i64 s, .int .i64 e] hx rfl ob fz hb1 (fun u hu => by
    simp only [List.mem_cons, List.not_mem_nil, or_false] at hu
    rcases hu with rfl | rfl | rfl <;> rfl) (by omega) (by unfold maxLen; omega) hb ?_
  intro g cap w' k1 k2 k3 k4 k5 r b
  refine h g (q + 1) cap w' ⟨q + 1, _, by omega, fun i => ?_, r⟩ ((Off.of_grown b).mono (fun i _ hh => ?_))
  · unfold upd; split
    · rfl
    · exact hF i
  · first | exact hh | exact hh.symm
def RunR (f : Fl) (l : List Ev) (w : World) (e : Ending) (w' : World) : Prop :=
  Below w.heap.size w w' ∧ ∃ (sa : Option Addr) (n1 sc : Nat) (ta : Option Addr) (n2 tc : Nat) (ra : Option Addr) (rn rc : Nat) (av : Value) (m : Nat) (R : Nat → Ev), e = .returned (.tuple #[.agg #[.slice sa n1 sc, .slice ta n2 tc], av, .slice ra rn rc]) ∧ EvRow w' w.heap.size av m R ∧ ents R m = (runE f l).2
def AccR (w : World) (base : Nat) (v : Value) (l : List Ev) : Prop := ∃ R2, EvRow w base v l.length R2 ∧ ents R2 l.length = l
theorem AccR.off {X : Nat → Prop} {w w' : World} {base : Nat} {v : Value} {l : List Ev} (h : AccR w base v l) (ho : Off X w w') (hX : ∀ g, v.ownBlock = some g → ¬ X g) : AccR w' base v l := by
  obtain ⟨R2, h1, h2⟩ := h
  exact ⟨R2, Row.off h1 ho hX, h2⟩
theorem AccR.shape {w : World} {base : Nat} {v : Value} {l : List Ev} (h : AccR w base v l) : ∃ ra rc, v = .slice ra l.length rc := by
  obtain ⟨R2, h1, _⟩ := h
  obtain ⟨a, c, e, _⟩ := EvRow.toSl h1
  exact ⟨a, c, e⟩
theorem ROwn.inn {w : World} {base n : Nat} {s : CSt} {sa ta : Option Addr} {sc tc : Nat} (h : ROwn w base n s (.slice sa n sc) (.slice ta s.k tc)) : RIn w n s sa sc ta tc := by
  obtain ⟨_, _, _, _, e1, e2, h1⟩ := h.toIn
  cases e1
  cases e2
  exact h1
theorem ROwn.off {X : Nat → Prop} {w w' : World} {base n : Nat} {s : CSt} {sv tv : Value} (h : ROwn w base n s sv tv) (ho : Off X w w') (h1 : ∀ g, sv.ownBlock = some g → ¬ X g) (h2 : ∀ g, tv.ownBlock = some g → ¬ X g) : ROwn w' base n s sv tv :=
  ⟨Row.off h.sp ho h1, Row.off h.tr ho h2⟩
theorem faultE_no {f : Fl} {s : CSt} {e : Ev} (h : faultE f s e ≠ 0) : checkE f e ≠ 0 ∨ e.kind = 10 ∨ faultK f s e ≠ 0 := by
  unfold faultE at h
  split at h
  · exact .inl h
  · split at h
    · exact absurd rfl h
    · exact .inr (.inr h)
theorem faultE_yes {f : Fl} {s : CSt} {e : Ev} (h : faultE f s e = 0) : checkE f e = 0 ∧ (e.kind ≠ 10 → faultK f s e = 0) := by
  unfold faultE at h
  split at h
  · rename_i h1; exact absurd h h1
  · rename_i h1
    refine ⟨Decidable.not_not.1 h1, fun hk => ?_⟩
    rw [if_neg hk] at h; exact h
set_option maxHeartbeats 16000000 in
theorem runR65 (f : Fl) (ao : Option Addr) (n c : Nat) (F : Nat → Ev) (w : World) (hf : f.In w) (hs : EvSl w ao n c F) (hn : n ≤ 1000) (hin : ∀ e ∈ ents F n, inN e) (hfl : fleetE f = 0) :
    Calls Tryz.prog 65 #[.agg f.cells, .slice ao n c] w (RunR f (ents F n) w) := by
  have BB : Hid (Below w.heap.size w ((w.alloc (.cells f.cells 24)).alloc (.cells #[.slice none 0 0, .slice none 0 0] 122))) := Lib.hid (by (repeat' (first | (with_reducible exact Below.refl _ _) | (with_reducible assumption) | (with_reducible refine Below.drew ?_) | (with_reducible refine below_drewN ?_ _) | (with_reducible refine Below.alloc ?_ ?_ _) | (with_reducible refine Below.setCell ?_ ?_ _) | go_size)))
  have X0 := Lib.hid (al_keep (al_at w (.cells f.cells 24) rfl) (.cells #[.slice none 0 0, .slice none 0 0] 122))
  have X1 := Lib.hid (al_at (w.alloc (.cells f.cells 24)) (.cells #[.slice none 0 0, .slice none 0 0] 122) (k := w.heap.size + 1) (by simp))
  obtain ⟨w1, hw1⟩ : ∃ w1, w1 = (w.alloc (.cells f.cells 24)).alloc (.cells #[.slice none 0 0, .slice none 0 0] 122) := ⟨_, rfl⟩
  rw [← hw1] at BB X0 X1
  have HW1 := Lib.hid hw1
  have HF := Lib.hid (hf.below BB.out)
  have hbk := (fleetE_zero hfl).1
  have ST := Lib.hid (set95 ao n c F w1 (hs.below BB.out) (by omega))
  have HSI := Lib.hid (set_in hin)
  have HSN : Hid ((setE (ents F n)).length ≤ n) := Lib.hid (by have := setE_len (ents F n); rwa [ents_len] at this)
  have HFC : Hid (f.cells = #[.int .i64 f.bikes, .int .i64 f.riders, .int .i64 f.devs, .slice f.ad f.nd f.cd, .slice f.a2 f.nt f.ct]) := Lib.hid rfl
  have hmc := hs.hm
  have hcc := hs.hc
  rw [HFC.out] at X0 HW1 ⊢
  clear hw1 hf hs hin hfl
  have x0 := cell_at X0.out 0
  have x1 := cell_at X0.out 1
  have x2 := cell_at X0.out 2
  have x3 := cell_at X0.out 3
  have x4 := cell_at X0.out 4
  have zx := szs (block_lt X0.out)
  go_enter Tryz.func65, Tryz.ntmps65
  go_wp2_with fail
  rw [← HW1.out]
  refine ST.out.mono ?_
  rintro e w2 ⟨v2, m, R, rfl, hR, hrow, b2⟩
  obtain ⟨a2, c2, rfl, s2⟩ := EvRow.toSl hrow
  have S2 := Lib.hid s2
  have hm2 := s2.hm
  have hc2 := s2.hc
  have hmn : m ≤ n := by have := HSN.out; rw [← hR, ents_len] at this; exact this
  have HRN := Lib.hid (fun i (hi : i < m) => HSI.out (R i) (by rw [← hR]; exact mem_ents.2 ⟨i, hi, rfl⟩))
  have HRR := Lib.hid (setE_run (f := f) hR)
  have BG := Lib.hid (beginR57 f w2 (by omega) (by omega))
  rw [HFC.out] at BG
  have B2 := Lib.hid b2
  replace x0 := cell_kept b2 x0
  replace x1 := cell_kept b2 x1
  replace x2 := cell_kept b2 x2
  replace x3 := cell_kept b2 x3
  replace x4 := cell_kept b2 x4
  clear zx ST HSI HSN hR hrow s2 b2
  have zx := szs (cell_lt x0)
  dsimp only at zx
  go_wp2_with fail
  refine BG.out.mono ?_
  rintro e w3 ⟨sv, tv, rfl, ro, b3⟩
  obtain ⟨sa, sc, ta, tc, rfl, htv, _⟩ := ro.toIn
  have htv : tv = .slice ta 0 tc := htv
  subst htv
  have B3 := Lib.hid (B2.out.trans (b3.mono B2.out.size))
  have HZ : Hid (w.heap.size + 1 + 1 ≤ w1.heap.size ∧ w1.heap.size ≤ w2.heap.size ∧ w2.heap.size ≤ w3.heap.size) := Lib.hid ⟨block_lt X1.out, B2.out.size, b3.size⟩
  have RI := Lib.hid (ROwn.base_mono ro (Nat.le_refl _))
  have S3 := Lib.hid (S2.out.below b3)
  replace X0 := Lib.hid ((B3.out.block _ (block_lt X0.out)).trans X0.out)
  replace X1 := Lib.hid ((B3.out.block _ (block_lt X1.out)).trans X1.out)
  have HF3 := Lib.hid (HF.out.below B3.out)
  have BB3 := Lib.hid (BB.out.trans (B3.out.mono BB.out.size))
  clear x0 x1 x2 x3 x4 zx ro b3 BG B2 S2 B3 HF BB
  obtain ⟨nb, hnb⟩ : ∃ nb, nb = f.bikes.toNat := ⟨_, rfl⟩
  have HNB := Lib.hid hnb
  rw [← hnb] at RI ⊢
  clear hnb
  clear htv
  have HRG : Hid (∀ k, k ≤ m → RunH f (runK f (ents R m) k) k) := Lib.hid (fun k => by
    induction k with
    | zero => exact fun _ => RunH.zero f _
    | succ k ih => exact fun h => (ih (by omega)).next (by omega) (HRN.out k (by omega)))
  have HLN := Lib.hid (fun k => runK_len f (ents R m) k)
  have HNX := Lib.hid (fun k (h : k < m) => runK_next (f := f) (R := R) h)
  have HK0 := Lib.hid (runK_zero f (ents R m))
  generalize hrk : runK f (ents R m) = rk at *
  clear hrk
  have B4 : Hid (Below w3.heap.size w3 (((w3.alloc (.cells #[.slice sa nb sc, .slice ta 0 tc] 122)).alloc (.cells #[] 81)).alloc (.cells #[] 167))) := Lib.hid (by (repeat' (first | (with_reducible exact Below.refl _ _) | (with_reducible assumption) | (with_reducible refine Below.drew ?_) | (with_reducible refine below_drewN ?_ _) | (with_reducible refine Below.alloc ?_ ?_ _) | (with_reducible refine Below.setCell ?_ ?_ _) | go_size)))
  have X8 := Lib.hid (al_keep (al_keep (al_at w3 (.cells #[.slice sa nb sc, .slice ta 0 tc] 122) rfl) (.cells #[] 81)) (.cells #[] 167))
  have X9 := Lib.hid (al_keep (al_at (w3.alloc (.cells #[.slice sa nb sc, .slice ta 0 tc] 122)) (.cells #[] 81) (k := w3.heap.size + 1) (by simp)) (.cells #[] 167))
  have X10 := Lib.hid (al_at ((w3.alloc (.cells #[.slice sa nb sc, .slice ta 0 tc] 122)).alloc (.cells #[] 81)) (.cells #[] 167) (k := w3.heap.size + 1 + 1) (by simp))
  obtain ⟨w4, hw4⟩ : ∃ w4, w4 = ((w3.alloc (.cells #[.slice sa nb sc, .slice ta 0 tc] 122)).alloc (.cells #[] 81)).alloc (.cells #[] 167) := ⟨_, rfl⟩
  rw [← hw4] at B4 X8 X9 X10
  have HW4 := Lib.hid hw4
  have RI4 : Hid (ROwn w4 w2.heap.size nb startS (.slice sa nb sc) (.slice ta startS.k tc)) := Lib.hid (RI.out.below B4.out)
  have YA0 : Hid (AccR w4 (w3.heap.size + 1) (.slice (some ⟨w3.heap.size + 1, 0, none⟩) 0 0) []) := Lib.hid ⟨fun _ => ⟨0, 0, 0, 0, 0, 0, 0, 0, 0⟩, row_empty (Nat.le_refl _) X9.out, rfl⟩
  have YJ0 : Hid (RjR w4 (w3.heap.size + 1) (.slice (some ⟨w3.heap.size + 1 + 1, 0, none⟩) 0 0) 0) := Lib.hid ⟨0, fun _ => [.int .i64 0, .int .i64 0, .int .i64 0], Nat.le_refl _, fun _ => rfl, row_empty (by omega) X10.out⟩
  have YZ0 : Hid (w3.heap.size + 1 ≤ w4.heap.size) := Lib.hid (block_lt X8.out)
  clear hw4 RI X9 X10
  go_wp2_with fail
  rw [← HW4.out]
  clear HW4
  go_loopw [9, 10, 11] (fun s9 s10 s11 wr => ∃ (j : Nat) (av rv : Value) (sa' : Option Addr) (sc' : Nat) (ta' : Option Addr) (tc' : Nat), s11 = .int .i64 j ∧ j ≤ m ∧ s9 = av ∧ s10 = rv ∧ Hid (wr.heap[w3.heap.size]? = some (.cells #[.slice sa' nb sc', .slice ta' (rk j).1.k tc'] 122 (0, 0))) ∧
    Hid (ROwn wr w2.heap.size nb (rk j).1 (.slice sa' nb sc') (.slice ta' (rk j).1.k tc')) ∧ Hid (AccR wr (w3.heap.size + 1) av (rk j).2) ∧ Hid (RjR wr (w3.heap.size + 1) rv j) ∧ Hid (Below w3.heap.size w3 wr) ∧ Hid (w3.heap.size + 1 ≤ wr.heap.size)) (fun _ _ s11 _ => m - (intOf s11).toNat)
  case atStart => exact ⟨0, _, _, sa, sc, ta, tc, rfl, by omega, rfl, rfl, Lib.hid (by rw [HK0.out]; exact X8.out), Lib.hid (by rw [HK0.out]; exact RI4.out), Lib.hid (by rw [HK0.out]; exact YA0.out), YJ0, B4, YZ0⟩
  case round =>
    clear X8 RI4 YA0 YJ0 B4 YZ0 HK0
    obtain ⟨j, av, rv, sa', sc', ta', tc', rfl, hj, rfl, rfl, y8, yi, ya, yj, yb, yz⟩ := hrel
    have Y8 := y8
    have YI := yi
    have YA := ya
    have YJ := yj
    have YB := yb
    have YZ := yz
    clear y8 yi ya yj yb yz
    by_cases hlt : j < m
    · have tj : (j : Int) < (m : Int) := by omega
      obtain ⟨g, o, rfl, hg, ea⟩ := evs_at (S3.out.below YB.out) hlt
      have zg := szs hg
      have hin := HRN.out j hlt
      have HIN := Lib.hid hin
      have RH := Lib.hid (HRG.out j (by omega))
      have hfew := RH.out.few
      have hlen := HLN.out j
      have N1 := Lib.hid (HNX.out j hlt)
      have FA := Lib.hid (fun w' (hb : Below wr.heap.size wr w') => faultR96 f (sa := sa') (ta := ta') (sc := sc') (tc := tc') (s := (rk j).1) (w := w') ((HF3.out.below YB.out).below hb) (by rw [← HNB.out]; exact (YI.out.below hb).inn) RH.out.inv (R j) hin)
      rw [HFC.out, ← HNB.out] at FA
      clear HRG HNX HRN HLN hin
      generalize hy : R j = y at *
      obtain ⟨v1, v2, v3, v4, v5, v6, v7, v8, v9⟩ := y
      unfold eC at FA
      dsimp only at FA
      (have y0 := (ea).c0; have y1 := (ea).c1; have y2 := (ea).c2; have y3 := (ea).c3; have y4 := (ea).c4; have y5 := (ea).c5; have y6 := (ea).c6; have y7 := (ea).c7; have y8 := (ea).c8); (try dsimp only at y0 y1 y2 y3 y4 y5 y6 y7 y8)
      have x0 := cell_kept YB.out (cell_at X0.out 0)
      have x1 := cell_kept YB.out (cell_at X0.out 1)
      have x2 := cell_kept YB.out (cell_at X0.out 2)
      have x3 := cell_kept YB.out (cell_at X0.out 3)
      have x4 := cell_kept YB.out (cell_at X0.out 4)
      try dsimp only at x0 x1 x2 x3 x4
      have zx := szs (cell_lt x0)
      dsimp only at zx
      have s0 := cell_at Y8.out 0
      have s1 := cell_at Y8.out 1
      have zs := szs (block_lt Y8.out)
      have BA : Hid (Below wr.heap.size wr (wr.alloc (.cells #[.int .i64 v1, .int .i64 v2, .int .i64 v3, .int .i64 v4, .int .i64 v5, .int .i64 v6, .int .i64 v7, .int .i64 v8, .int .i64 v9] 81))) := Lib.hid (by (repeat' (first | (with_reducible exact Below.refl _ _) | (with_reducible assumption) | (with_reducible refine Below.drew ?_) | (with_reducible refine below_drewN ?_ _) | (with_reducible refine Below.alloc ?_ ?_ _) | (with_reducible refine Below.setCell ?_ ?_ _) | go_size)))
      have XE := Lib.hid (al_at wr (.cells #[.int .i64 v1, .int .i64 v2, .int .i64 v3, .int .i64 v4, .int .i64 v5, .int .i64 v6, .int .i64 v7, .int .i64 v8, .int .i64 v9] 81) rfl)
      go_wp2_with fail
      refine (FA.out _ BA.out).mono ?_
      rintro e w6 ⟨rfl, b6⟩
      have b6' := BA.out.trans (b6.mono BA.out.size)
      have HWR : Hid (w3.heap.size < wr.heap.size) := Lib.hid (by have := YZ.out; omega)
      replace XE := Lib.hid ((b6.block _ (block_lt XE.out)).trans XE.out)
      replace Y8 := Lib.hid ((b6'.block _ (block_lt Y8.out)).trans Y8.out)
      replace YI := Lib.hid (YI.out.below b6')
      replace YA := Lib.hid (YA.out.off (X := fun _ => False) (Off.of_below b6') (fun _ _ h => h))
      replace YJ := Lib.hid (YJ.out.off (X := fun _ => False) (Off.of_below b6') (fun _ _ h => h))
      replace YB := Lib.hid (YB.out.trans (b6'.mono YB.out.size))
      replace YZ := Lib.hid (Nat.le_trans YZ.out b6'.size)
      clear x0 x1 x2 x3 x4 zx
      clear s0 s1 zs zg ea hg FA BA b6 b6' y0 y1 y2 y3 y4 y5 y6 y7 y8 S3
      obtain ⟨ra, rn, rc, rfl⟩ := YJ.out.shape
      obtain ⟨aa, ac, rfl⟩ := YA.out.shape
      obtain ⟨x, hx⟩ : ∃ x, x = faultE f (rk j).1 ⟨v1, v2, v3, v4, v5, v6, v7, v8, v9⟩ := ⟨_, rfl⟩
      rw [← hx]
      have HX := Lib.hid hx
      clear hx
      by_cases hx0 : x = 0
      · subst hx0
        obtain ⟨hc, hfk⟩ := faultE_yes HX.out.symm
        by_cases h10 : v5 = 10
        · subst h10
          have HS1 : Hid (rk (j + 1) = rk j) := Lib.hid (by rw [N1.out]; exact step_no (.inr (.inl rfl)))
          have e4 := cell_at XE.out 4
          have ze := szs (block_lt XE.out)
          clear hc hfk HX
          go_wp2_with fail
          go_roundw
          case rel => exact ⟨j + 1, _, _, sa', sc', ta', tc', by go_num, by omega, rfl, rfl, Lib.hid (by rw [HS1.out]; exact Y8.out), Lib.hid (by rw [HS1.out]; exact YI.out), Lib.hid (by rw [HS1.out]; exact YA.out), Lib.hid (by obtain ⟨q, F9, h1, h2⟩ := YJ.out; exact ⟨q, F9, by omega, h2⟩), YB, YZ⟩
          case measure => simp [intOf]; omega
        · have t10 : (v5 != 10) = true := by simpa using h10
          have HS1 : Hid (rk (j + 1) = (applyK (rk j).1 ⟨v1, v2, v3, v4, v5, v6, v7, v8, v9⟩, (rk j).2 ++ [⟨v1, v2, v3, v4, v5, v6, v7, v8, v9⟩])) := Lib.hid (by rw [N1.out]; exact step_yes hc h10 (hfk h10))
          have AP := applyR59 HNB.out YI.out.inn (by rw [HNB.out]; exact RH.out.inv) (by have := HNB.out; omega) (by omega) ⟨v1, v2, v3, v4, v5, v6, v7, v8, v9⟩ hc h10 (hfk h10)
          unfold eC at AP
          dsimp only at AP
          replace AP := Lib.hid AP
          clear hc hfk HX
          have e0 := cell_at XE.out 0
          have e1 := cell_at XE.out 1
          have e2 := cell_at XE.out 2
          have e3 := cell_at XE.out 3
          have e4 := cell_at XE.out 4
          have e5 := cell_at XE.out 5
          have e6 := cell_at XE.out 6
          have e7 := cell_at XE.out 7
          have e8 := cell_at XE.out 8
          have ze := szs (block_lt XE.out)
          have s0 := cell_at Y8.out 0
          have s1 := cell_at Y8.out 1
          have zs := szs (block_lt Y8.out)
          go_wp2_with fail
          refine AP.out.mono ?_
          rintro e w7 ⟨sv, tv, rfl, ro7, b7⟩
          clear e0 e1 e2 e3 e4 e5 e6 e7 e8 ze
          clear s0 s1 zs
          replace XE := Lib.hid ((b7.block _ (block_lt XE.out)).trans XE.out)
          have hle6 : w2.heap.size ≤ w6.heap.size ∧ w3.heap.size < w6.heap.size := by have := YZ.out; have := HZ.out; omega
          have H7 := Lib.hid (ROwn.base_mono (base := w2.heap.size) ro7 hle6.1)
          have HB7 : Hid (∀ g', (sv.ownBlock = some g' ∨ tv.ownBlock = some g') → w3.heap.size < g') := Lib.hid (fun g' h => by
            rcases h with h | h
            · have := (World.ownsRow.lt ro7.sp g' h).1; omega
            · have := (World.ownsRow.lt ro7.tr g' h).1; omega)
          replace Y8 := Lib.hid ((b7.block _ (block_lt Y8.out)).trans Y8.out)
          replace YI := Lib.hid (YI.out.below b7)
          replace YA := Lib.hid (YA.out.off (X := fun _ => False) (Off.of_below b7) (fun _ _ h => h))
          replace YJ := Lib.hid (YJ.out.off (X := fun _ => False) (Off.of_below b7) (fun _ _ h => h))
          replace YB := Lib.hid (YB.out.trans (b7.mono YB.out.size))
          replace YZ := Lib.hid (Nat.le_trans YZ.out b7.size)
          obtain ⟨K7, hK7⟩ : ∃ K7, K7 = (applyK (rk j).1 ⟨v1, v2, v3, v4, v5, v6, v7, v8, v9⟩).k := ⟨_, rfl⟩
          obtain ⟨sa7, sc7, ta7, tc7, rfl, htv, _⟩ := ro7.toIn
          rw [← hK7] at htv
          subst htv
          have HK7 := Lib.hid hK7
          clear ro7 b7 AP hle6 hK7
          have s0 := cell_at Y8.out 0
          have s1 := cell_at Y8.out 1
          have fr := fun i => free_at Y8.out i
          have zs := szs (block_lt Y8.out)
          have h8 := put2 Y8.out (.slice sa7 nb sc7) (.slice ta7 K7 tc7)
          have o8 := off2 w7 w3.heap.size (.slice sa7 nb sc7) (.slice ta7 K7 tc7)
          obtain ⟨w8, hw8⟩ : ∃ w8, w8 = (w7.setCell ⟨w3.heap.size, 0, none⟩ (.slice sa7 nb sc7)).setCell ⟨w3.heap.size, 1, none⟩ (.slice ta7 K7 tc7) := ⟨_, rfl⟩
          rw [← hw8] at h8 o8
          have HW8 := Lib.hid hw8
          replace XE := Lib.hid ((o8.block _ (block_lt XE.out) (fun h => by have h : wr.heap.size = w3.heap.size := h; have := HWR.out; omega)).trans XE.out)
          have Y9 := Lib.hid h8
          replace H7 := Lib.hid (H7.out.off o8 (fun gg hgg h => by have h : gg = w3.heap.size := h; have := HB7.out gg (.inl hgg); omega) (fun gg hgg h => by have h : gg = w3.heap.size := h; have := HB7.out gg (.inr hgg); omega))
          replace YA := Lib.hid (YA.out.off o8 (fun gg hgg h => by obtain ⟨R9, h1, _⟩ := YA.out; exact Row.ne h1 hgg Y8.out (by decide) h))
          replace YJ := Lib.hid (YJ.out.off o8 (fun gg hgg h => YJ.out.ne hgg Y8.out (by decide) h))
          replace YB := Lib.hid (YB.out.trans (o8.toBelow YB.out.size (fun q hq h => by have h : q = w3.heap.size := h; omega)))
          replace YZ := Lib.hid (Nat.le_trans YZ.out o8.size)
          clear h8 o8 hw8 HB7 YI
          go_simp
          iterate 8 go_step
          rw [← HW8.out]
          clear s0 s1 zs
          clear fr HW8 Y8
          obtain ⟨R9, ra9, re9⟩ := YA.out
          have RA9 := Lib.hid ra9
          have RE9 := Lib.hid re9
          clear ra9 re9 YA
          have BR : Below w8.heap.size w8 (w8.alloc (.cells #[.int .i64 v1, .int .i64 v2, .int .i64 v3, .int .i64 v4, .int .i64 v5, .int .i64 v6, .int .i64 v7, .int .i64 v8, .int .i64 v9] 81)) := by (repeat' (first | (with_reducible exact Below.refl _ _) | (with_reducible assumption) | (with_reducible refine Below.drew ?_) | (with_reducible refine below_drewN ?_ _) | (with_reducible refine Below.alloc ?_ ?_ _) | (with_reducible refine Below.setCell ?_ ?_ _) | go_size))
          have XR := Lib.hid (al_at w8 (.cells #[.int .i64 v1, .int .i64 v2, .int .i64 v3, .int .i64 v4, .int .i64 v5, .int .i64 v6, .int .i64 v7, .int .i64 v8, .int .i64 v9] 81) rfl)
          have e0 := cell_at XE.out 0
          have e1 := cell_at XE.out 1
          have e2 := cell_at XE.out 2
          have e3 := cell_at XE.out 3
          have e4 := cell_at XE.out 4
          have e5 := cell_at XE.out 5
          have e6 := cell_at XE.out 6
          have e7 := cell_at XE.out 7
          have e8 := cell_at XE.out 8
          have ze := szs (block_lt XE.out)
          replace Y9 := Lib.hid ((BR.block _ (block_lt Y9.out)).trans Y9.out)
          replace H7 := Lib.hid (H7.out.below BR)
          replace RA9 := Lib.hid (Row.off (X := fun _ => False) RA9.out (Off.of_below BR) (fun _ _ h => h))
          replace YJ := Lib.hid (YJ.out.off (X := fun _ => False) (Off.of_below BR) (fun _ _ h => h))
          replace YB := Lib.hid (YB.out.trans (BR.mono YB.out.size))
          replace YZ := Lib.hid (Nat.le_trans YZ.out BR.size)
          have hle := YZ.out
          go_wp2_with (at_builtin; go_loud (refine wpList_append_Eo _ rfl (.tmp 51) (.tmp 53) rfl (w3.heap.size + 1) _ _ R9 rfl RA9.out w8.heap.size ⟨v1, v2, v3, v4, v5, v6, v7, v8, v9⟩ rfl 81 (0, 0) XR.out (by omega) hle ?_))
          intro g10 c10 w10 q1 q2 q3 q4 r10 o10
          replace Y9 := Lib.hid ((o10.block _ (block_lt Y9.out) (fun h => Row.ne RA9.out h Y9.out (by decide) rfl)).trans Y9.out)
          replace H7 := Lib.hid (H7.out.off o10 (fun gg hgg h => Row.ne2 RA9.out H7.out.sp (by decide) h hgg rfl) (fun gg hgg h => Row.ne2 RA9.out H7.out.tr (by decide) h hgg rfl))
          replace YJ := Lib.hid (YJ.out.off o10 (fun gg hgg h => by obtain ⟨q9, F9, _, _, h3⟩ := YJ.out; exact Row.ne2 RA9.out h3 (by decide) h hgg rfl))
          replace YB := Lib.hid (YB.out.trans (o10.toBelow YB.out.size (fun q hq h => by have := (World.ownsRow.lt RA9.out q h).1; omega)))
          replace YZ := Lib.hid (Nat.le_trans YZ.out o10.size)
          have R10 := Lib.hid r10
          clear e0 e1 e2 e3 e4 e5 e6 e7 e8 ze
          clear BR XR hle q4 r10 o10 XE
          go_wp2_with fail
          go_roundw
          case rel =>
            refine ⟨j + 1, _, _, sa7, sc7, ta7, tc7, by go_num, by omega, rfl, rfl, Lib.hid ?_, Lib.hid ?_, Lib.hid ?_, Lib.hid ?_, YB, YZ⟩
            · rw [HS1.out, ← HK7.out]; exact Y9.out
            · rw [HS1.out, ← HK7.out]; exact H7.out
            · rw [HS1.out]
              refine ⟨upd R9 (rk j).2.length ⟨v1, v2, v3, v4, v5, v6, v7, v8, v9⟩, ?_, ?_⟩
              · rw [List.length_append, List.length_singleton]; exact R10.out
              · rw [List.length_append, List.length_singleton, ents_push, RE9.out]
            · obtain ⟨q9, F9, h1, h2⟩ := YJ.out
              exact ⟨q9, F9, by omega, h2⟩
          case measure => simp [intOf]; omega
      · have tx : (x != 0) = true := by simpa using hx0
        have HS1 : Hid (rk (j + 1) = rk j) := Lib.hid (by rw [N1.out]; exact step_no (faultE_no (by rw [← HX.out]; exact hx0)))
        have e0 := cell_at XE.out 0
        have e1 := cell_at XE.out 1
        have ze := szs (block_lt XE.out)
        have BR : Below w6.heap.size w6 (w6.alloc (.cells #[.int .i64 v1, .int .i64 v2, .int .i64 x] 167)) := by (repeat' (first | (with_reducible exact Below.refl _ _) | (with_reducible assumption) | (with_reducible refine Below.drew ?_) | (with_reducible refine below_drewN ?_ _) | (with_reducible refine Below.alloc ?_ ?_ _) | (with_reducible refine Below.setCell ?_ ?_ _) | go_size))
        have XR := Lib.hid (al_at w6 (.cells #[.int .i64 v1, .int .i64 v2, .int .i64 x] 167) rfl)
        replace Y8 := Lib.hid ((BR.block _ (block_lt Y8.out)).trans Y8.out)
        replace YI := Lib.hid (YI.out.below BR)
        replace YA := Lib.hid (YA.out.off (X := fun _ => False) (Off.of_below BR) (fun _ _ h => h))
        replace YJ := Lib.hid (YJ.out.off (X := fun _ => False) (Off.of_below BR) (fun _ _ h => h))
        replace YB := Lib.hid (YB.out.trans (BR.mono YB.out.size))
        replace YZ := Lib.hid (Nat.le_trans YZ.out BR.size)
        have hle := YZ.out
        clear hx0 HX
        go_wp2_with (at_builtin; go_loud (refine wpList_append_Rj _ rfl (.tmp 36) (.tmp 43) rfl (w3.heap.size + 1) _ j rfl YJ.out w6.heap.size v1 v2 x rfl 167 (0, 0) XR.out (by omega) hle ?_))
        intro g7 k7 c7 w7 r7 o7
        replace Y8 := Lib.hid ((o7.block _ (block_lt Y8.out) (fun h => YJ.out.ne h Y8.out (by decide) rfl)).trans Y8.out)
        replace YI := Lib.hid (YI.out.off o7 (fun gg hgg h => YJ.out.ne2 YI.out.sp (by decide) h hgg rfl) (fun gg hgg h => YJ.out.ne2 YI.out.tr (by decide) h hgg rfl))
        replace YA := Lib.hid (YA.out.off o7 (fun gg hgg h => by obtain ⟨R9, h1, _⟩ := YA.out; exact YJ.out.ne2 h1 (by decide) h hgg rfl))
        replace YB := Lib.hid (YB.out.trans (o7.toBelow YB.out.size (fun q hq h => by have := (YJ.out.lt h).1; omega)))
        replace YZ := Lib.hid (Nat.le_trans YZ.out o7.size)
        clear e0 e1 ze BR XR hle
        go_wp2_with fail
        go_roundw
        case rel => exact ⟨j + 1, _, _, sa', sc', ta', tc', by go_num, by omega, rfl, rfl, Lib.hid (by rw [HS1.out]; exact Y8.out), Lib.hid (by rw [HS1.out]; exact YI.out), Lib.hid (by rw [HS1.out]; exact YA.out), Lib.hid r7, YB, YZ⟩
        case measure => simp [intOf]; omega
    · obtain rfl : j = m := by omega
      obtain ⟨ra, rn, rc, rfl⟩ := YJ.out.shape
      obtain ⟨aa, ac, rfl⟩ := YA.out.shape
      have m0 := cell_kept YB.out (cell_at X1.out 0)
      have K1 := Lib.hid ((YB.out.block _ (block_lt X1.out)).trans X1.out)
      have m0 := cell_at K1.out 0
      have m1 := cell_at K1.out 1
      have fr := fun i => free_at K1.out i
      have zm := szs (block_lt K1.out)
      have s0 := cell_at Y8.out 0
      have s1 := cell_at Y8.out 1
      have zs := szs (block_lt Y8.out)
      have BW := Lib.hid (BB3.out.trans (YB.out.mono BB3.out.size))
      clear hlt hj HRN HRG HNX HLN S3 HF3 X0 X1
      go_wp2_with fail
      show bodyPost _ _ _ Exit.ret _ _
      have KZ := put2 K1.out (.slice sa' nb sc') (.slice ta' (rk j).1.k tc')
      have OZ := off2 wr (w.heap.size + 1) (.slice sa' nb sc') (.slice ta' (rk j).1.k tc')
      have RZ := Lib.hid (YA.out.off OZ (fun gg hgg h => by obtain ⟨R9, h1, _⟩ := YA.out; exact Row.ne h1 hgg K1.out (by decide) h))
      have BZ := Lib.hid (BW.out.trans (OZ.toBelow BW.out.size (fun q hq h => by have h : q = w.heap.size + 1 := h; omega)))
      clear fr zm m0 m1 OZ s0 s1 zs K1 BW YA YJ YB YZ YI Y8
      generalize World.setCell (World.setCell wr _ _) _ _ = w9 at *
      have k0 := cell_at KZ 0
      have k1 := cell_at KZ 1
      have zk := szs (block_lt KZ)
      obtain ⟨R9, r1, r2⟩ := RZ.out
      exact bodyPost_ret (v := .tuple #[.agg #[.slice sa' nb sc', .slice ta' (rk j).1.k tc'], .slice aa (rk j).2.length ac, .slice ra rn rc]) (by simp [results, Tryz.results65, go_sem, k0, k1]) rfl ⟨BZ.out, _, _, _, _, _, _, _, _, _, _, _, R9, rfl, Row.base_mono r1 (by have := HZ.out; omega), by rw [← HRR.out]; exact r2⟩
end Go.Proofs.YtlnfhlmgnppcbaaGreat
