/- The best route of a set of needs: one order of them is looked at. -/
import Derived.Test.YtlnfhlmgnppcbaaGreatZTT1
import Derived.Test.YtlnfhlmgnppcbaaGreatZOR2
import Derived.BigQuiet
import Derived.BigRegion
namespace Go.Proofs.YtlnfhlmgnppcbaaGreat
open Go.RowKit Go.ChangeShapes Go.WideShapes Go.Deep
set_option linter.unusedVariables false
set_option linter.unusedSimpArgs false
open Rd
theorem Sl.none {w : World} {n : Nat} {V : Nat → List Value} (hV : ∀ i, (V i).length = n) : Sl w n .none 0 0 V := ⟨by omega, by omega, fun _ => ⟨rfl, rfl⟩, hV, fun i hi => absurd hi (by omega)⟩
def FoundIs (g : Ng) (r : Int) (lo : Nat) (B : Nat → Prop) (w : World) (a : Option Addr) (n c : Nat) (R : Nat → Int) (ok : Bool) : Prop :=
  Sl w 1 a n c (nf R) ∧ (ok = true → walkE g r R n = 0) ∧ (ok = false → a = none ∧ n = 0 ∧ c = 0) ∧ ∀ gb, a = some gb → lo ≤ gb.block ∧ ¬ B gb.block
theorem FoundIs.off {X : Nat → Prop} {g : Ng} {r : Int} {lo : Nat} {B : Nat → Prop} {w w' : World} {a : Option Addr} {n c : Nat} {R : Nat → Int} {ok : Bool} (h : FoundIs g r lo B w a n c R ok) (ho : Off X w w') (hX : ∀ gb, a = some gb → ¬ X gb.block) : FoundIs g r lo B w' a n c R ok :=
  ⟨h.1.off ho hX, h.2⟩
structure FoundB (g : Ng) (r : Int) (wb : World) (O B : Nat) (w : World) : Prop where
  off : Off (fun q => q = O) wb w
  lo : wb.heap.size ≤ B
  o : O < wb.heap.size
  hi : B < w.heap.size
  box : ∃ (a : Option Addr) (n c : Nat) (R : Nat → Int) (q d : Int) (ok : Bool), w.heap[O]? = some (.cells #[.slice a n c, .int .i64 q, .int .i64 d, .bool ok] 188 (0, 0)) ∧ FoundIs g r wb.heap.size (fun b => b = B) w a n c R ok
theorem FoundB.offB {g : Ng} {r : Int} {wb : World} {O B : Nat} {w w' : World} (h : FoundB g r wb O B w) (ho : Off (fun q => q = B) w w') : FoundB g r wb O B w' := by
  obtain ⟨a, n, c, R, q, d, ok, h1, h2⟩ := h.box
  have hl := h.lo
  have hO := h.o
  refine ⟨h.off.trans ho (fun i hi e => by have e : i = B := e; omega), h.lo, h.o, Nat.lt_of_lt_of_le h.hi ho.size, a, n, c, R, q, d, ok, (ho.block _ (block_lt h1) (by omega)).trans h1, h2.off ho (fun gb e hb => (h2.2.2.2 gb e).2 hb)⟩
theorem FoundB.below {g : Ng} {r : Int} {wb : World} {O B : Nat} {w w' : World} (h : FoundB g r wb O B w) (hb : Below w.heap.size w w') : FoundB g r wb O B w' := by
  obtain ⟨a, n, c, R, q, d, ok, h1, h2⟩ := h.box
  exact ⟨h.off.trans (Off.of_below (X := fun _ => False) hb) (fun i hi e => e.elim), h.lo, h.o, Nat.lt_of_lt_of_le h.hi hb.size, a, n, c, R, q, d, ok, (hb.block _ (block_lt h1)).trans h1, h2.off (Off.of_below (X := fun _ => False) hb) (fun _ _ h => h)⟩
def bestG (g : Ng) (r : Int) (lo lo2 B m : Nat) (V : Nat → Int) (s : List Value) (w : World) : Prop :=
  match s with
  | [u] => NumR w lo2 u m V
  | [_, u] => NumR w lo2 u m V
  | [z, _, _] => ∃ a n c R q d ok, z = .agg #[.slice a n c, .int .i64 q, .int .i64 d, .bool ok] ∧ FoundIs g r lo (fun b => b = B) w a n c R ok
  | _ => True
theorem bestG_below {g : Ng} {r : Int} {lo lo2 B m : Nat} {V : Nat → Int} (s : List Value) (w w' : World) (h : bestG g r lo lo2 B m V s w) (hb : Below w.heap.size w w') : bestG g r lo lo2 B m V s w' := by
  unfold bestG at *
  split at h
  · exact Row.off (X := fun _ => False) h (Off.of_below hb) (fun _ _ h => h)
  · exact Row.off (X := fun _ => False) h (Off.of_below hb) (fun _ _ h => h)
  · obtain ⟨a, n, c, R, q, d, ok, e, h2⟩ := h
    exact ⟨a, n, c, R, q, d, ok, e, h2.off (Off.of_below (X := fun _ => False) hb) (fun _ _ h => h)⟩
  · trivial
def bestS (m : Nat) (s : List Value) : Prop :=
  (∃ a c, s = [.slice a m c]) ∨ (∃ a c q, s = [.int .i64 q, .slice a m c]) ∨ ∃ a c q a' n' c' q' d' ok, s = [.agg #[.slice a' n' c', .int .i64 q', .int .i64 d', .bool ok], .int .i64 q, .slice a m c]
set_option maxRecDepth 8000 in
set_option maxHeartbeats 8000000 in
theorem best138 (g : Ng) (r : Int) (w0 wb : World) (bN bA O : Nat) (hg : g.In w0) (hw0 : Below w0.heap.size w0 wb) (hO : w0.heap.size ≤ O) (hN : wb.heap[bN]? = some (.cells g.cells 32 (0, 0))) (hA : wb.heap[bA]? = some (.cells #[.int .i64 r] 3 (0, 0))) (hNO : bN ≠ O) (hAO : bA ≠ O)
    {B base m : Nat} {v : Value} {V : Nat → Int} {w : World} (hJ : FoundB g r wb O B w) (hR : NumR w base v m V) (hv : ∀ gg, v.ownBlock = some gg → gg = B) (hm : m ≤ 6) :
    Calls Tryz.prog 138 #[v, .pointer (some ⟨bN, 0, none⟩), .pointer (some ⟨bA, 0, none⟩), .pointer (some ⟨O, 0, none⟩)] w fun e w' => e = .returned (.tuple #[]) ∧ FoundB g r wb O B w' ∧ Off (fun q => q = O) w w' := by
  obtain ⟨ao, c, rfl, hs⟩ := Row.toSl hR (nf_len V)
  have hmc := hs.hm
  have hcc := hs.hc
  have hbw : Below w0.heap.size w0 w := hw0.trans (hJ.off.toBelow hw0.size (fun q hq e => by have e : q = O := e; omega))
  have hN1 := (hJ.off.block _ (block_lt hN) hNO).trans hN
  have hA1 := (hJ.off.block _ (block_lt hA) hAO).trans hA
  have DV := Lib.hid (driving139 g r V m ao c w (hg.below hbw) hs (by omega))
  have HCC : Hid (g.cells = #[.int .i64 g.N, .slice g.ea g.em g.ec, .slice g.ta g.tn g.tc, .slice g.na g.nn g.nc, .int .i64 g.h]) := Lib.hid rfl
  rw [HCC.out] at DV hN1
  have XN := Lib.hid hN1
  have XA := Lib.hid hA1
  have HJ := Lib.hid hJ
  have HS := Lib.hid hs
  have HG := Lib.hid hg
  have HBW := Lib.hid hbw
  have n0 := cell_at XN.out 0
  have n1 := cell_at XN.out 1
  have n2 := cell_at XN.out 2
  have n3 := cell_at XN.out 3
  have n4 := cell_at XN.out 4
  have zn := szs (block_lt XN.out)
  have a0 := cell_at XA.out 0
  have za := szs (block_lt XA.out)
  have HB := Lib.hid (fun hz : walkE g r V m = 0 => wok_of hz)
  clear hN hA hN1 hA1 hJ hs hbw hw0 hR hg
  obtain ⟨E, hE⟩ : ∃ E, E = walkE g r V m := ⟨_, rfl⟩
  have HE := Lib.hid hE
  unfold DrvW at DV
  rw [← hE] at DV HB
  clear hE
  go_enter Tryz.func138, Tryz.ntmps138
  go_wp2_with fail
  refine DV.out.mono ?_
  rintro e w2 ⟨b2, ⟨hne, rfl⟩ | ⟨hz, x, rfl⟩⟩
  · have te : (E == 0) = false := by simpa using hne
    have J2 := Lib.hid (HJ.out.below b2)
    have O2 : Hid (Off (fun q => q = O) w w2) := Lib.hid (Off.of_below b2)
    clear n0 n1 n2 n3 n4 zn a0 za hne DV b2
    go_wp2_with fail
    go_end0
    exact ⟨rfl, J2.out, O2.out⟩
  · have J2 := Lib.hid (HJ.out.below b2)
    have B2 := Lib.hid b2
    obtain ⟨n, hw⟩ := HB.out hz
    have XN2 := Lib.hid ((b2.block _ (block_lt XN.out)).trans XN.out)
    have S2 := Lib.hid (HS.out.below b2)
    obtain ⟨fa, fn, fc, FR, fq, fd, ok, hbx, hfi⟩ := J2.out.box
    have XO := Lib.hid hbx
    have HFI := Lib.hid hfi
    have hfm := hfi.1.hm
    have hfc := hfi.1.hc
    have HW := Lib.hid hw
    have HZ : Hid (walkE g r V m = 0) := Lib.hid (HE.out.symm.trans hz)
    clear n0 n1 n2 n3 n4 zn a0 za DV b2 hbx hfi hw HB
    subst hz
    have n0 := cell_at XN2.out 0
    have n1 := cell_at XN2.out 1
    have n2 := cell_at XN2.out 2
    have n3 := cell_at XN2.out 3
    have n4 := cell_at XN2.out 4
    have zn := szs (block_lt XN2.out)
    have o0 := cell_at XO.out 0
    have o1 := cell_at XO.out 1
    have o2 := cell_at XO.out 2
    have o3 := cell_at XO.out 3
    have zo := szs (block_lt XO.out)
    have CLN := Lib.hid (fun w' (hb : Below w2.heap.size w2 w') => clone53 ao m c (nf V) w' (S2.out.below hb) (fun i u hu => by obtain rfl := List.mem_singleton.1 hu; rfl) (by omega))
    go_wp2_with fail
    have MV := Lib.hid (fun w' (hb : Below w2.heap.size w2 w') => moved140 g V m ao c w' ((HG.out.below HBW.out).below (B2.out.trans (hb.mono B2.out.size))) (S2.out.below hb) (by omega) HW.out.ro.needs (fun i hi => (HW.out.ro.ng.D i hi).2.2))
    have BT := Lib.hid (fun w' (hb : Below w2.heap.size w2 w') a7 c7 (h7 : Sl w' 1 a7 m c7 (nf V)) q => better118 fa a7 fn fc m c7 FR V fq fd q x ok true w' (HFI.out.1.below hb) h7)
    rw [HCC.out] at MV
    (obtain ⟨ι, hne, Fw, fb, hF⟩ := grow_family w2); have hF : ∀ w', (vPlan w2 (bestG g r wb.heap.size w2.heap.size B m V) (bestS m) [2, 5, 8] [] (fun _ => [])).D [] w' → ∃ i, w' = Fw i := hF
    have fn0 := fun i => cell_kept (fb i) n0
    have fn1 := fun i => cell_kept (fb i) n1
    have fn2 := fun i => cell_kept (fb i) n2
    have fn3 := fun i => cell_kept (fb i) n3
    have fn4 := fun i => cell_kept (fb i) n4
    have fo0 := fun i => cell_kept (fb i) o0
    have fo1 := fun i => cell_kept (fb i) o1
    have fo2 := fun i => cell_kept (fb i) o2
    have fo3 := fun i => cell_kept (fb i) o3
    clear n0 n1 n2 n3 n4 o0 o1 o2 o3
    (refine region_chainO (vPlan w2 (bestG g r wb.heap.size w2.heap.size B m V) (bestS m) [2, 5, 8] [] (fun _ => [])) [] [] [0, 1, 3, 4, 6, 2, 5, 7, 8] [9] mixed (by kernel_rfl) (by kernel_rfl) (fun _ _ h => nomatch h) (vPlan_ok (bestG_below) (by simp)) (vPlan_start (trivial)) ?_; refine wpPure_nil ?_; simp only [List.map_cons, List.map_nil, Array.getD_eq_getD_getElem?, List.getElem?_toArray, List.getElem?_cons_zero, List.getElem?_cons_succ, Option.getD_some])
    (repeat (first | (refine wpChainO_skip rfl ?_; simp only [Act.put, List.setIfInBounds_toArray, List.set_cons_succ, List.set_cons_zero]) | (refine wpChainO_quiet hF rfl rfl rfl ?_; intro K hK; go_big_quiet_op; go_big_quiet_on) | (refine wpChainO_pure _ rfl rfl (fun w' _ => by go_simp; try rfl) ?_; simp only [Act.put, List.setIfInBounds_toArray, List.set_cons_succ, List.set_cons_zero])))
    refine wpChainO_vcall 53 #[.slice ao m c] rfl rfl (fun w' => by go_simp) (fun w' hb _ _ => ?_) ?_
    · refine (CLN.out w' hb).mono ?_
      rintro e w7 ⟨v7, rfl, r7, b7⟩
      obtain ⟨a7, c7, rfl, _⟩ := Row.toSl r7 (nf_len V)
      exact ⟨_, rfl, .inl ⟨a7, c7, rfl⟩, Row.base_mono r7 hb.size, b7⟩
    rintro u1 hu
    obtain ⟨a7, c7, rfl⟩ : ∃ a c, u1 = .slice a m c := by
      rcases hu with ⟨a, c, h⟩ | ⟨a, c, q, h⟩ | ⟨a, c, q, a', n', c', q', d', ok, h⟩
      · cases h; exact ⟨_, _, rfl⟩
      · cases h
      · cases h
    clear hu
    simp only [Act.put, List.setIfInBounds_toArray, List.set_cons_succ, List.set_cons_zero]
    (repeat (first | (refine wpChainO_skip rfl ?_; simp only [Act.put, List.setIfInBounds_toArray, List.set_cons_succ, List.set_cons_zero]) | (refine wpChainO_quiet hF rfl rfl rfl ?_; intro K hK; go_big_quiet_op; go_big_quiet_on) | (refine wpChainO_pure _ rfl rfl (fun w' _ => by go_simp; try rfl) ?_; simp only [Act.put, List.setIfInBounds_toArray, List.set_cons_succ, List.set_cons_zero])))
    refine wpChainO_vcall 140 #[.agg #[.int .i64 g.N, .slice g.ea g.em g.ec, .slice g.ta g.tn g.tc, .slice g.na g.nn g.nc, .int .i64 g.h], .slice ao m c] rfl rfl (fun w' => by go_simp) (fun w' hb hg _ => ?_) ?_
    · refine (MV.out w' hb).mono ?_
      rintro e w7 ⟨⟨y, rfl⟩, b7⟩
      exact ⟨_, rfl, .inr (.inl ⟨a7, c7, y, rfl⟩), Row.off (X := fun _ => False) hg (Off.of_below b7) (fun _ _ h => h), b7⟩
    rintro u2 hu
    obtain ⟨y, rfl⟩ : ∃ y, u2 = .int .i64 y := by
      rcases hu with ⟨a, c, h⟩ | ⟨a, c, q, h⟩ | ⟨a, c, q, a', n', c', q', d', ok, h⟩
      · cases h
      · cases h; exact ⟨_, rfl⟩
      · cases h
    clear hu
    simp only [Act.put, List.setIfInBounds_toArray, List.set_cons_succ, List.set_cons_zero]
    (repeat (first | (refine wpChainO_skip rfl ?_; simp only [Act.put, List.setIfInBounds_toArray, List.set_cons_succ, List.set_cons_zero]) | (refine wpChainO_quiet hF rfl rfl rfl ?_; intro K hK; go_big_quiet_op; go_big_quiet_on) | (refine wpChainO_pure _ rfl rfl (fun w' _ => by go_simp; try rfl) ?_; simp only [Act.put, List.setIfInBounds_toArray, List.set_cons_succ, List.set_cons_zero])))
    refine wpChainO_vcall 118 #[.agg #[.slice fa fn fc, .int .i64 fq, .int .i64 fd, .bool ok], .agg #[.slice a7 m c7, .int .i64 y, .int .i64 x, .bool true]] rfl rfl (fun w' => by go_simp) (fun w' hb hg _ => ?_) ?_
    · obtain ⟨a8, c8, e8, s8⟩ := Row.toSl hg (nf_len V)
      cases e8
      refine (BT.out w' hb a7 c7 s8 y).mono ?_
      rintro e w7 ⟨h7, b7⟩
      have hlo : wb.heap.size ≤ w2.heap.size := Nat.le_trans HJ.out.off.size B2.out.size
      have hBw : B < w2.heap.size := J2.out.hi
      rcases h7 with rfl | ⟨_, rfl⟩
      · exact ⟨_, rfl, .inr (.inr ⟨_, _, _, _, _, _, _, _, _, rfl⟩), ⟨_, _, _, V, _, _, _, rfl, s8.below b7, fun _ => HZ.out, fun h => (by cases h), fun gb e => by
          have h1 := World.ownsRow.lt hg gb.block (by
            rcases Row.shape hg with ⟨h, _⟩ | ⟨g9, c9, h, _⟩
            · cases h; cases e
            · cases h; cases e; rfl)
          exact ⟨by omega, by omega⟩⟩, b7⟩
      · exact ⟨_, rfl, .inr (.inr ⟨_, _, _, _, _, _, _, _, _, rfl⟩), ⟨_, _, _, FR, _, _, _, rfl, (HFI.out.off (Off.of_below (X := fun _ => False) (hb.trans (b7.mono hb.size))) (fun _ _ h => h))⟩, b7⟩
    rintro u3 hu
    obtain ⟨a9, n9, c9, q9, d9, ok9, rfl⟩ : ∃ a n c q d ok, u3 = .agg #[.slice a n c, .int .i64 q, .int .i64 d, .bool ok] := by
      rcases hu with ⟨a, c, h⟩ | ⟨a, c, q, h⟩ | ⟨a, c, q, a', n', c', q', d', ok, h⟩
      · cases h
      · cases h
      · cases h; exact ⟨_, _, _, _, _, _, rfl⟩
    clear hu
    simp only [Act.put, List.setIfInBounds_toArray, List.set_cons_succ, List.set_cons_zero]
    (repeat (first | (refine wpChainO_skip rfl ?_; simp only [Act.put, List.setIfInBounds_toArray, List.set_cons_succ, List.set_cons_zero]) | (refine wpChainO_quiet hF rfl rfl rfl ?_; intro K hK; go_big_quiet_op; go_big_quiet_on) | (refine wpChainO_pure _ rfl rfl (fun w' _ => by go_simp; try rfl) ?_; simp only [Act.put, List.setIfInBounds_toArray, List.set_cons_succ, List.set_cons_zero])))
    refine wpChainO_nil (fun w7 hb7 hl7 => ?_)
    have b7 : Below w2.heap.size w2 w7 := hb7.1
    obtain ⟨a', n', c', R9, q', d', ok', e9, hf9⟩ := hb7.2
    cases e9
    have HF9 := Lib.hid hf9
    have J7 := Lib.hid (J2.out.below b7)
    have XO7 := Lib.hid ((b7.block _ (block_lt XO.out)).trans XO.out)
    have O7 : Hid (Off (fun q => q = O) w w7) := Lib.hid (Off.of_below (B2.out.trans (b7.mono B2.out.size)))
    clear hb7 hl7 hF fb hne b7 fn0 fn1 fn2 fn3 fn4 fo0 fo1 fo2 fo3 CLN MV BT hf9 zn zo
    have o0 := cell_at XO7.out 0
    have o1 := cell_at XO7.out 1
    have o2 := cell_at XO7.out 2
    have o3 := cell_at XO7.out 3
    have of := fun j => free_at XO7.out j
    have zo := szs (block_lt XO7.out)
    go_wp2_with fail
    refine onlyN_intro ?_
    go_wp2_with fail
    go_end0
    have hlt := block_lt XO7.out
    rw [setCell_at XO7.out, setAt_setCell hlt, setAt_setCell hlt, setAt_setCell hlt]
    have os : Off (fun q => q = O) w7 (setAt w7 O (.cells #[.slice a9 n9 c9, .int .i64 q9, .int .i64 d9, .bool ok9] 188)) := ⟨rfl, rfl, rfl, by simp [setAt], fun i hi hx => by
      show (w7.heap.setIfInBounds O _)[i]? = _
      rw [Array.getElem?_setIfInBounds_ne (fun e => hx e.symm)]⟩
    have hOl := J7.out.o
    exact ⟨rfl, ⟨J7.out.off.trans os (fun i _ h => h), J7.out.lo, J7.out.o, Nat.lt_of_lt_of_le J7.out.hi os.size, a9, n9, c9, R9, q9, d9, ok9, setAt_same hlt, HF9.out.off os (fun gb e h => by have h : gb.block = O := h; have := (HF9.out.2.2.2 gb e).1; omega)⟩, O7.out.trans os (fun i _ h => h)⟩
end Go.Proofs.YtlnfhlmgnppcbaaGreat
