/- Crew's reference: what is kept of a route. -/
import Derived.Test.YtlnfhlmgnppcbaaGreatRF7
import Derived.Test.YtlnfhlmgnppcbaaGreatRFA
import Derived.Test.YtlnfhlmgnppcbaaGreatCTA
import Derived.BigQuiet
import Derived.BigRegion
namespace Go.Proofs.YtlnfhlmgnppcbaaGreat
open Go.RowKit Go.ChangeShapes Go.WideShapes Go.Deep
set_option linter.unusedVariables false
set_option linter.unusedSimpArgs false
set_option maxRecDepth 8000
open Rd
theorem ir_none (w : World) (base : Nat) (V : Nat → Int) : IntRow w base (.slice none 0 0) 0 V := ⟨rfl, .inl ⟨rfl, rfl⟩⟩
theorem wpList_append_Is {ops : Array Oper} {rest : List Oper} {o : Oper} {a : Act} {Q : Exit → Act → World → Prop} (w : World) (hgd : o.guard = none) (x1 x2 : Operand) (ho : o.op = .call { callee := .builtin .append, args := #[x1, x2], argTypes := #[22, 22] })
    (hs : a.eval x1 = .slice none 0 0) (ao : Option Addr) (m c : Nat) (F : Nat → Int) (hx : a.eval x2 = .slice ao m c) (h2 : Sl w 1 ao m c (nf F)) (hn : m ≤ 1000000) (base : Nat) (hb : base ≤ w.heap.size)
    (h : ∀ v' w', IntRow w' base v' m F → Below w.heap.size w w' → wpList Tryz.prog ops Q rest (a.put o.dst v') w') : wpList Tryz.prog ops Q (o :: rest) a w := by
  obtain ⟨i0, hi, hz0, hz1, hz2⟩ := info_parts infoI3
  refine wpList_append_sl w hgd x1 x2 22 ho base 3 i0 _ 1 8 Tryz.underlying22 hi hz0 hz1 hz2 rfl (by decide) (.slice none 0 0) 0 (nf F) hs (ir_none w base F) (fun i => rfl) ao m c (nf F) hx (fun i => rfl) h2.hno h2.sl (fun i u hu => by obtain rfl := List.mem_singleton.1 hu; rfl) (by omega) (by unfold maxLen; omega) hb ?_
  intro v' w' r g f
  refine h v' w' ?_ ((Off.of_grown g).toBelow (Nat.le_refl _) (fun q hq hh => by simp [Value.ownBlock] at hh))
  rw [Nat.zero_add] at r
  exact Row.congr r (fun i _ => by simp [cat])
set_option maxHeartbeats 16000000 in
theorem cutR24 (g : Ng) (r : Int) (R : Nat → Int) (k : Nat) (ra : Option Addr) (rc : Nat) (done now : Int) (w : World) (hg : g.In w) (hR : Sl w 1 ra k rc (nf R)) (hk : k ≤ 1000) :
    Calls Tryz.prog 24 #[.agg g.cells, .agg #[.int .i64 r, .slice ra k rc], .int .i64 done, .int .i64 now] w (CutW g r R k done now w) := by
  have BB : Hid (Below w.heap.size w (((w.alloc (.cells g.cells 32)).alloc (.cells #[.int .i64 r, .slice ra k rc] 51)).alloc (.cells #[.int .i64 0, .slice none 0 0] 51))) := Lib.hid (by (repeat' (first | (with_reducible exact Below.refl _ _) | (with_reducible assumption) | (with_reducible refine Below.drew ?_) | (with_reducible refine below_drewN ?_ _) | (with_reducible refine Below.alloc ?_ ?_ _) | (with_reducible refine Below.setCell ?_ ?_ _) | go_size)))
  have X0 := Lib.hid (al_keep (al_keep (al_at w (.cells g.cells 32) rfl) (.cells #[.int .i64 r, .slice ra k rc] 51)) (.cells #[.int .i64 0, .slice none 0 0] 51))
  have X1 := Lib.hid (al_keep (al_at (w.alloc (.cells g.cells 32)) (.cells #[.int .i64 r, .slice ra k rc] 51) (k := w.heap.size + 1) (by simp)) (.cells #[.int .i64 0, .slice none 0 0] 51))
  have X8 := Lib.hid (al_at ((w.alloc (.cells g.cells 32)).alloc (.cells #[.int .i64 r, .slice ra k rc] 51)) (.cells #[.int .i64 0, .slice none 0 0] 51) (k := w.heap.size + 1 + 1) (by simp))
  obtain ⟨w1, hw1⟩ : ∃ w1, w1 = ((w.alloc (.cells g.cells 32)).alloc (.cells #[.int .i64 r, .slice ra k rc] 51)).alloc (.cells #[.int .i64 0, .slice none 0 0] 51) := ⟨_, rfl⟩
  rw [← hw1] at BB X0 X1 X8
  have HW1 := Lib.hid hw1
  have HCC : Hid (g.cells = #[.int .i64 g.N, .slice g.ea g.em g.ec, .slice g.ta g.tn g.tc, .slice g.na g.nn g.nc, .int .i64 g.h]) := Lib.hid rfl
  have WK := Lib.hid (begun51 g r R k ra rc done now w1 (hg.below BB.out) (hR.below BB.out) hk)
  rw [HCC.out] at WK X0 HW1 ⊢
  have HG := Lib.hid hg
  have HR := Lib.hid hR
  have hrm := hR.hm
  have hrc := hR.hc
  have htm := hg.trucks.hm
  have htc := hg.trucks.hc
  have hnm := hg.needs.hm
  have hnc := hg.needs.hc
  obtain ⟨E, hE⟩ : ∃ E, E = lateE g r R k done now := ⟨_, rfl⟩
  have HE := Lib.hid hE
  unfold BegunW at WK
  rw [← hE] at WK
  have HCE : Hid (E ≠ 0 → cutE g r R k done now = E) := Lib.hid (fun hne => by unfold cutE; rw [if_pos (by rw [← hE]; exact hne)]; exact hE.symm)
  clear hw1 hg hR hE
  go_enter Tryz.func24, Tryz.ntmps24
  go_wp2_with fail
  rw [← HW1.out]
  have n0 := cell_kept (Below.refl w1.heap.size w1) (cell_at X0.out 0)
  have n1 := cell_kept (Below.refl w1.heap.size w1) (cell_at X0.out 1)
  have n2 := cell_kept (Below.refl w1.heap.size w1) (cell_at X0.out 2)
  have n3 := cell_kept (Below.refl w1.heap.size w1) (cell_at X0.out 3)
  have n4 := cell_kept (Below.refl w1.heap.size w1) (cell_at X0.out 4)
  have r0 := cell_kept (Below.refl w1.heap.size w1) (cell_at X1.out 0)
  have r1 := cell_kept (Below.refl w1.heap.size w1) (cell_at X1.out 1)
  try dsimp only at n0 n1 n2 n3 n4 r0 r1
  have zn := szs (cell_lt n0)
  have zr := szs (cell_lt r0)
  dsimp only at zn zr
  go_wp2_with fail
  refine WK.out.mono ?_
  rintro e w2 ⟨b2, h2⟩
  have B2 := Lib.hid (BB.out.trans (b2.mono BB.out.size))
  have X8b := Lib.hid ((b2.block _ (block_lt X8.out)).trans X8.out)
  have hb2 := Lib.hid b2
  clear n0 n1 n2 n3 n4 r0 r1 zn zr
  clear WK b2 X8
  rcases h2 with ⟨hne, rfl⟩ | ⟨hz, rfl⟩
  · have te : (E != 0) = true := by simpa using hne
    have HN := Lib.hid hne
    have HCE2 := Lib.hid (HCE.out hne)
    have m0 := cell_at X8b.out 0
    have m1 := cell_at X8b.out 1
    have fr := fun j => free_at X8b.out j
    have zm := szs (block_lt X8b.out)
    clear hne
    go_wp2_with fail
    show bodyPost _ _ _ Exit.ret _ _
    have KZ := put2 X8b.out (.int .i64 0) (.slice none 0 0)
    have OZ := off2 w2 (w.heap.size + 1 + 1) (.int .i64 0) (.slice none 0 0)
    have BZ := Lib.hid (B2.out.trans (OZ.toBelow B2.out.size (fun q hq h => by have h : q = w.heap.size + 1 + 1 := h; omega)))
    clear fr zm m0 m1 OZ X8b
    generalize World.setCell (World.setCell w2 _ _) _ _ = w9 at *
    have k0 := cell_at KZ 0
    have k1 := cell_at KZ 1
    have zk := szs (block_lt KZ)
    exact bodyPost_ret (v := .tuple #[.agg #[.int .i64 0, .slice none 0 0], .int .i64 E]) (by simp [results, Tryz.results24, go_sem, k0, k1]) rfl ⟨BZ.out, .inl ⟨by rw [HCE2.out]; exact HN.out, by rw [HCE2.out]⟩⟩
  · subst hz
    obtain ⟨n, d, hw, hwz, rfl, hdk, hn0, hn1, hpn⟩ := late_ok HE.out.symm
    have HWO := Lib.hid hw
    have HROAD := Lib.hid (nok_of (g := g) (by
      have h9 := hwz
      unfold walkE at h9
      split at h9
      · rename_i h1; exact absurd h9 h1
      · rename_i h1; exact Decidable.not_not.1 h1)).choose_spec.2
    have HD : Hid (((d : Int)).toNat = d) := Lib.hid (Int.toNat_natCast _)
    have hk16 := hw.ro.k16
    have hr0 := hw.ro.r0
    have hr1 := hw.ro.r1
    obtain ⟨tk, htk⟩ : ∃ tk, tk = g.T r.toNat := ⟨_, rfl⟩
    have HTK : Hid (g.T r.toNat = tk) := Lib.hid htk.symm
    rw [Int.toNat_natCast, HTK.out]
    obtain ⟨pa, hpa⟩ : ∃ pa, pa = atK g tk R d := ⟨_, rfl⟩
    obtain ⟨pl, hpl⟩ : ∃ pl, pl = loadK g R d := ⟨_, rfl⟩
    have HPA := Lib.hid hpa
    have HPL := Lib.hid hpl
    rw [← hpa, ← hpl]
    have hld := hw.load_all hdk
    have htk2 := hw.ro.tk
    have hatd := hw.ro.at hdk
    rw [HTK.out] at hld htk2 hatd
    rw [← hpa] at hatd
    rw [← hpl] at hld
    have hab := abs_mul (mv := pl) (h := g.h) (by omega) (by omega) hw.ro.ng.h0 hw.ro.ng.h1
    have hSB := hw.ro.ng.S_bd hatd tk.dep
    have HFR : Hid (fitsB g tk ⟨pa, pl, now⟩ = decide (now + g.S pa tk.dep + pl * g.h ≤ tk.til)) := Lib.hid (by
      have := fits_ref hw (p := ⟨pa, pl, now⟩) hdk (by rw [HTK.out]; exact hpa)
      rw [HTK.out] at this; exact this)
    have HCEF : Hid (fitsB g tk ⟨pa, pl, now⟩ = false → cutE g r R k (d : Int) now = 25) := Lib.hid (fun h => by
      unfold cutE
      rw [if_neg (by rw [← HE.out]; simp), if_pos (by rw [HTK.out, HD.out, ← hpa, ← hpl]; exact h)])
    have HCET : Hid (fitsB g tk ⟨pa, pl, now⟩ = true → cutE g r R k (d : Int) now = 0) := Lib.hid (fun h => by
      unfold cutE
      rw [if_neg (by rw [← HE.out]; simp), if_neg (by rw [HTK.out, HD.out, ← hpa, ← hpl, h]; simp)])
    obtain ⟨q, hq0⟩ := Int.eq_ofNat_of_zero_le hr0
    have hq : q < g.tn := by omega
    have tq : (q : Int) < (g.tn : Int) := by omega
    obtain ⟨tb, to, htb, hg4, p0, p1, p2, p3⟩ := (HG.out.below B2.out).trucks.tk hq
    have zt := szs hg4
    have e5 : g.T q = tk := by rw [htk, hq0]; rfl
    rw [e5] at p0 p1 p2 p3
    have HQ0 := Lib.hid hq0
    obtain ⟨d1, d2, d3, d4⟩ := tk
    have HCT : Hid (g.cells = #[.int .i64 g.N, .slice g.ea g.em g.ec, .slice (some ⟨tb, to, none⟩) g.tn g.tc, .slice g.na g.nn g.nc, .int .i64 g.h]) := Lib.hid (by rw [HCC.out, htb])
    have SC := Lib.hid (fun w' (hb : Below w.heap.size w w') a b ha hb' => secs55 (a := a) (b := b) hw.ro.ng HROAD.out w' (HG.out.below hb) ha hb')
    rw [HCT.out] at SC
    rw [← HCC.out, HCT.out] at X0
    rw [hq0] at X1
    dsimp only at p0 p1 p2 p3 htk2 hSB hatd hld
    have n0 := cell_kept hb2.out (cell_at X0.out 0)
    have n1 := cell_kept hb2.out (cell_at X0.out 1)
    have n2 := cell_kept hb2.out (cell_at X0.out 2)
    have n3 := cell_kept hb2.out (cell_at X0.out 3)
    have n4 := cell_kept hb2.out (cell_at X0.out 4)
    have r0 := cell_kept hb2.out (cell_at X1.out 0)
    have r1 := cell_kept hb2.out (cell_at X1.out 1)
    try dsimp only at n0 n1 n2 n3 n4 r0 r1
    have zn := szs (cell_lt n0)
    have zr := szs (cell_lt r0)
    dsimp only at zn zr
    have X14 := Lib.hid (al_at w2 (.cells #[.int .i64 d1, .int .i64 d2, .int .i64 d3, .int .i64 d4] 62) rfl)
    have b3 : Below w2.heap.size w2 (w2.alloc (.cells #[.int .i64 d1, .int .i64 d2, .int .i64 d3, .int .i64 d4] 62)) := by (repeat' (first | (with_reducible exact Below.refl _ _) | (with_reducible assumption) | (with_reducible refine Below.drew ?_) | (with_reducible refine below_drewN ?_ _) | (with_reducible refine Below.alloc ?_ ?_ _) | (with_reducible refine Below.setCell ?_ ?_ _) | go_size))
    obtain ⟨w3, hw3⟩ : ∃ w3, w3 = w2.alloc (.cells #[.int .i64 d1, .int .i64 d2, .int .i64 d3, .int .i64 d4] 62) := ⟨_, rfl⟩
    rw [← hw3] at X14 b3
    have HW3 := Lib.hid hw3
    have B3 := Lib.hid (B2.out.trans (b3.mono B2.out.size))
    have hb3 := Lib.hid (hb2.out.trans (b3.mono hb2.out.size))
    have hS8 : Hid (w3.heap[w.heap.size + 1 + 1]? = _) := Lib.hid ((b3.block _ (block_lt X8b.out)).trans X8b.out)
    clear htk hpa hpl e5 htb hw hwz hq0 hw3 b3 hr0 hr1 hpn X8b
    go_wp2_with fail
    rw [← HW3.out]
    clear p0 p1 p2 p3 zt hg4
    clear n0 n1 n2 n3 n4 r0 r1 zn zr
    generalize hb14 : w2.heap.size = b14 at *
    have HB14 := Lib.hid hb14
    clear hb14 HW3 hb2
    have n0 := cell_kept hb3.out (cell_at X0.out 0)
    have n1 := cell_kept hb3.out (cell_at X0.out 1)
    have n2 := cell_kept hb3.out (cell_at X0.out 2)
    have n3 := cell_kept hb3.out (cell_at X0.out 3)
    have n4 := cell_kept hb3.out (cell_at X0.out 4)
    have r0 := cell_kept hb3.out (cell_at X1.out 0)
    have r1 := cell_kept hb3.out (cell_at X1.out 1)
    try dsimp only at n0 n1 n2 n3 n4 r0 r1
    have zn := szs (cell_lt n0)
    have zr := szs (cell_lt r0)
    dsimp only at zn zr
    have k0 := cell_at X14.out 0
    have k1 := cell_at X14.out 1
    have k2 := cell_at X14.out 2
    have k3 := cell_at X14.out 3
    have zk := szs (block_lt X14.out)
    (obtain ⟨ι, hne, Fw, fb, hF⟩ := grow_family w3); have hF : ∀ w', (gPlan w3 (fun _ => .int .i64 (g.S pa d1)) [5] [] []).D () w' → ∃ i, w' = Fw i := hF
    have fn0 := fun i => cell_kept (fb i) n0
    have fn1 := fun i => cell_kept (fb i) n1
    have fn2 := fun i => cell_kept (fb i) n2
    have fn3 := fun i => cell_kept (fb i) n3
    have fn4 := fun i => cell_kept (fb i) n4
    have fr0 := fun i => cell_kept (fb i) r0
    have fr1 := fun i => cell_kept (fb i) r1
    clear n0 n1 n2 n3 n4 r0 r1 zn zr
    have fk0 := fun i => cell_kept (fb i) k0
    have fk1 := fun i => cell_kept (fb i) k1
    have fk2 := fun i => cell_kept (fb i) k2
    have fk3 := fun i => cell_kept (fb i) k3
    clear k0 k1 k2 k3 zk
    (refine region_chain (gPlan w3 (fun _ => .int .i64 (g.S pa d1)) [5] [] []) () [] [0, 1, 2, 3, 4, 7, 8, 9, 10, 12, 13, 14, 5, 6, 11, 15] [] mixed (by kernel_rfl) (by kernel_rfl) (gPlan_ok (by simp) (by simp)) (gPlan_start _ _ _ _ _) ?_; refine wpPure_nil ?_; simp only [List.map_cons, List.map_nil, Array.getD_eq_getD_getElem?, List.getElem?_toArray, List.getElem?_cons_zero, List.getElem?_cons_succ, Option.getD_some])
    (repeat (first | (refine wpChain_skip rfl ?_; simp only [Act.put, List.setIfInBounds_toArray, List.set_cons_succ, List.set_cons_zero]) | (refine wpChain_quiet hF rfl rfl rfl ?_; intro K hK; go_big_quiet_op; go_big_quiet_on) | (refine wpChain_pure _ rfl rfl (fun w' _ => by go_simp; try rfl) ?_; simp only [Act.put, List.setIfInBounds_toArray, List.set_cons_succ, List.set_cons_zero])))
    refine wpChain_gcall 55 #[.agg #[.int .i64 g.N, .slice g.ea g.em g.ec, .slice (some ⟨tb, to, none⟩) g.tn g.tc, .slice g.na g.nn g.nc, .int .i64 g.h], .int .i64 pa, .int .i64 d1] rfl rfl (fun w' => by go_simp) (fun w' hb => SC.out w' (B3.out.trans (hb.mono B3.out.size)) pa d1 hatd htk2.1) ?_
    simp only [Act.put, List.setIfInBounds_toArray, List.set_cons_succ, List.set_cons_zero]
    (repeat (first | (refine wpChain_skip rfl ?_; simp only [Act.put, List.setIfInBounds_toArray, List.set_cons_succ, List.set_cons_zero]) | (refine wpChain_quiet hF rfl rfl rfl ?_; intro K hK; go_big_quiet_op; go_big_quiet_on) | (refine wpChain_pure _ rfl rfl (fun w' _ => by go_simp; try rfl) ?_; simp only [Act.put, List.setIfInBounds_toArray, List.set_cons_succ, List.set_cons_zero])))
    refine wpChain_nil (fun w4 hbw4 hl4 => ?_)
    have b4 : Below w3.heap.size w3 w4 := hbw4
    have B4 := Lib.hid (B3.out.trans (b4.mono B3.out.size))
    have hb4 := Lib.hid (hb3.out.trans (b4.mono hb3.out.size))
    replace X14 := Lib.hid ((b4.block _ (block_lt X14.out)).trans X14.out)
    have X8b := Lib.hid ((b4.block _ (block_lt hS8.out)).trans hS8.out)
    clear hbw4 hl4 hF fb hne b4 fn0 fn1 fn2 fn3 fn4 fr0 fr1 fk0 fk1 fk2 fk3 hS8 B3 hb3 B2
    refine onlyN_intro ?_
    by_cases ht : d4 < now + g.S pa d1 + pl * g.h
    · have tt : decide (d4 < now + g.S pa d1 + pl * g.h) = true := decide_eq_true ht
      have HC25 := Lib.hid (HCEF.out (by rw [HFR.out]; exact decide_eq_false (by show ¬ (now + g.S pa d1 + pl * g.h ≤ d4); omega)))
      have m0 := cell_at X8b.out 0
      have m1 := cell_at X8b.out 1
      have fr := fun j => free_at X8b.out j
      have zm := szs (block_lt X8b.out)
      go_wp2_with fail
      show bodyPost _ _ _ Exit.ret _ _
      have KZ := put2 X8b.out (.int .i64 0) (.slice none 0 0)
      have OZ := off2 w4 (w.heap.size + 1 + 1) (.int .i64 0) (.slice none 0 0)
      have BZ := Lib.hid (B4.out.trans (OZ.toBelow B4.out.size (fun q hq h => by have h : q = w.heap.size + 1 + 1 := h; omega)))
      clear fr zm m0 m1 OZ X8b
      generalize World.setCell (World.setCell w4 _ _) _ _ = w9 at *
      have k0 := cell_at KZ 0
      have k1 := cell_at KZ 1
      have zk := szs (block_lt KZ)
      exact bodyPost_ret (v := .tuple #[.agg #[.int .i64 0, .slice none 0 0], .int .i64 25]) (by simp [results, Tryz.results24, go_sem, k0, k1]) rfl ⟨BZ.out, .inl ⟨by rw [HC25.out]; exact by decide, by rw [HC25.out]⟩⟩
    · have tt : decide (d4 < now + g.S pa d1 + pl * g.h) = false := decide_eq_false ht
      have HF1 : Hid (fitsB g ⟨d1, d2, d3, d4⟩ ⟨pa, pl, now⟩ = true) := Lib.hid (by rw [HFR.out]; exact decide_eq_true (by show now + g.S pa d1 + pl * g.h ≤ d4; omega))
      have HC0 := Lib.hid (HCET.out HF1.out)
      clear HCET HCEF HFR
      have n0 := cell_kept hb4.out (cell_at X0.out 0)
      have n1 := cell_kept hb4.out (cell_at X0.out 1)
      have n2 := cell_kept hb4.out (cell_at X0.out 2)
      have n3 := cell_kept hb4.out (cell_at X0.out 3)
      have n4 := cell_kept hb4.out (cell_at X0.out 4)
      have r0 := cell_kept hb4.out (cell_at X1.out 0)
      have r1 := cell_kept hb4.out (cell_at X1.out 1)
      try dsimp only at n0 n1 n2 n3 n4 r0 r1
      have zn := szs (cell_lt n0)
      have zr := szs (cell_lt r0)
      dsimp only at zn zr
      go_wp2_with fail
      clear n0 n1 n2 n3 n4 r0 r1 zn zr
      have X15 := Lib.hid (al_at w4 (.cells #[.int .i64 (q : Int), .slice none 0 0] 51) rfl)
      have H15 : Hid (w.heap.size + 1 + 1 < w4.heap.size ∧ b14 < w4.heap.size) := Lib.hid ⟨block_lt X8b.out, block_lt X14.out⟩
      have b5 : Below w4.heap.size w4 (w4.alloc (.cells #[.int .i64 (q : Int), .slice none 0 0] 51)) := by (repeat' (first | (with_reducible exact Below.refl _ _) | (with_reducible assumption) | (with_reducible refine Below.drew ?_) | (with_reducible refine below_drewN ?_ _) | (with_reducible refine Below.alloc ?_ ?_ _) | (with_reducible refine Below.setCell ?_ ?_ _) | go_size))
      obtain ⟨w5, hw5⟩ : ∃ w5, w5 = w4.alloc (.cells #[.int .i64 (q : Int), .slice none 0 0] 51) := ⟨_, rfl⟩
      rw [← hw5] at X15 b5 ⊢
      have B5 := Lib.hid (B4.out.trans (b5.mono B4.out.size))
      have hb5 := Lib.hid (hb4.out.trans (b5.mono hb4.out.size))
      replace X14 := Lib.hid ((b5.block _ (block_lt X14.out)).trans X14.out)
      replace X8b := Lib.hid ((b5.block _ (block_lt X8b.out)).trans X8b.out)
      clear b5 hw5 hb4
      generalize hb15 : w4.heap.size = b15 at *
      have hlt15 : Hid (w.heap.size + 1 + 1 < b15 ∧ b14 < b15) := H15
      clear hb15 B4 H15
      have HDK : Hid (d ≤ k) := Lib.hid hdk
      have HF2 : Hid (fitsB g (g.T r.toNat) ⟨atK g (g.T r.toNat) R d, loadK g R d, now⟩ = true) := Lib.hid (by rw [HTK.out, ← HPA.out, ← HPL.out]; exact HF1.out)
      have HCI := Lib.hid (fun (j : Nat) (hj : d + j ≤ k) => And.intro (cut_inv HWO.out hdk hn0 HF2.out hj) (cut_now_le HWO.out hdk hn0 HF2.out hj))
      have HOK := Lib.hid (fun (j : Nat) (hj : j < k) (p : Cs) (i : Nat) (hi : i ≤ k) hat => ok_ref HWO.out hj (p := p) (i := i) hi hat)
      have HCL : Hid (cutL g r R k (d : Int) now = (cutK g (g.T r.toNat) R d now (k - d)).2) := Lib.hid (by unfold cutL; rw [HD.out])
      have HAT := Lib.hid (fun (i : Nat) (hi : i ≤ k) => HWO.out.ro.at hi)
      rw [HTK.out] at HCI HOK HCL HAT
      have HST : Hid (cutK g ⟨d1, d2, d3, d4⟩ R d now 0 = (⟨pa, pl, now⟩, (List.range d).map R)) := Lib.hid (by rw [HPA.out, HPL.out]; rfl)
      clear HF1 HF2 HB14
      cases ra with
      | none =>
        obtain ⟨h0, rfl⟩ := HR.out.hno rfl
        subst h0
        obtain rfl : d = 0 := by omega
        have n0 := cell_kept hb5.out (cell_at X0.out 0)
        have n1 := cell_kept hb5.out (cell_at X0.out 1)
        have n2 := cell_kept hb5.out (cell_at X0.out 2)
        have n3 := cell_kept hb5.out (cell_at X0.out 3)
        have n4 := cell_kept hb5.out (cell_at X0.out 4)
        have r0 := cell_kept hb5.out (cell_at X1.out 0)
        have r1 := cell_kept hb5.out (cell_at X1.out 1)
        try dsimp only at n0 n1 n2 n3 n4 r0 r1
        have zn := szs (cell_lt n0)
        have zr := szs (cell_lt r0)
        dsimp only at zn zr
        have c0 := cell_at X15.out 0
        have c1 := cell_at X15.out 1
        have fr := fun j => free_at X15.out j
        have zc := szs (block_lt X15.out)
        (refine region_order (fun i : Nat => World.drewN _ i) [] [0, 1, 2, 3, 4, 5] 6 [7, 8] mixed (by kernel_rfl) ⟨1, rfl⟩ ?_; simp only [List.map_cons, List.map_nil, Array.getD_eq_getD_getElem?, List.getElem?_toArray, List.getElem?_cons_zero, List.getElem?_cons_succ, Option.getD_some]; (repeat (refine wpPure_cons _ rfl (fun w' => by go_simp; try rfl) ?_; dsimp only [Act.put])); refine wpPure_nil ?_; (repeat (any_goals (first | go_big_quiet_step (fail) | quiet_step (fail) | (refine wpQuiet_step (fun K hK => ?_); go_simp; split <;> (refine hK _ ?_; clear hK K))))); (all_goals (refine wpQuiet_nil (fun nq => ?_))))
        have b6 : Below w5.heap.size w5 (w5.drewN nq) := below_drewN (Below.refl _ _) nq
        have B6 := Lib.hid (B5.out.trans (b6.mono B5.out.size))
        clear n0 n1 n2 n3 n4 r0 r1 zn zr
        clear c0 c1 fr zc
        refine wpList_append_Is (w5.drewN nq) rfl (.tmp 61) (.tmp 65) rfl rfl none 0 0 R rfl (Sl.cut (HR.out.below B6.out) HDK.out) (by omega) w.heap.size B6.out.size ?_
        intro v7 w7 r7 b7
        obtain ⟨a7, c7, rfl, _⟩ := Row.toSl r7 (fun _ => rfl)
        replace b7 := b6.trans (b7.mono b6.size)
        replace X14 := Lib.hid ((b7.block _ (block_lt X14.out)).trans X14.out)
        replace X15 := Lib.hid ((b7.block _ (block_lt X15.out)).trans X15.out)
        replace X8b := Lib.hid ((b7.block _ (block_lt X8b.out)).trans X8b.out)
        have hb7 := Lib.hid (hb5.out.trans (b7.mono hb5.out.size))
        have B7 := Lib.hid (B5.out.trans (b7.mono B5.out.size))
        have R7 := Lib.hid r7
        have Y0 := Lib.hid ((hb7.out.block _ (block_lt X0.out)).trans X0.out)
        have Y1 := Lib.hid ((hb7.out.block _ (block_lt X1.out)).trans X1.out)
        clear b6 B6 b7 r7 B5 hb5 hb7
        have c0 := cell_at X15.out 0
        have c1 := cell_at X15.out 1
        have fr := fun j => free_at X15.out j
        have zc := szs (block_lt X15.out)
        go_wp2_with fail
        have o8 : Off (fun q => q = b15) w7 (w7.setCell ⟨b15, 1, none⟩ (.slice a7 0 c7)) := (Off.refl (fun q => q = b15) w7).setCell (p := ⟨b15, 1, none⟩) (fun _ => rfl) _
        have h15 : (w7.setCell ⟨b15, 1, none⟩ (.slice a7 0 c7)).heap[b15]? = some (.cells #[.int .i64 (q : Int), .slice a7 0 c7] 51 (0, 0)) := by
          rw [setCell_at X15.out, setAt_same (block_lt X15.out)]; rfl
        replace Y0 := Lib.hid ((o8.block _ (block_lt Y0.out) (ne_type Y0.out X15.out (by decide))).trans Y0.out)
        replace Y1 := Lib.hid ((o8.block _ (block_lt Y1.out) (fun h => by have h : w.heap.size + 1 = b15 := h; have := hlt15.out; omega)).trans Y1.out)
        replace X8b := Lib.hid ((o8.block _ (block_lt X8b.out) (fun h => by have h : w.heap.size + 1 + 1 = b15 := h; have := hlt15.out; omega)).trans X8b.out)
        replace X14 := Lib.hid ((o8.block _ (block_lt X14.out) (ne_type X14.out X15.out (by decide))).trans X14.out)
        replace R7 := Lib.hid (Row.off R7.out o8 (fun gg hgg h => Row.ne R7.out hgg X15.out (by decide) h))
        replace B7 := Lib.hid (B7.out.trans (o8.toBelow B7.out.size (fun q hq h => by have h : q = b15 := h; have := hlt15.out; omega)))
        replace X15 := Lib.hid h15
        clear c0 c1 fr zc o8 h15
        generalize World.setCell w7 _ _ = w8 at *
        refine onlyN_intro ?_
        go_wp2_with fail
        have HROW : Hid (IntRow w8 w.heap.size (.slice a7 0 c7) (cutK g ⟨d1, d2, d3, d4⟩ R 0 now 0).2.length (fun i => (cutK g ⟨d1, d2, d3, d4⟩ R 0 now 0).2.getD i 0)) := Lib.hid (by
          rw [HST.out]
          exact Row.congr (n := 0) R7.out (fun i hi => absurd hi (Nat.not_lt_zero _)))
        have HFL : Hid (cutL g r R 0 ((0 : Nat) : Int) now = (cutK g ⟨d1, d2, d3, d4⟩ R 0 now 0).2) := HCL
        go_loopw [16] (fun s16 wr => s16 = .int .i64 0 ∧ wr = w8) (fun s16 _ => 0)
        case atStart => exact ⟨rfl, rfl⟩
        case round =>
          obtain ⟨rfl, rfl⟩ := hrel
          have YR := HROW
          have YB := B7
          have Y8 := X8b
          have Y15 := X15
          clear HROW B7 X8b X15 R7
          have n0 := cell_at Y0.out 0
          have n1 := cell_at Y0.out 1
          have n2 := cell_at Y0.out 2
          have n3 := cell_at Y0.out 3
          have n4 := cell_at Y0.out 4
          have r0 := cell_at Y1.out 0
          have r1 := cell_at Y1.out 1
          have zn := szs (block_lt Y0.out)
          have zr := szs (block_lt Y1.out)
          generalize a7 = va at *
          generalize c7 = vc at *
          have o0 := cell_at Y15.out 0
          have o1 := cell_at Y15.out 1
          have m0 := cell_at Y8.out 0
          have m1 := cell_at Y8.out 1
          have fr := fun j => free_at Y8.out j
          have zo := szs (block_lt Y15.out)
          have zm := szs (block_lt Y8.out)
          go_simp
          iterate 60 (try go_step)
          show bodyPost _ _ _ Exit.ret _ _
          have KZ := put2 Y8.out (.int .i64 (q : Int)) (.slice va 0 vc)
          have OZ := off2 wr (w.heap.size + 1 + 1) (.int .i64 (q : Int)) (.slice va 0 vc)
          have RZ := Lib.hid (Row.off YR.out OZ (fun gg hgg h => Row.ne YR.out hgg Y8.out (by decide) h))
          have BZ := Lib.hid (YB.out.trans (OZ.toBelow YB.out.size (fun q hq h => by have h : q = w.heap.size + 1 + 1 := h; omega)))
          clear fr zm m0 m1 o0 o1 zo OZ YR YB Y8
          generalize World.setCell (World.setCell wr _ _) _ _ = w9 at *
          have k0 := cell_at KZ 0
          have k1 := cell_at KZ 1
          have zk := szs (block_lt KZ)
          exact bodyPost_ret (v := .tuple #[.agg #[.int .i64 r, .slice va 0 vc], .int .i64 0]) (by rw [HQ0.out]; simp [results, Tryz.results24, go_sem, k0, k1]) rfl ⟨BZ.out, .inr ⟨HC0.out, _, rfl, by rw [HFL.out]; exact RZ.out⟩⟩
      | some ad =>
        have n0 := cell_kept hb5.out (cell_at X0.out 0)
        have n1 := cell_kept hb5.out (cell_at X0.out 1)
        have n2 := cell_kept hb5.out (cell_at X0.out 2)
        have n3 := cell_kept hb5.out (cell_at X0.out 3)
        have n4 := cell_kept hb5.out (cell_at X0.out 4)
        have r0 := cell_kept hb5.out (cell_at X1.out 0)
        have r1 := cell_kept hb5.out (cell_at X1.out 1)
        try dsimp only at n0 n1 n2 n3 n4 r0 r1
        have zn := szs (cell_lt n0)
        have zr := szs (cell_lt r0)
        dsimp only at zn zr
        have c0 := cell_at X15.out 0
        have c1 := cell_at X15.out 1
        have fr := fun j => free_at X15.out j
        have zc := szs (block_lt X15.out)
        (refine region_order (fun i : Nat => World.drewN _ i) [] [0, 1, 2, 3, 4, 5] 6 [7, 8] mixed (by kernel_rfl) ⟨1, rfl⟩ ?_; simp only [List.map_cons, List.map_nil, Array.getD_eq_getD_getElem?, List.getElem?_toArray, List.getElem?_cons_zero, List.getElem?_cons_succ, Option.getD_some]; (repeat (refine wpPure_cons _ rfl (fun w' => by go_simp; try rfl) ?_; dsimp only [Act.put])); refine wpPure_nil ?_; (repeat (any_goals (first | go_big_quiet_step (fail) | quiet_step (fail) | (refine wpQuiet_step (fun K hK => ?_); go_simp; split <;> (refine hK _ ?_; clear hK K))))); (all_goals (refine wpQuiet_nil (fun nq => ?_))))
        have b6 : Below w5.heap.size w5 (w5.drewN nq) := below_drewN (Below.refl _ _) nq
        have B6 := Lib.hid (B5.out.trans (b6.mono B5.out.size))
        clear n0 n1 n2 n3 n4 r0 r1 zn zr
        clear c0 c1 fr zc
        refine wpList_append_Is (w5.drewN nq) rfl (.tmp 61) (.tmp 65) rfl rfl (some ad) d rc R rfl (Sl.cut (HR.out.below B6.out) HDK.out) (by omega) w.heap.size B6.out.size ?_
        intro v7 w7 r7 b7
        obtain ⟨a7, c7, rfl, _⟩ := Row.toSl r7 (fun _ => rfl)
        replace b7 := b6.trans (b7.mono b6.size)
        replace X14 := Lib.hid ((b7.block _ (block_lt X14.out)).trans X14.out)
        replace X15 := Lib.hid ((b7.block _ (block_lt X15.out)).trans X15.out)
        replace X8b := Lib.hid ((b7.block _ (block_lt X8b.out)).trans X8b.out)
        have hb7 := Lib.hid (hb5.out.trans (b7.mono hb5.out.size))
        have B7 := Lib.hid (B5.out.trans (b7.mono B5.out.size))
        have R7 := Lib.hid r7
        have Y0 := Lib.hid ((hb7.out.block _ (block_lt X0.out)).trans X0.out)
        have Y1 := Lib.hid ((hb7.out.block _ (block_lt X1.out)).trans X1.out)
        clear b6 B6 b7 r7 B5 hb5 hb7
        have c0 := cell_at X15.out 0
        have c1 := cell_at X15.out 1
        have fr := fun j => free_at X15.out j
        have zc := szs (block_lt X15.out)
        go_wp2_with fail
        have o8 : Off (fun q => q = b15) w7 (w7.setCell ⟨b15, 1, none⟩ (.slice a7 d c7)) := (Off.refl (fun q => q = b15) w7).setCell (p := ⟨b15, 1, none⟩) (fun _ => rfl) _
        have h15 : (w7.setCell ⟨b15, 1, none⟩ (.slice a7 d c7)).heap[b15]? = some (.cells #[.int .i64 (q : Int), .slice a7 d c7] 51 (0, 0)) := by
          rw [setCell_at X15.out, setAt_same (block_lt X15.out)]; rfl
        replace Y0 := Lib.hid ((o8.block _ (block_lt Y0.out) (ne_type Y0.out X15.out (by decide))).trans Y0.out)
        replace Y1 := Lib.hid ((o8.block _ (block_lt Y1.out) (fun h => by have h : w.heap.size + 1 = b15 := h; have := hlt15.out; omega)).trans Y1.out)
        replace X8b := Lib.hid ((o8.block _ (block_lt X8b.out) (fun h => by have h : w.heap.size + 1 + 1 = b15 := h; have := hlt15.out; omega)).trans X8b.out)
        replace X14 := Lib.hid ((o8.block _ (block_lt X14.out) (ne_type X14.out X15.out (by decide))).trans X14.out)
        replace R7 := Lib.hid (Row.off R7.out o8 (fun gg hgg h => Row.ne R7.out hgg X15.out (by decide) h))
        replace B7 := Lib.hid (B7.out.trans (o8.toBelow B7.out.size (fun q hq h => by have h : q = b15 := h; have := hlt15.out; omega)))
        replace X15 := Lib.hid h15
        clear c0 c1 fr zc o8 h15
        generalize World.setCell w7 _ _ = w8 at *
        refine onlyN_intro ?_
        go_wp2_with fail
        have HROW : Hid (IntRow w8 w.heap.size (.slice a7 d c7) (cutK g ⟨d1, d2, d3, d4⟩ R d now 0).2.length (fun i => (cutK g ⟨d1, d2, d3, d4⟩ R d now 0).2.getD i 0)) := Lib.hid (by
          rw [HST.out]
          show IntRow w8 w.heap.size (.slice a7 d c7) ((List.range d).map R).length (fun i => ((List.range d).map R).getD i 0)
          rw [List.length_map, List.length_range]
          refine Row.congr R7.out (fun i hi => ?_)
          have hgd : ((List.range d).map R).getD i 0 = R i := by rw [List.getD, List.getElem?_map, List.getElem?_range hi]; rfl
          show [Value.int .i64 (R i)] = [Value.int .i64 (((List.range d).map R).getD i 0)]
          rw [hgd])
        go_loopw [3, 10, 11, 16] (fun s3 s10 s11 s16 wr => ∃ (j : Nat) (v : Value), s16 = .int .i64 ((d + j : Nat) : Int) ∧ d + j ≤ k ∧ s3 = .int .i64 (cutK g ⟨d1, d2, d3, d4⟩ R d now j).1.now ∧ s10 = .int .i64 (cutK g ⟨d1, d2, d3, d4⟩ R d now j).1.at' ∧ s11 = .int .i64 (cutK g ⟨d1, d2, d3, d4⟩ R d now j).1.load ∧
          Hid (wr.heap[w.heap.size]? = some (.cells #[.int .i64 g.N, .slice g.ea g.em g.ec, .slice (some ⟨tb, to, none⟩) g.tn g.tc, .slice g.na g.nn g.nc, .int .i64 g.h] 32 (0, 0))) ∧ Hid (wr.heap[w.heap.size + 1]? = some (.cells #[.int .i64 (q : Int), .slice (some ad) k rc] 51 (0, 0))) ∧
          Hid (wr.heap[w.heap.size + 1 + 1]? = some (.cells #[.int .i64 0, .slice none 0 0] 51 (0, 0))) ∧ Hid (wr.heap[b14]? = some (.cells #[.int .i64 d1, .int .i64 d2, .int .i64 d3, .int .i64 d4] 62 (0, 0))) ∧ Hid (wr.heap[b15]? = some (.cells #[.int .i64 (q : Int), v] 51 (0, 0))) ∧
          Hid (IntRow wr w.heap.size v (cutK g ⟨d1, d2, d3, d4⟩ R d now j).2.length (fun i => (cutK g ⟨d1, d2, d3, d4⟩ R d now j).2.getD i 0)) ∧ Hid (Below w.heap.size w wr)) (fun _ _ _ s16 _ => k - (intOf s16).toNat)
        case atStart => exact ⟨0, _, rfl, hdk, by rw [HST.out], by rw [HST.out], by rw [HST.out], Y0, Y1, X8b, X14, X15, HROW, B7⟩
        case round =>
          clear Y0 Y1 X8b X14 X15 HROW R7 B7
          obtain ⟨j, v, rfl, hj, rfl, rfl, rfl, y0, y1, y8, y14, y15, yr, yb⟩ := hrel
          have Y0 := y0
          have Y1 := y1
          have Y8 := y8
          have Y14 := y14
          have Y15 := y15
          have YR := yr
          have YB := yb
          clear y0 y1 y8 y14 y15 yr yb
          obtain ⟨hI, hnw⟩ := HCI.out j hj
          obtain ⟨ia, hia, hat⟩ := hI.at'
          have hatb := HAT.out ia (by omega)
          have hld := hI.load
          have hlen := hI.len
          rw [HTK.out] at hld hat
          rw [← hat] at hatb
          obtain ⟨va, vc, rfl, _⟩ := Row.toSl YR.out (fun _ => rfl)
          have HKO := Lib.hid (fun (hlt : d + j < k) => HOK.out (d + j) hlt _ ia (by omega) hat)
          have HNX : Hid (cutK g ⟨d1, d2, d3, d4⟩ R d now (j + 1) = cutS g ⟨d1, d2, d3, d4⟩ (cutK g ⟨d1, d2, d3, d4⟩ R d now j) (R (d + j))) := Lib.hid (cutK_succ _ _ _ _ _ _)
          have HFIN : Hid (d + j = k → cutL g r R k (d : Int) now = (cutK g ⟨d1, d2, d3, d4⟩ R d now j).2) := Lib.hid (fun h => by rw [HCL.out, show k - d = j by omega])
          clear hat hI
          generalize cutK g ⟨d1, d2, d3, d4⟩ R d now j = CK at *
          obtain ⟨⟨ca, cl, cn⟩, L⟩ := CK
          dsimp only at hatb hld hlen hnw HKO HNX HFIN YR Y15 ⊢
          obtain ⟨jj, hjj⟩ : ∃ jj, jj = d + j := ⟨_, rfl⟩
          rw [← hjj] at hj HKO HNX HFIN ⊢
          have HJJ := Lib.hid hjj
          have HLL : Hid (L.length ≤ 1000) := Lib.hid (by omega)
          clear hjj hlen
          have n0 := cell_at Y0.out 0
          have n1 := cell_at Y0.out 1
          have n2 := cell_at Y0.out 2
          have n3 := cell_at Y0.out 3
          have n4 := cell_at Y0.out 4
          have r0 := cell_at Y1.out 0
          have r1 := cell_at Y1.out 1
          have zn := szs (block_lt Y0.out)
          have zr := szs (block_lt Y1.out)
          by_cases hlt : jj < k
          · have tj : (jj : Int) < (k : Int) := by omega
            have hKO := HKO.out hlt
            have hneed := HWO.out.ro.needs jj hlt
            have hND := HWO.out.ro.nd hlt
            have hWK := HWO.out.ro.work hlt
            have HN2 : Hid (∀ x, okB g ⟨d1, d2, d3, d4⟩ ⟨ca, cl, cn⟩ (R jj) = x → cutK g ⟨d1, d2, d3, d4⟩ R d now (j + 1) = if x = true then (⟨(g.nd (R jj)).node, cl + (g.nd (R jj)).mv, cn + g.S ca (g.nd (R jj)).node + max (g.nd (R jj)).mv (-(g.nd (R jj)).mv) * g.h⟩, L ++ [R jj]) else (⟨ca, cl, cn⟩, L)) := Lib.hid (fun x hx => by
              rw [HNX.out]; unfold cutS; dsimp only; rw [hx]; rfl)
            unfold Ng.work at hWK hKO
            obtain ⟨m, hm⟩ := Int.eq_ofNat_of_zero_le hneed.1
            have hmn : m < g.nn := by omega
            have tmn : (m : Int) < (g.nn : Int) := by omega
            obtain ⟨rb, ro, e9, hgr, e0⟩ := (HR.out.below YB.out).num hlt
            cases e9
            have zg := szs hgr
            obtain ⟨nb, no, hna, hgn, q0, q1⟩ := ((HG.out.below YB.out).needs).nd hmn
            have zq := szs hgn
            have end' : g.nd (R jj) = g.D m := by unfold Ng.nd; rw [hm, Int.toNat_natCast]
            rw [end'] at hND hWK hKO HN2
            rw [hm] at e0
            rw [hna] at n3
            obtain ⟨xm, hxm⟩ : ∃ xm, xm = g.D m := ⟨_, rfl⟩
            rw [← hxm] at hND hWK hKO HN2 q0 q1
            obtain ⟨nd, mv⟩ := xm
            dsimp only at hND hWK hKO HN2 q0 q1
            have hS1 := HWO.out.ro.ng.S_bd hatb nd
            have hS2 := HWO.out.ro.ng.S_bd hND.1 d1
            have C1 := Lib.hid (fun w' (hb : Below w.heap.size w w') => SC.out w' hb ca nd hatb hND.1)
            have C2 := Lib.hid (fun w' (hb : Below w.heap.size w w') => SC.out w' hb nd d1 hND.1 htk2.1)
            obtain ⟨s1, hs1⟩ : ∃ s1, s1 = g.S ca nd := ⟨_, rfl⟩
            obtain ⟨s2, hs2⟩ : ∃ s2, s2 = g.S nd d1 := ⟨_, rfl⟩
            rw [← hs1] at hS1 hKO C1 HN2
            rw [← hs2] at hS2 hKO C2
            have HKV := Lib.hid hKO
            have HRJ := Lib.hid hm
            have HNA := Lib.hid hna
            clear hneed hm end' hxm hs1 hs2 hKO HKO hna HNX
            go_wp2_with fail
            (obtain ⟨ι, hne, Fw, fb, hF⟩ := grow_family wr); have hF : ∀ w', (sPlan wr (fun _ => False) [] [(9, fun b => .pointer (some ⟨b, 0, none⟩), .cells #[.int .i64 0, .int .i64 0] 58)] [(10, 9)]).D [] w' → ∃ i, w' = Fw i := hF
            have fn3 := fun i => cell_kept (fb i) n3
            have fr1 := fun i => cell_kept (fb i) r1
            have fe0 := fun i => cell_kept (fb i) e0
            have fq0 := fun i => cell_kept (fb i) q0
            have fq1 := fun i => cell_kept (fb i) q1
            clear n0 n1 n2 n3 n4 r0 r1 zn zr
            clear e0 q0 q1 zg zq hgr hgn
            (refine region_chainO (sPlan wr (fun _ => False) [] [(9, fun b => .pointer (some ⟨b, 0, none⟩), .cells #[.int .i64 0, .int .i64 0] 58)] [(10, 9)]) [] [] [0, 1, 2, 3, 4, 5, 6, 7, 8, 9, 10] [] mixed (by kernel_rfl) (by kernel_rfl) (fun _ _ h => nomatch h) (sPlan_ok (by simp) (by simp)) sPlan_start ?_; refine wpPure_nil ?_; simp only [List.map_cons, List.map_nil, Array.getD_eq_getD_getElem?, List.getElem?_toArray, List.getElem?_cons_zero, List.getElem?_cons_succ, Option.getD_some])
            (repeat (first | (refine wpChainO_skip rfl ?_; simp only [Act.put, List.setIfInBounds_toArray, List.set_cons_succ, List.set_cons_zero]) | (refine wpChainO_quiet hF rfl rfl rfl ?_; intro K hK; go_big_quiet_op; go_big_quiet_on) | (refine wpChainO_pure _ rfl rfl (fun w' _ => by go_simp; try rfl) ?_; simp only [Act.put, List.setIfInBounds_toArray, List.set_cons_succ, List.set_cons_zero])))
            (refine wpChainO_alloc _ _ rfl (List.mem_cons_self ..) rfl (fun w' => by go_simp) (fun b17 hb17 => ?_); simp only [Act.put, List.setIfInBounds_toArray, List.set_cons_succ, List.set_cons_zero])
            (refine wpChainO_store 9 b17 (.cells #[.int .i64 0, .int .i64 0] 58) (.cells #[.int .i64 nd, .int .i64 mv] 58) rfl (by simp [sPlan]) (by simp [setB]) (by simp [setB]) rfl (fun w' hw' => by have c0 := cell_at hw' 0; have c1 := cell_at hw' 1; have g0 := free_at hw'; have hlt := block_lt hw'; go_simp; rw [setCell_at hw', setAt_setCell hlt]; rfl) ?_; simp only [Act.put, List.setIfInBounds_toArray, List.set_cons_succ, List.set_cons_zero])
            (repeat (first | (refine wpChainO_skip rfl ?_; simp only [Act.put, List.setIfInBounds_toArray, List.set_cons_succ, List.set_cons_zero]) | (refine wpChainO_quiet hF rfl rfl rfl ?_; intro K hK; go_big_quiet_op; go_big_quiet_on) | (refine wpChainO_pure _ rfl rfl (fun w' _ => by go_simp; try rfl) ?_; simp only [Act.put, List.setIfInBounds_toArray, List.set_cons_succ, List.set_cons_zero])))
            refine wpChainO_nil (fun w6 hb6 hl6 => ?_)
            have b6 : Below wr.heap.size wr w6 := hb6
            have X17 := Lib.hid (hl6.1.2 (9, b17, .cells #[.int .i64 nd, .int .i64 mv] 58) (by simp [setB])).2
            replace Y0 := Lib.hid ((b6.block _ (block_lt Y0.out)).trans Y0.out)
            replace Y1 := Lib.hid ((b6.block _ (block_lt Y1.out)).trans Y1.out)
            replace Y8 := Lib.hid ((b6.block _ (block_lt Y8.out)).trans Y8.out)
            replace Y14 := Lib.hid ((b6.block _ (block_lt Y14.out)).trans Y14.out)
            replace Y15 := Lib.hid ((b6.block _ (block_lt Y15.out)).trans Y15.out)
            replace YR := Lib.hid (Row.off (X := fun _ => False) YR.out (Off.of_below b6) (fun _ _ h => h))
            replace YB := Lib.hid (YB.out.trans (b6.mono YB.out.size))
            clear hb6 hl6 hF fb hne b6 fn3 fr1 fe0 fq0 fq1
            refine onlyN_intro ?_
            have n0 := cell_at Y0.out 0
            have n1 := cell_at Y0.out 1
            have n2 := cell_at Y0.out 2
            have n3 := cell_at Y0.out 3
            have n4 := cell_at Y0.out 4
            have r0 := cell_at Y1.out 0
            have r1 := cell_at Y1.out 1
            have zn := szs (block_lt Y0.out)
            have zr := szs (block_lt Y1.out)
            have x0 := cell_at X17.out 0
            have x1 := cell_at X17.out 1
            have zx := szs (block_lt X17.out)
            go_wp2_with fail
            (obtain ⟨ι, hne, Fw, fb, hF⟩ := grow_family w6); have hF : ∀ w', (gPlan w6 (fun _ => .int .i64 s1) [5] [] []).D () w' → ∃ i, w' = Fw i := hF
            have fn0 := fun i => cell_kept (fb i) n0
            have fn1 := fun i => cell_kept (fb i) n1
            have fn2 := fun i => cell_kept (fb i) n2
            have fn3 := fun i => cell_kept (fb i) n3
            have fn4 := fun i => cell_kept (fb i) n4
            have fr0 := fun i => cell_kept (fb i) r0
            have fr1 := fun i => cell_kept (fb i) r1
            clear n0 n1 n2 n3 n4 r0 r1 zn zr
            have fx0 := fun i => cell_kept (fb i) x0
            have fx1 := fun i => cell_kept (fb i) x1
            clear x0 x1 zx
            (refine region_chain (gPlan w6 (fun _ => .int .i64 s1) [5] [] []) () [] [0, 1, 2, 3, 4, 7, 8, 9, 10, 11, 12, 13, 14, 15, 17, 18, 19, 20, 5, 6, 16, 21, 22] [] mixed (by kernel_rfl) (by kernel_rfl) (gPlan_ok (by simp) (by simp)) (gPlan_start _ _ _ _ _) ?_; refine wpPure_nil ?_; simp only [List.map_cons, List.map_nil, Array.getD_eq_getD_getElem?, List.getElem?_toArray, List.getElem?_cons_zero, List.getElem?_cons_succ, Option.getD_some])
            (repeat (first | (refine wpChain_skip rfl ?_; simp only [Act.put, List.setIfInBounds_toArray, List.set_cons_succ, List.set_cons_zero]) | (refine wpChain_quiet hF rfl rfl rfl ?_; intro K hK; go_big_quiet_op; go_big_quiet_on) | (refine wpChain_pure _ rfl rfl (fun w' _ => by go_simp; try rfl) ?_; simp only [Act.put, List.setIfInBounds_toArray, List.set_cons_succ, List.set_cons_zero])))
            refine wpChain_gcall 55 #[.agg #[.int .i64 g.N, .slice g.ea g.em g.ec, .slice (some ⟨tb, to, none⟩) g.tn g.tc, .slice g.na g.nn g.nc, .int .i64 g.h], .int .i64 ca, .int .i64 nd] rfl rfl (fun w' => by go_simp) (fun w' hb => C1.out w' (YB.out.trans (hb.mono YB.out.size))) ?_
            simp only [Act.put, List.setIfInBounds_toArray, List.set_cons_succ, List.set_cons_zero]
            (repeat (first | (refine wpChain_skip rfl ?_; simp only [Act.put, List.setIfInBounds_toArray, List.set_cons_succ, List.set_cons_zero]) | (refine wpChain_quiet hF rfl rfl rfl ?_; intro K hK; go_big_quiet_op; go_big_quiet_on) | (refine wpChain_pure _ rfl rfl (fun w' _ => by go_simp; try rfl) ?_; simp only [Act.put, List.setIfInBounds_toArray, List.set_cons_succ, List.set_cons_zero])))
            refine wpChain_nil (fun w7 hb7 hl7 => ?_)
            have b7 : Below w6.heap.size w6 w7 := hb7
            replace Y0 := Lib.hid ((b7.block _ (block_lt Y0.out)).trans Y0.out)
            replace Y1 := Lib.hid ((b7.block _ (block_lt Y1.out)).trans Y1.out)
            replace Y8 := Lib.hid ((b7.block _ (block_lt Y8.out)).trans Y8.out)
            replace Y14 := Lib.hid ((b7.block _ (block_lt Y14.out)).trans Y14.out)
            replace Y15 := Lib.hid ((b7.block _ (block_lt Y15.out)).trans Y15.out)
            replace YR := Lib.hid (Row.off (X := fun _ => False) YR.out (Off.of_below b7) (fun _ _ h => h))
            replace YB := Lib.hid (YB.out.trans (b7.mono YB.out.size))
            replace X17 := Lib.hid ((b7.block _ (block_lt X17.out)).trans X17.out)
            clear hb7 hl7 hF fb hne b7 fn0 fn1 fn2 fn3 fn4 fr0 fr1 fx0 fx1 C1
            refine onlyN_intro ?_
            have x0 := cell_at X17.out 0
            have x1 := cell_at X17.out 1
            have zx := szs (block_lt X17.out)
            have t0 := cell_at Y14.out 0
            have t1 := cell_at Y14.out 1
            have t2 := cell_at Y14.out 2
            have t3 := cell_at Y14.out 3
            have zt := szs (block_lt Y14.out)
            obtain ⟨mm, hmm⟩ : ∃ mm, mm = max mv (-mv) * g.h := ⟨_, rfl⟩
            have HMM := Lib.hid hmm
            rw [← hmm] at HKV HN2 hWK
            try rw [← hmm]
            by_cases hA : 0 ≤ cl + mv
            · have tA : decide (0 ≤ cl + mv) = true := decide_eq_true hA
              by_cases hB : cl + mv ≤ d2
              · have tB : decide (cl + mv ≤ d2) = true := decide_eq_true hB
                have hnl := abs_mul (mv := cl + mv) (h := g.h) (by omega) (by omega) HWO.out.ro.ng.h0 HWO.out.ro.ng.h1
                obtain ⟨ml, hml⟩ : ∃ ml, ml = (cl + mv) * g.h := ⟨_, rfl⟩
                have HML := Lib.hid hml
                rw [← hml] at hnl HKV
                clear hml
                have n0 := cell_at Y0.out 0
                have n1 := cell_at Y0.out 1
                have n2 := cell_at Y0.out 2
                have n3 := cell_at Y0.out 3
                have n4 := cell_at Y0.out 4
                have r0 := cell_at Y1.out 0
                have r1 := cell_at Y1.out 1
                have zn := szs (block_lt Y0.out)
                have zr := szs (block_lt Y1.out)
                go_wp2_with fail
                (obtain ⟨ι, hne, Fw, fb, hF⟩ := grow_family w7); have hF : ∀ w', (gPlan w7 (fun _ => .int .i64 s2) [15] [] []).D () w' → ∃ i, w' = Fw i := hF
                have fn0 := fun i => cell_kept (fb i) n0
                have fn1 := fun i => cell_kept (fb i) n1
                have fn2 := fun i => cell_kept (fb i) n2
                have fn3 := fun i => cell_kept (fb i) n3
                have fn4 := fun i => cell_kept (fb i) n4
                have fr0 := fun i => cell_kept (fb i) r0
                have fr1 := fun i => cell_kept (fb i) r1
                clear n0 n1 n2 n3 n4 r0 r1 zn zr
                have fx0 := fun i => cell_kept (fb i) x0
                have fx1 := fun i => cell_kept (fb i) x1
                have ft0 := fun i => cell_kept (fb i) t0
                have ft1 := fun i => cell_kept (fb i) t1
                have ft2 := fun i => cell_kept (fb i) t2
                have ft3 := fun i => cell_kept (fb i) t3
                clear x0 x1 zx t0 t1 t2 t3 zt
                have hml := HML.out.symm
                (refine region_chain (gPlan w7 (fun _ => .int .i64 s2) [15] [] []) () [] [0, 1, 2, 3, 4, 5, 6, 7, 8, 9, 10, 11, 12, 13, 14, 17, 18, 19, 20, 22, 23, 24, 15, 16, 21, 25, 26] [] mixed (by kernel_rfl) (by kernel_rfl) (gPlan_ok (by simp) (by simp)) (gPlan_start _ _ _ _ _) ?_; refine wpPure_nil ?_; simp only [List.map_cons, List.map_nil, Array.getD_eq_getD_getElem?, List.getElem?_toArray, List.getElem?_cons_zero, List.getElem?_cons_succ, Option.getD_some])
                (repeat (first | (refine wpChain_skip rfl ?_; simp only [Act.put, List.setIfInBounds_toArray, List.set_cons_succ, List.set_cons_zero]) | (refine wpChain_quiet hF rfl rfl rfl ?_; intro K hK; go_big_quiet_op; go_big_quiet_on) | (refine wpChain_pure _ rfl rfl (fun w' _ => by go_simp; try rfl) ?_; simp only [Act.put, List.setIfInBounds_toArray, List.set_cons_succ, List.set_cons_zero])))
                refine wpChain_gcall 55 #[.agg #[.int .i64 g.N, .slice g.ea g.em g.ec, .slice (some ⟨tb, to, none⟩) g.tn g.tc, .slice g.na g.nn g.nc, .int .i64 g.h], .int .i64 nd, .int .i64 d1] rfl rfl (fun w' => by go_simp) (fun w' hb => C2.out w' (YB.out.trans (hb.mono YB.out.size))) ?_
                simp only [Act.put, List.setIfInBounds_toArray, List.set_cons_succ, List.set_cons_zero]
                (repeat (first | (refine wpChain_skip rfl ?_; simp only [Act.put, List.setIfInBounds_toArray, List.set_cons_succ, List.set_cons_zero]) | (refine wpChain_quiet hF rfl rfl rfl ?_; intro K hK; go_big_quiet_op; go_big_quiet_on) | (refine wpChain_pure _ rfl rfl (fun w' _ => by go_simp; try rfl) ?_; simp only [Act.put, List.setIfInBounds_toArray, List.set_cons_succ, List.set_cons_zero])))
                refine wpChain_nil (fun w8 hb8 hl8 => ?_)
                have b8 : Below w7.heap.size w7 w8 := hb8
                replace Y0 := Lib.hid ((b8.block _ (block_lt Y0.out)).trans Y0.out)
                replace Y1 := Lib.hid ((b8.block _ (block_lt Y1.out)).trans Y1.out)
                replace Y8 := Lib.hid ((b8.block _ (block_lt Y8.out)).trans Y8.out)
                replace Y14 := Lib.hid ((b8.block _ (block_lt Y14.out)).trans Y14.out)
                replace Y15 := Lib.hid ((b8.block _ (block_lt Y15.out)).trans Y15.out)
                replace YR := Lib.hid (Row.off (X := fun _ => False) YR.out (Off.of_below b8) (fun _ _ h => h))
                replace YB := Lib.hid (YB.out.trans (b8.mono YB.out.size))
                replace X17 := Lib.hid ((b8.block _ (block_lt X17.out)).trans X17.out)
                clear hb8 hl8 hF fb hne b8 fn0 fn1 fn2 fn3 fn4 fr0 fr1 fx0 fx1 ft0 ft1 ft2 ft3 C2 hml
                refine onlyN_intro ?_
                by_cases hC : cn + s1 + mm + s2 + ml ≤ d4
                · have tC : decide (cn + s1 + mm + s2 + ml ≤ d4) = true := decide_eq_true hC
                  have HN3 := Lib.hid (HN2.out true (by rw [HKV.out]; exact decide_eq_true ⟨hA, hB, hC⟩))
                  rw [if_pos rfl] at HN3
                  have o0 := cell_at Y15.out 0
                  have o1 := cell_at Y15.out 1
                  have r0 := cell_at Y1.out 0
                  have r1 := cell_at Y1.out 1
                  obtain ⟨_, _, e9, hgr, e0⟩ := (HR.out.below YB.out).num hlt
                  cases e9
                  rw [HRJ.out] at e0
                  have zg := szs hgr
                  have zo := szs (block_lt Y15.out)
                  have zr := szs (block_lt Y1.out)
                  go_wp2_with fail
                  (obtain ⟨ι, hne, Fw, fb, hF⟩ := grow_family w8); have hF : ∀ w', (sPlan w8 (fun _ => False) [] [(7, fun b => .slice (some ⟨b, 0, none⟩) 1 1, .cells #[.int .i64 (m : Int)] 3)] []).D [] w' → ∃ i, w' = Fw i := hF
                  have fo0 := fun i => cell_kept (fb i) o0
                  have fo1 := fun i => cell_kept (fb i) o1
                  have fr0 := fun i => cell_kept (fb i) r0
                  have fr1 := fun i => cell_kept (fb i) r1
                  have fe0 := fun i => cell_kept (fb i) e0
                  clear o0 o1 r0 r1 e0 hgr zg zo zr
                  (refine region_chainO (sPlan w8 (fun _ => False) [] [(7, fun b => .slice (some ⟨b, 0, none⟩) 1 1, .cells #[.int .i64 (m : Int)] 3)] []) [] [] [0, 1, 2, 3, 4, 5, 6, 7] [8, 9, 10] mixed (by kernel_rfl) (by kernel_rfl) (fun _ _ h => nomatch h) (sPlan_ok (by simp) (by simp)) sPlan_start ?_; refine wpPure_nil ?_; simp only [List.map_cons, List.map_nil, Array.getD_eq_getD_getElem?, List.getElem?_toArray, List.getElem?_cons_zero, List.getElem?_cons_succ, Option.getD_some])
                  (repeat (first | (refine wpChainO_skip rfl ?_; simp only [Act.put, List.setIfInBounds_toArray, List.set_cons_succ, List.set_cons_zero]) | (refine wpChainO_quiet hF rfl rfl rfl ?_; intro K hK; go_big_quiet_op; go_big_quiet_on) | (refine wpChainO_pure _ rfl rfl (fun w' _ => by go_simp; try rfl) ?_; simp only [Act.put, List.setIfInBounds_toArray, List.set_cons_succ, List.set_cons_zero])))
                  (refine wpChainO_alloc _ _ rfl (List.mem_cons_self ..) rfl (fun w' => by go_simp) (fun b7 hb7 => ?_); simp only [Act.put, List.setIfInBounds_toArray, List.set_cons_succ, List.set_cons_zero])
                  refine wpChainO_nil (fun w11 hb11 hl11 => ?_)
                  have b11 : Below w8.heap.size w8 w11 := hb11
                  have X7 := Lib.hid (hl11.1.2 (7, b7, .cells #[.int .i64 (m : Int)] 3) (by simp)).2
                  replace Y0 := Lib.hid ((b11.block _ (block_lt Y0.out)).trans Y0.out)
                  replace Y1 := Lib.hid ((b11.block _ (block_lt Y1.out)).trans Y1.out)
                  replace Y8 := Lib.hid ((b11.block _ (block_lt Y8.out)).trans Y8.out)
                  replace Y14 := Lib.hid ((b11.block _ (block_lt Y14.out)).trans Y14.out)
                  replace Y15 := Lib.hid ((b11.block _ (block_lt Y15.out)).trans Y15.out)
                  replace YR := Lib.hid (Row.off (X := fun _ => False) YR.out (Off.of_below b11) (fun _ _ h => h))
                  replace YB := Lib.hid (YB.out.trans (b11.mono YB.out.size))
                  replace X17 := Lib.hid ((b11.block _ (block_lt X17.out)).trans X17.out)
                  clear hb11 hl11 hF fb hne b11 fo0 fo1 fr0 fr1 fe0
                  have hle : w.heap.size ≤ w11.heap.size := YB.out.size
                  go_wp2_with (at_builtin; go_loud (refine wpList_append_I _ rfl (.tmp 134) (.tmp 140) rfl w.heap.size _ L.length (fun i => L.getD i 0) rfl YR.out b7 (m : Int) rfl 3 (0, 0) X7.out (by have := HLL.out; omega) hle ?_))
                  intro g12 cap12 w12 c1 c2 c3 c4 r12 o12
                  replace Y0 := Lib.hid ((o12.block _ (block_lt Y0.out) (fun h => Row.ne YR.out h Y0.out (by decide) rfl)).trans Y0.out)
                  replace Y1 := Lib.hid ((o12.block _ (block_lt Y1.out) (fun h => Row.ne YR.out h Y1.out (by decide) rfl)).trans Y1.out)
                  replace Y8 := Lib.hid ((o12.block _ (block_lt Y8.out) (fun h => Row.ne YR.out h Y8.out (by decide) rfl)).trans Y8.out)
                  replace Y14 := Lib.hid ((o12.block _ (block_lt Y14.out) (fun h => Row.ne YR.out h Y14.out (by decide) rfl)).trans Y14.out)
                  replace Y15 := Lib.hid ((o12.block _ (block_lt Y15.out) (fun h => Row.ne YR.out h Y15.out (by decide) rfl)).trans Y15.out)
                  replace X17 := Lib.hid ((o12.block _ (block_lt X17.out) (fun h => Row.ne YR.out h X17.out (by decide) rfl)).trans X17.out)
                  replace YB := Lib.hid (YB.out.trans (o12.toBelow YB.out.size (fun q hq h => by have := (World.ownsRow.lt YR.out q h).1; omega)))
                  have R12 := Lib.hid r12
                  have o0 := cell_at Y15.out 0
                  have o1 := cell_at Y15.out 1
                  have fr := fun j => free_at Y15.out j
                  have zo := szs (block_lt Y15.out)
                  clear r12 o12 YR X7 c4 hle
                  go_wp2_with fail
                  have o13 : Off (fun q => q = b15) w12 (w12.setCell ⟨b15, 1, none⟩ (.slice (some ⟨g12, 0, none⟩) (L.length + 1) cap12)) := (Off.refl (fun q => q = b15) w12).setCell (p := ⟨b15, 1, none⟩) (fun _ => rfl) _
                  have h6 : (w12.setCell ⟨b15, 1, none⟩ (.slice (some ⟨g12, 0, none⟩) (L.length + 1) cap12)).heap[b15]? = some (.cells #[.int .i64 (q : Int), .slice (some ⟨g12, 0, none⟩) (L.length + 1) cap12] 51 (0, 0)) := by
                    rw [setCell_at Y15.out, setAt_same (block_lt Y15.out)]; rfl
                  replace Y0 := Lib.hid ((o13.block _ (block_lt Y0.out) (ne_type Y0.out Y15.out (by decide))).trans Y0.out)
                  replace Y1 := Lib.hid ((o13.block _ (block_lt Y1.out) (fun h => by have h : w.heap.size + 1 = b15 := h; have := hlt15.out; omega)).trans Y1.out)
                  replace Y8 := Lib.hid ((o13.block _ (block_lt Y8.out) (fun h => by have h : w.heap.size + 1 + 1 = b15 := h; have := hlt15.out; omega)).trans Y8.out)
                  replace Y14 := Lib.hid ((o13.block _ (block_lt Y14.out) (ne_type Y14.out Y15.out (by decide))).trans Y14.out)
                  replace X17 := Lib.hid ((o13.block _ (block_lt X17.out) (ne_type X17.out Y15.out (by decide))).trans X17.out)
                  replace R12 := Lib.hid (Row.off R12.out o13 (fun gg hgg h => Row.ne R12.out hgg Y15.out (by decide) h))
                  replace YB := Lib.hid (YB.out.trans (o13.toBelow YB.out.size (fun q hq h => by have h : q = b15 := h; have := hlt15.out; omega)))
                  replace Y15 := Lib.hid h6
                  clear o0 o1 fr zo h6 o13
                  generalize w12.setCell ⟨b15, 1, none⟩ (.slice (some ⟨g12, 0, none⟩) (L.length + 1) cap12) = w13 at *
                  refine onlyN_intro ?_
                  have x0 := cell_at X17.out 0
                  have x1 := cell_at X17.out 1
                  have zx := szs (block_lt X17.out)
                  go_wp2_with fail
                  have hrow : IntRow w13 w.heap.size (.slice (some ⟨g12, 0, none⟩) (L.length + 1) cap12) (L ++ [R jj]).length (fun i => (L ++ [R jj]).getD i 0) := by
                    rw [List.length_append, List.length_singleton]
                    refine Row.congr R12.out (fun i hi => ?_)
                    unfold nf
                    congr 2
                    by_cases e : i = L.length
                    · subst e; rw [upd_same, HRJ.out]; simp
                    · rw [upd_ne e]; simp [List.getD, List.getElem?_append_left (show i < L.length by omega)]
                  have HROW := Lib.hid hrow
                  clear hrow R12
                  go_roundw
                  case rel => exact ⟨j + 1, .slice (some ⟨g12, 0, none⟩) (L.length + 1) cap12, by rw [← Nat.add_assoc, ← HJJ.out]; go_num, by have := HJJ.out; omega, by rw [HN3.out, HMM.out], by rw [HN3.out], by rw [HN3.out], Y0, Y1, Y8, Y14, Y15, by rw [HN3.out]; exact HROW, YB⟩
                  case measure => simp [intOf]; omega
                · have tC : decide (cn + s1 + mm + s2 + ml ≤ d4) = false := decide_eq_false hC
                  have HN3 := Lib.hid (HN2.out false (by rw [HKV.out]; exact decide_eq_false (fun h => hC h.2.2)))
                  rw [if_neg (by simp)] at HN3
                  go_wp2_with fail
                  go_roundw
                  case rel => exact ⟨j + 1, .slice va L.length vc, by rw [← Nat.add_assoc, ← HJJ.out]; go_num, by have := HJJ.out; omega, by rw [HN3.out], by rw [HN3.out], by rw [HN3.out], Y0, Y1, Y8, Y14, Y15, by rw [HN3.out]; exact YR, YB⟩
                  case measure => simp [intOf]; omega
              · have tB : decide (cl + mv ≤ d2) = false := decide_eq_false hB
                have HN3 := Lib.hid (HN2.out false (by rw [HKV.out]; exact decide_eq_false (fun h => hB h.2.1)))
                rw [if_neg (by simp)] at HN3
                go_wp2_with fail
                (refine region_all (fun i : Nat => World.drewN _ i) mixed (by kernel_rfl) ⟨1, rfl⟩ ?_; (repeat (any_goals (first | go_big_quiet_step (fail) | quiet_step (fail) | (refine wpQuiet_step (fun K hK => ?_); go_simp; split <;> (refine hK _ ?_; clear hK K))))); (all_goals (refine wpQuiet_nil (fun nq => ?_))))
                go_wp2_with fail
                have b8 : Below w7.heap.size w7 (w7.drewN nq) := below_drewN (Below.refl _ _) nq
                replace Y0 := Lib.hid ((b8.block _ (block_lt Y0.out)).trans Y0.out)
                replace Y1 := Lib.hid ((b8.block _ (block_lt Y1.out)).trans Y1.out)
                replace Y8 := Lib.hid ((b8.block _ (block_lt Y8.out)).trans Y8.out)
                replace Y14 := Lib.hid ((b8.block _ (block_lt Y14.out)).trans Y14.out)
                replace Y15 := Lib.hid ((b8.block _ (block_lt Y15.out)).trans Y15.out)
                replace YR := Lib.hid (Row.off (X := fun _ => False) YR.out (Off.of_below b8) (fun _ _ h => h))
                replace YB := Lib.hid (YB.out.trans (b8.mono YB.out.size))
                go_roundw
                case rel => exact ⟨j + 1, .slice va L.length vc, by rw [← Nat.add_assoc, ← HJJ.out]; go_num, by have := HJJ.out; omega, by rw [HN3.out], by rw [HN3.out], by rw [HN3.out], Y0, Y1, Y8, Y14, Y15, by rw [HN3.out]; exact YR, YB⟩
                case measure => simp [intOf]; omega
            · have tA : decide (0 ≤ cl + mv) = false := decide_eq_false hA
              have HN3 := Lib.hid (HN2.out false (by rw [HKV.out]; exact decide_eq_false (fun h => hA h.1)))
              rw [if_neg (by simp)] at HN3
              go_wp2_with fail
              (refine region_all (fun i : Nat => World.drewN _ i) mixed (by kernel_rfl) ⟨1, rfl⟩ ?_; (repeat (any_goals (first | go_big_quiet_step (fail) | quiet_step (fail) | (refine wpQuiet_step (fun K hK => ?_); go_simp; split <;> (refine hK _ ?_; clear hK K))))); (all_goals (refine wpQuiet_nil (fun nq => ?_))))
              go_wp2_with fail
              have b8 : Below w7.heap.size w7 (w7.drewN nq) := below_drewN (Below.refl _ _) nq
              replace Y0 := Lib.hid ((b8.block _ (block_lt Y0.out)).trans Y0.out)
              replace Y1 := Lib.hid ((b8.block _ (block_lt Y1.out)).trans Y1.out)
              replace Y8 := Lib.hid ((b8.block _ (block_lt Y8.out)).trans Y8.out)
              replace Y14 := Lib.hid ((b8.block _ (block_lt Y14.out)).trans Y14.out)
              replace Y15 := Lib.hid ((b8.block _ (block_lt Y15.out)).trans Y15.out)
              replace YR := Lib.hid (Row.off (X := fun _ => False) YR.out (Off.of_below b8) (fun _ _ h => h))
              replace YB := Lib.hid (YB.out.trans (b8.mono YB.out.size))
              go_roundw
              case rel => exact ⟨j + 1, .slice va L.length vc, by rw [← Nat.add_assoc, ← HJJ.out]; go_num, by have := HJJ.out; omega, by rw [HN3.out], by rw [HN3.out], by rw [HN3.out], Y0, Y1, Y8, Y14, Y15, by rw [HN3.out]; exact YR, YB⟩
              case measure => simp [intOf]; omega
          · obtain rfl : jj = k := by omega
            have HFL := Lib.hid (HFIN.out rfl)
            clear hlt hj hatd hab htk2 hSB hnw hatb hld n0 n1 n2 n3 n4 zn hn0 hn1 htm htc hnm hnc tt tq hq hk16 hdk
            try clear ht
            try clear hF
            have o0 := cell_at Y15.out 0
            have o1 := cell_at Y15.out 1
            have m0 := cell_at Y8.out 0
            have m1 := cell_at Y8.out 1
            have fr := fun j => free_at Y8.out j
            have zo := szs (block_lt Y15.out)
            have zm := szs (block_lt Y8.out)
            go_simp
            iterate 60 (try go_step)
            show bodyPost _ _ _ Exit.ret _ _
            have KZ := put2 Y8.out (.int .i64 (q : Int)) (.slice va L.length vc)
            have OZ := off2 wr (w.heap.size + 1 + 1) (.int .i64 (q : Int)) (.slice va L.length vc)
            have RZ := Lib.hid (Row.off YR.out OZ (fun gg hgg h => Row.ne YR.out hgg Y8.out (by decide) h))
            have BZ := Lib.hid (YB.out.trans (OZ.toBelow YB.out.size (fun q hq h => by have h : q = w.heap.size + 1 + 1 := h; omega)))
            clear fr zm m0 m1 o0 o1 zo OZ YR YB Y8
            generalize World.setCell (World.setCell wr _ _) _ _ = w9 at *
            have k0 := cell_at KZ 0
            have k1 := cell_at KZ 1
            have zk := szs (block_lt KZ)
            exact bodyPost_ret (v := .tuple #[.agg #[.int .i64 r, .slice va L.length vc], .int .i64 0]) (by rw [HQ0.out]; simp [results, Tryz.results24, go_sem, k0, k1]) rfl ⟨BZ.out, .inr ⟨HC0.out, _, rfl, by rw [HFL.out]; exact RZ.out⟩⟩
end Go.Proofs.YtlnfhlmgnppcbaaGreat
