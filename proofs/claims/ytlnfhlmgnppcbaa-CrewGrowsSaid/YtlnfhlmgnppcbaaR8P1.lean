/- Dijkstra's search walked. Condition: the network is right. -/
import Derived.Test.YtlnfhlmgnppcbaaR8P0
import Derived.BigRegion
namespace Go.Proofs.Ytlnfhlmgnppcbaa
open Go.RowKit
set_option linter.unusedVariables false
set_option linter.unusedSimpArgs false
set_option maxRecDepth 8000
open Rd
set_option maxHeartbeats 4000000 in
set_option maxRecDepth 100000 in
theorem spread135 (n m c : Nat) (ao : Option Addr) (E : Nat → Ed) (src : Nat) (w : World) (hw : Net w ao m c E) (hr : Right n m E) (hs : src < n) :
    Calls Try.prog 134 #[.agg #[.int .i64 n, .slice ao m c], .int .i64 src, .func (.func 135) #[] #[]] w fun e w' => Spread w n (gr Ed.frm Ed.til n m E) src e w' := by
  obtain ⟨w0, hw0⟩ : ∃ w0, w0 = w.alloc (.cells #[.int .i64 n, .slice ao m c] 77) := ⟨_, rfl⟩
  have b0 : Below w.heap.size w w0 := by rw [hw0]; exact (Below.refl _ _).alloc (Nat.le_refl _) _
  have x0 : w0.heap[w.heap.size]? = some (.cells #[.int .i64 n, .slice ao m c] 77) := by rw [hw0]; exact heap_alloc_new w _
  have n0 := Lib.hid (hw.below b0)
  have r0 : w0.cell? ⟨w.heap.size, 0, none⟩ = some (.int .i64 n) := cell_at x0 0
  have r1 : w0.cell? ⟨w.heap.size, 1, none⟩ = some (.slice ao m c) := cell_at x0 1
  have B0 := Lib.hid b0
  have HW := Lib.hid hw0
  have zb : w.heap.size < w0.heap.size := block_lt x0
  have hn2 := hr.n2
  have hn1 := hr.n1
  have hm512 := hr.m2
  have HR := Lib.hid hr
  have OK := Lib.hid hr.fwd
  have HS := Lib.hid hs
  have HC := Lib.hid forward135
  have hM1 := mk194 n hn2
  have hM2 := mk98 n hn2
  obtain ⟨M1, hm1⟩ : ∃ M, M = madeCells #[.int .i64 0, .int .i64 0] (n * 2) := ⟨_, rfl⟩
  obtain ⟨M2, hm2⟩ : ∃ M, M = madeCells #[.bool false] (n * 1) := ⟨_, rfl⟩
  rw [← hm1] at hM1
  rw [← hm2] at hM2
  have HM1 := Lib.hid hm1
  have HM2 := Lib.hid hm2
  clear hw b0 x0 hw0 hr hs hm1 hm2
  go_enter Try.func134, Try.ntmps134
  go_wp2_with fail
  rw [← HW.out]
  clear HW
  obtain ⟨ι, hne, Fw, fb, hF⟩ := grow_family w0
  have hF : ∀ w', (gPlan w0 (fun _ => undef) [] [] []).D () w' → ∃ i, w' = Fw i := hF
  have fr0 := fun i => cell_kept (fb i) r0
  (refine region_chain (gPlan w0 (fun _ => undef) [] [(2, fun b => .slice (some ⟨b, 0, none⟩) n n, .cells M1 199), (5, fun b => .slice (some ⟨b, 0, none⟩) n n, .cells M2 4)] []) () [] [0, 1, 2, 3, 4, 5, 6, 7] [] mixed (by kernel_rfl) (by kernel_rfl) (gPlan_ok (by simp) (by simp)) (gPlan_start _ _ _ _ _) ?_; refine wpPure_nil ?_; simp only [List.map_cons, List.map_nil, Array.getD_eq_getD_getElem?, List.getElem?_toArray, List.getElem?_cons_zero, List.getElem?_cons_succ, Option.getD_some])
  (repeat (refine wpChain_quiet hF rfl rfl rfl ?_; intro K hK; go_big_quiet_op; go_big_quiet_on))
  (refine wpChain_alloc _ _ rfl (List.mem_cons_self ..) rfl (fun w' => by go_simp) (fun b1 hb1 => ?_); simp only [Act.put, List.setIfInBounds_toArray, List.set_cons_succ, List.set_cons_zero])
  (repeat (refine wpChain_quiet hF rfl rfl rfl ?_; intro K hK; go_big_quiet_op; go_big_quiet_on))
  (refine wpChain_alloc _ _ rfl (List.mem_cons_of_mem _ (List.mem_cons_self ..)) rfl (fun w' => by go_simp) (fun b2 hb2 => ?_); simp only [Act.put, List.setIfInBounds_toArray, List.set_cons_succ, List.set_cons_zero])
  (repeat (refine wpChain_quiet hF rfl rfl rfl ?_; intro K hK; go_big_quiet_op; go_big_quiet_on))
  refine wpChain_nil (fun w4 hb4 hl4 => ?_)
  have hx1 : w4.heap[b1]? = some (.cells M1 199) := (hl4.2 (2, b1, .cells M1 199) (by simp)).2
  have hx2 : w4.heap[b2]? = some (.cells M2 4) := (hl4.2 (5, b2, .cells M2 4) (by simp)).2
  have hnd := hl4.1
  have hg1 := (hl4.2 (2, b1, .cells M1 199) (by simp)).1
  have hg2 := (hl4.2 (5, b2, .cells M2 4) (by simp)).1
  have hne12 : b1 ≠ b2 := by
    simp at hnd; first | exact hnd | exact fun e => hnd e.symm
  have hg1 : w0.heap.size ≤ b1 := hg1
  have hg2 : w0.heap.size ≤ b2 := hg2
  have B4 := Lib.hid (show Below w0.heap.size w0 w4 from hb4)
  have y1 : Row w4 w0.heap.size 199 2 (.slice (some ⟨b1, 0, none⟩) n n) n (lf (fun _ => 0) (fun _ => 0)) := Row.of_made (z := #[.int .i64 0, .int .i64 0]) rfl (by decide) (by rw [← HM1.out]; exact hx1) hg1 (by unfold maxLen; omega)
  have y2 : Row w4 w0.heap.size 4 1 (.slice (some ⟨b2, 0, none⟩) n n) n (ff (fun _ => false)) := Row.of_made (z := #[.bool false]) rfl (by decide) (by rw [← HM2.out]; exact hx2) hg2 (by unfold maxLen; omega)
  have zb1 := block_lt hx1
  have zb2 := block_lt hx2
  have Y1 := Lib.hid y1
  have Y2 := Lib.hid y2
  have NW := QT.new () w4 w0.heap.size B4.out.size
  simp only [QT.F, QT.fn] at NW
  have HNW := Lib.hid NW
  have HN12 := Lib.hid hne12
  clear hb4 hl4 hx1 hx2 hnd hF fb fr0 y1 y2 NW hne12 hM1 hM2 HM1 HM2
  refine onlyN_intro ?_
  go_wp2_with fail
  refine HNW.out.mono ?_
  rintro e w5 ⟨rfl, q5, b5⟩
  have zq := (q5.within _ (.inl rfl)).2
  have PU := QT.push_q () w5 w0.heap.size w4.heap.size none [] 0 ⟨src, 0, 0⟩ q5 (by omega) (by have := B4.out.size; omega)
  unfold QT.vv at PU
  dsimp only at PU
  have HPU := Lib.hid PU
  have Y1' := Lib.hid (Row.off (X := fun _ => False) Y1.out (Off.of_below b5) (fun _ _ h => h))
  have Y2' := Lib.hid (Row.off (X := fun _ => False) Y2.out (Off.of_below b5) (fun _ _ h => h))
  have B5 := Lib.hid (B4.out.trans (b5.mono B4.out.size))
  clear PU q5 b5
  go_wp2_with fail
  refine HPU.out.mono ?_
  rintro e w6 ⟨rfl, ow6, q6, o6, f6⟩
  have hfp : ∀ b, QT.FP w4.heap.size none b → b = w4.heap.size := fun b h => by rcases h with h | h; exact h; cases h
  have y16 := Row.off Y1'.out o6 (fun g hg h => by have h9 := hfp _ h; cases hg; dsimp only at h9; omega)
  have y26 := Row.off Y2'.out o6 (fun g hg h => by have h9 := hfp _ h; cases hg; dsimp only at h9; omega)
  have b6 := B5.out.trans (o6.toBelow B5.out.size (fun k hk h => by have := hfp _ h; have := B4.out.size; omega))
  have S6 : Hid (St w0 w6 b1 b2 w4.heap.size n (gr Ed.frm Ed.til n m E) src noEx (fun _ => false) (fun _ => 0) (fun _ => 0) [⟨src, 0, 0⟩] ow6 1) := Lib.hid ⟨Dij.start _ _ _ _, q6, y16, y26, b6, fun h => by rcases f6 _ h with h | h; cases h; omega, fun h => by rcases f6 _ h with h | h; cases h; omega⟩
  have hq12 : b1 ≠ w4.heap.size ∧ b2 ≠ w4.heap.size := by omega
  obtain ⟨q, hq⟩ : ∃ q, q = w4.heap.size := ⟨_, rfl⟩
  rw [← hq] at hq12 S6 ⊢
  have HQ12 := Lib.hid hq12
  have zqq : w0.heap.size ≤ q := by rw [hq]; exact B4.out.size
  clear hq hq12 q6 o6 f6 hfp y16 y26 b6 zb1 zb2 zq Y1 Y2 Y1' Y2' HNW HPU B4 B5
  go_wp2_with fail
  go_loopg [] (n * (m + 1) + 1) (fun K wr => ∃ (fd : Int → Bool) (bs be : Int → Int) (l : List QT.T) (ow : Option Nat) (N : Nat), Hid (K = (n - cf fd n) * (m + 1) + l.length ∧ N ≤ 1 + cf fd n * m) ∧ Hid (St w0 wr b1 b2 q n (gr Ed.frm Ed.til n m E) src noEx fd bs be l ow N))
  case atStart => exact ⟨fun _ => false, fun _ => 0, fun _ => 0, [⟨src, 0, 0⟩], ow6, 1, ⟨by rw [show cf (fun _ => false) n = 0 from Lv.cnt_none (fun _ _ => rfl)]; rfl, by omega⟩, S6⟩
  case round =>
    obtain ⟨fd, bs, be, l, ow, N, hK, hrel⟩ := hrel
    clear S6
    have hN : N ≤ 40000 := by
      have h1 := hK.out.2
      have h2 : cf fd n * m ≤ 64 * 512 := Nat.mul_le_mul (by have := cf_le fd n; omega) (by have := HR.out.m2; omega)
      omega
    by_cases hl : l = []
    · subst hl
      have P := QT.pop_none () wr w0.heap.size q ow N hrel.out.2.1
      have HP := Lib.hid P
      clear P
      go_wp2_with fail
      refine HP.out.mono ?_
      rintro e w7 ⟨rfl, b7⟩
      have B7 := Lib.hid b7
      clear b7
      go_wp2_with fail
      have b8 : Below w0.heap.size w0 (w7.alloc (.cells #[.int .i64 0, .int .i64 0, .int .i64 0] 208)) := (hrel.out.2.2.2.2.1.trans (B7.out.mono hrel.out.2.2.2.2.1.size)).alloc (by have := hrel.out.2.2.2.2.1.size; have := B7.out.size; omega) _
      have b9 : Below wr.heap.size wr (w7.alloc (.cells #[.int .i64 0, .int .i64 0, .int .i64 0] 208)) := B7.out.alloc B7.out.size _
      have B8 := Lib.hid b8
      have B9 := Lib.hid b9
      clear b8 b9
      go_returns
      exact ⟨b1, b2, fd, bs, be, rfl, HN12.out, (Row.off (X := fun _ => False) hrel.out.2.2.1 (Off.of_below B9.out) (fun _ _ h => h)).base_mono (by omega), (Row.off (X := fun _ => False) hrel.out.2.2.2.1 (Off.of_below B9.out) (fun _ _ h => h)).base_mono (by omega), fun v => hrel.out.1.last OK.out v, B0.out.trans (B8.out.mono B0.out.size)⟩
    · have P := QT.pop_some () wr w0.heap.size q ow l N hrel.out.2.1 hl (by omega)
      obtain ⟨x, hx⟩ : ∃ x, x = l.getD (minIx (QT.lt ()) l) default := ⟨_, rfl⟩
      obtain ⟨l2, hl2⟩ : ∃ l2, l2 = l.eraseIdx (minIx (QT.lt ()) l) := ⟨_, rfl⟩
      have hll : l2.length + 1 = l.length := by rw [hl2, List.length_eraseIdx_of_lt (minIx_lt hl)]; have := List.length_pos_iff.2 hl; omega
      rw [← hx, ← hl2] at P
      have hxn := (hrel.out.1.hq x (by rw [hx]; exact first_mem hl)).node OK.out ⟨by omega, by have := HS.out; show (src : Int) < (n : Int); omega⟩
      have HX := Lib.hid hx
      have HL2 := Lib.hid hl2
      have HLL := Lib.hid hll
      have HL := Lib.hid hl
      obtain ⟨nd, s, k⟩ := x
      dsimp only at hxn
      obtain ⟨v, rfl⟩ : ∃ v : Nat, nd = (v : Int) := ⟨nd.toNat, by omega⟩
      have hvn : v < n := by have : (v : Int) < (n : Int) := hxn.2; omega
      unfold QT.vv at P
      dsimp only at P
      have HP := Lib.hid P
      clear P hx hl2 hll hl hxn
      go_wp2_with fail
      refine HP.out.mono ?_
      rintro e w7 ⟨rfl, q7, o7⟩
      have hwi := hrel.out.2.1.within
      have r17 := Row.off hrel.out.2.2.1 o7 (fun g hg h => by cases hg; rcases h with h | h; exact HQ12.out.1 h; exact hrel.out.2.2.2.2.2.1 h.symm)
      have r27 := Row.off hrel.out.2.2.2.1 o7 (fun g hg h => by cases hg; rcases h with h | h; exact HQ12.out.2 h; exact hrel.out.2.2.2.2.2.2 h.symm)
      have b7 := hrel.out.2.2.2.2.1.trans (o7.toBelow hrel.out.2.2.2.2.1.size (fun b hb h => by have := (hwi b h).1; omega))
      have c0 : w7.cell? ⟨b1, v * 2, none⟩ = some (.int .i64 (bs v)) := Row.cell r17 (lf_len bs be) hvn (by decide : 0 < 2)
      have c1 : w7.cell? ⟨b1, v * 2 + 1, none⟩ = some (.int .i64 (be v)) := Row.cell r17 (lf_len bs be) hvn (by decide : 1 < 2)
      have c2 : w7.cell? ⟨b2, v, none⟩ = some (.bool (fd v)) := by have := Row.cell r27 (ff_len fd) hvn (by decide : 0 < 1); simpa [ff] using this
      have c3 : ∀ j, w7.frozen? ⟨b1, j, none⟩ = false := Row.free r17
      have c4 : ∀ j, w7.frozen? ⟨b2, j, none⟩ = false := Row.free r27
      have z71 := szs (cell_lt c0)
      have z72 := szs (cell_lt c2)
      have hb12 := HN12.out
      dsimp only at z71 z72
      have S7 : Hid (QT.Q w7 w0.heap.size q ow () l2 N ∧ Row w7 w0.heap.size 199 2 (.slice (some ⟨b1, 0, none⟩) n n) n (lf bs be) ∧ Row w7 w0.heap.size 4 1 (.slice (some ⟨b2, 0, none⟩) n n) n (ff fd) ∧ Below w0.heap.size w0 w7 ∧ ow ≠ some b1 ∧ ow ≠ some b2) := Lib.hid ⟨q7, r17, r27, b7, hrel.out.2.2.2.2.2.1, hrel.out.2.2.2.2.2.2⟩
      have tv : (v : Int) < (n : Int) := by omega
      have DJ := Lib.hid hrel.out.1
      obtain ⟨f, hf⟩ : ∃ f, f = fd v := ⟨_, rfl⟩
      rw [← hf] at c2
      have HF := Lib.hid hf
      clear hf hwi r17 r27 b7 q7 o7 hrel HP
      cases f
      · go_wp2_with fail
        go_region
        obtain ⟨w9, hw9⟩ : ∃ w9, w9 = ((((w7.setCell ⟨b1, v * 2, none⟩ (.int .i64 s)).setCell ⟨b1, v * 2 + 1, none⟩ (.int .i64 k)).setCell ⟨b2, v, none⟩ (.bool true)).alloc (.cells #[.int .i64 v, .int .i64 s, .int .i64 k] 208)).drew := ⟨_, rfl⟩
        rw [← hw9]
        obtain ⟨wm, hwm⟩ : ∃ wm, wm = (((w7.setCell ⟨b1, v * 2, none⟩ (.int .i64 s)).setCell ⟨b1, v * 2 + 1, none⟩ (.int .i64 k)).setCell ⟨b2, v, none⟩ (.bool true)) := ⟨_, rfl⟩
        rw [← hwm] at hw9
        have hzm : wm.heap.size = w7.heap.size := by rw [hwm]; simp
        have om : Off (fun b => b = b1 ∨ b = b2) w7 wm := by rw [hwm]; exact (((Off.refl (fun b => b = b1 ∨ b = b2) w7).setCell (fun _ => .inl rfl) _).setCell (fun _ => .inl rfl) _).setCell (fun _ => .inr rfl) _
        have q1 := S7.out.1.off om (fun b hb h => by rcases h with rfl | rfl <;> rcases hb with hb | hb; exact HQ12.out.1 hb; exact S7.out.2.2.2.2.1 hb.symm; exact HQ12.out.2 hb; exact S7.out.2.2.2.2.2 hb.symm)
        have rm1 : Row wm w0.heap.size 199 2 (.slice (some ⟨b1, 0, none⟩) n n) n (lf (upz bs v s) (upz be v k)) := by
          have a1 := Row.put S7.out.2.1 (lf_len bs be) hvn [.int .i64 s, .int .i64 k] rfl
          have a2 := Row.congr a1 (fun j _ => lf_up bs be v s k j)
          have a3 : Off (fun b => b = b2) (putCells w7 b1 (v * 2) [.int .i64 s, .int .i64 k]) wm := by
            rw [hwm]
            show Off (fun b => b = b2) ((w7.setCell ⟨b1, v * 2, none⟩ (.int .i64 s)).setCell ⟨b1, v * 2 + 1, none⟩ (.int .i64 k)) _
            exact (Off.refl (fun b => b = b2) _).setCell (fun _ => rfl) _
          exact Row.off a2 a3 (fun g hg h => by cases hg; exact HN12.out h)
        have rm2 : Row wm w0.heap.size 4 1 (.slice (some ⟨b2, 0, none⟩) n n) n (ff (upz fd v true)) := by
          have a0 : Off (fun b => b = b1) w7 ((w7.setCell ⟨b1, v * 2, none⟩ (.int .i64 s)).setCell ⟨b1, v * 2 + 1, none⟩ (.int .i64 k)) := ((Off.refl (fun b => b = b1) w7).setCell (fun _ => rfl) _).setCell (fun _ => rfl) _
          have a1 := Row.put (Row.off S7.out.2.2.1 a0 (fun g hg h => by cases hg; exact HN12.out h.symm)) (ff_len fd) hvn [.bool true] rfl
          rw [hwm]
          have := Row.congr a1 (fun j _ => ff_up fd v j)
          simpa [putCells] using this
        have bm : Below w0.heap.size w0 wm := S7.out.2.2.2.1.trans (om.toBelow S7.out.2.2.2.1.size (fun b hb h => by omega))
        have ba : Below wm.heap.size wm w9 := by rw [hw9]; exact ((Below.refl _ _).alloc (Nat.le_refl _) _).drew
        have x9 : w9.heap[w7.heap.size]? = some (.cells #[.int .i64 v, .int .i64 s, .int .i64 k] 208) := by rw [hw9, ← hzm]; exact heap_alloc_new wm _
        have S9 : Hid (St w0 w9 b1 b2 q n (gr Ed.frm Ed.til n m E) src (fun i => Ed.frm (E i) = (v : Int) ∧ 0 ≤ i) (upz fd v true) (upz bs v s) (upz be v k) l2 ow N) := Lib.hid ⟨by rw [HL2.out]; exact DJ.out.settle OK.out HL.out HX.out HF.out.symm, q1.below ba, Row.off (X := fun _ => False) rm1 (Off.of_below ba) (fun _ _ h => h), Row.off (X := fun _ => False) rm2 (Off.of_below ba) (fun _ _ h => h), bm.trans (ba.mono bm.size), S7.out.2.2.2.2⟩
        have X9 := Lib.hid x9
        have hq9 : w7.heap.size ≠ q ∧ ow ≠ some w7.heap.size := ⟨fun e => by have := (S7.out.1.within _ (.inl rfl)).2; omega, fun e => by have := (S7.out.1.within _ (.inr e.symm)).2; omega⟩
        have hb9 : b1 < w7.heap.size ∧ b2 < w7.heap.size := ⟨z71.1, z72.1⟩
        have d1 := cell_kept S9.out.2.2.2.2.1 r1
        have zd1 := szs (cell_lt d1)
        dsimp only at zd1
        have HQ9 := Lib.hid (And.intro hq9 hb9)
        clear hw9 hwm hzm om q1 rm1 rm2 bm ba x9 c0 c1 c2 c3 c4 z71 z72 hb12 hq9 hb9 S7
        have hbv : Best (gr Ed.frm Ed.til n m E) src v s k := by have := S9.out.1.hf v (upz_same _ _ _); rwa [upz_same, upz_same] at this
        have hbd := hbv.1.nonneg OK.out
        have hbf := hbv.few OK.out ⟨by omega, by have := HS.out; show (src : Int) < (n : Int); omega⟩
        have hbf : k < (n : Int) := hbf
        have hs0 : 0 ≤ s := by omega
        have hs1 : s ≤ 64000 := by omega
        have hk0 : 0 ≤ k := by omega
        have hk1 : k ≤ 64 := by omega
        have HBD := Lib.hid hbv
        clear hbv hbd hbf
        go_wp2_with fail
        go_loopw [55] (fun i wr => ∃ (j N' : Nat) (l' : List QT.T) (ow' : Option Nat), i = .int .i64 j ∧ j ≤ m ∧ N' ≤ N + j ∧ l'.length ≤ l2.length + j ∧ Hid (St w0 wr b1 b2 q n (gr Ed.frm Ed.til n m E) src (fun i => Ed.frm (E i) = (v : Int) ∧ j ≤ i) (upz fd v true) (upz bs v s) (upz be v k) l' ow' N' ∧ wr.heap[w7.heap.size]? = some (.cells #[.int .i64 v, .int .i64 s, .int .i64 k] 208) ∧ ow' ≠ some w7.heap.size)) (fun i _ => m - (intOf i).toNat)
        case atStart => exact ⟨0, N, l2, ow, rfl, by omega, by omega, by omega, S9.out, X9.out, HQ9.out.1.2⟩
        case round =>
          clear S9 X9 d1 zd1
          obtain ⟨j, N', l', ow', rfl, hj, hN', hl', hrel⟩ := hrel
          have B9 := Lib.hid hrel.out.1.2.2.2.2.1
          by_cases hjm : j < m
          · obtain ⟨g, o, hao, hg, e0, e1, e2⟩ := (n0.out.below B9.out).cells hjm
            subst hao
            have zg := szs hg
            have tj : (j : Int) < (m : Int) := by omega
            have rj := HR.out.hs j hjm
            have hA := OK.out.ha j hjm
            have hB := OK.out.hb j hjm
            have CE := HC.out (E j)
            have hAe : (gr Ed.frm Ed.til n m E).a j = Ed.frm (E j) := rfl
            have hBe : (gr Ed.frm Ed.til n m E).b j = Ed.til (E j) := rfl
            have hCe : (gr Ed.frm Ed.til n m E).c j = (E j).sec := rfl
            have hB : 0 ≤ Ed.til (E j) ∧ Ed.til (E j) < (n : Int) := hB
            obtain ⟨u, hu⟩ : ∃ u : Nat, Ed.til (E j) = (u : Int) := ⟨(Ed.til (E j)).toNat, by omega⟩
            have hun : u < n := by omega
            have tu : (u : Int) < (n : Int) := by omega
            have c2 : wr.cell? ⟨b2, u, none⟩ = some (.bool (upz fd v true u)) := by have := Row.cell hrel.out.1.2.2.2.1 (ff_len _) hun (by decide : 0 < 1); simpa [ff] using this
            have s0 : wr.cell? ⟨w7.heap.size, 0, none⟩ = some (.int .i64 v) := cell_at hrel.out.2.1 0
            have s1 : wr.cell? ⟨w7.heap.size, 1, none⟩ = some (.int .i64 s) := cell_at hrel.out.2.1 1
            have s2 : wr.cell? ⟨w7.heap.size, 2, none⟩ = some (.int .i64 k) := cell_at hrel.out.2.1 2
            have C2 := Lib.hid c2
            have S0 := Lib.hid s0
            have S1 := Lib.hid s1
            have S2 := Lib.hid s2
            obtain ⟨f, hf⟩ : ∃ f, f = E j := ⟨_, rfl⟩
            rw [← hf] at e0 e1 e2 rj CE
            have HF2 := Lib.hid hf
            obtain ⟨ea, hea⟩ : ∃ ea, ea = Ed.frm f := ⟨_, rfl⟩
            have hfu : Ed.til f = (u : Int) := by rw [hf]; exact hu
            have CE : ∀ w, Calls Try.prog 135 #[.agg #[.int .i64 f.frm, .int .i64 f.til, .int .i64 f.sec]] w fun x w' => x = .returned (.tuple #[.int .i64 ea, .int .i64 u]) ∧ Below w.heap.size w w' := fun w => by rw [hea, ← hfu]; exact CE w
            clear hfu
            have HEA := Lib.hid hea
            have HU := Lib.hid hu
            obtain ⟨f0, f1, f2⟩ := f
            dsimp only at e0 e1 e2 rj CE
            obtain ⟨rj0, rj1⟩ := rj
            have HCE := Lib.hid CE
            have HGR := Lib.hid (And.intro hAe (And.intro hBe hCe))
            have be : Below wr.heap.size wr (wr.alloc (.cells #[.int .i64 f0, .int .i64 f1, .int .i64 f2] 113)) := (Below.refl _ _).alloc (Nat.le_refl _) _
            have XE := Lib.hid (heap_alloc_new wr (.cells #[.int .i64 f0, .int .i64 f1, .int .i64 f2] 113))
            have BE := Lib.hid be
            clear hA hB hu c2 s0 s1 s2 hf hea be CE hAe hBe hCe
            go_wp2_with fail
            refine (HCE.out _).mono ?_
            rintro e w10 ⟨rfl, b10⟩
            have x10 := (b10.block _ (block_lt XE.out)).trans XE.out
            have ba := BE.out.trans (b10.mono BE.out.size)
            have c2 := cell_kept ba C2.out
            have s0 := cell_kept ba S0.out
            have s1 := cell_kept ba S1.out
            have s2 := cell_kept ba S2.out
            have y2 : w10.cell? ⟨wr.heap.size, 2, none⟩ = some (.int .i64 f2) := cell_at x10 2
            have z1 := szs (cell_lt c2)
            have z2 := szs (cell_lt s0)
            have z3 := szs (cell_lt y2)
            dsimp only at z1 z2 z3
            have Q10 := hrel.out.1.2.1.below ba
            have R1 := Row.off (X := fun _ => False) hrel.out.1.2.2.1 (Off.of_below ba) (fun _ _ h => h)
            have R2 := Row.off (X := fun _ => False) hrel.out.1.2.2.2.1 (Off.of_below ba) (fun _ _ h => h)
            have Bb := B9.out.trans (ba.mono B9.out.size)
            have X10 := Lib.hid ((ba.block _ (block_lt hrel.out.2.1)).trans hrel.out.2.1)
            have M10 := Lib.hid (And.intro Q10 (And.intro R1 (And.intro R2 Bb)))
            have DJ9 := Lib.hid hrel.out.1.1
            have OW := Lib.hid (And.intro hrel.out.1.2.2.2.2.2 hrel.out.2.2)
            clear b10 x10 ba Q10 R1 R2 Bb hrel e0 e1 e2 HCE
            obtain ⟨fu, hfu⟩ : ∃ fu, fu = upz fd v true u := ⟨_, rfl⟩
            rw [← hfu] at c2
            have HFU := Lib.hid hfu
            clear hfu C2 S0 S1 S2
            by_cases hav : ea = (v : Int)
            · subst hav
              cases fu
              · have PU := QT.push_q () w10 w0.heap.size q ow' l' N' ⟨u, s + f2, k + 1⟩ M10.out.1 (by omega) M10.out.2.2.2.size
                unfold QT.vv at PU
                dsimp only at PU
                have HPU := Lib.hid PU
                clear PU
                go_wp2_with fail
                refine HPU.out.mono ?_
                rintro e w11 ⟨rfl, ow2, q11, o11, f11⟩
                have hwi := M10.out.1.within
                have r1' := Row.off M10.out.2.1 o11 (fun g hg h => by cases hg; rcases h with h | h; exact HQ12.out.1 h; exact OW.out.1.1 h.symm)
                have r2' := Row.off M10.out.2.2.1 o11 (fun g hg h => by cases hg; rcases h with h | h; exact HQ12.out.2 h; exact OW.out.1.2 h.symm)
                have b' := M10.out.2.2.2.trans (o11.toBelow M10.out.2.2.2.size (fun b hb h => by have := (hwi b h).1; omega))
                have x' := (o11.block _ (block_lt X10.out) (fun h => by rcases h with h | h; exact HQ9.out.1.1 h; exact OW.out.2 h.symm)).trans X10.out
                have hlt7 := block_lt X10.out
                have hn : ∀ b, b < w10.heap.size → ow' ≠ some b → ow2 ≠ some b := fun b hb h e => by rcases f11 b e with h2 | h2; exact h h2; omega
                have dj := DJ9.out.push (j := j) hjm (by rw [HGR.out.1, ← HF2.out]; exact HEA.out.symm) (upz_same _ _ _)
                rw [HGR.out.2.1, HGR.out.2.2, HU.out, ← HF2.out, upz_same, upz_same] at dj
                have HEND : Hid (St w0 w11 b1 b2 q n (gr Ed.frm Ed.til n m E) src (fun i => Ed.frm (E i) = (v : Int) ∧ j + 1 ≤ i) (upz fd v true) (upz bs v s) (upz be v k) (l' ++ [⟨u, s + f2, k + 1⟩]) ow2 (N' + 1) ∧ w11.heap[w7.heap.size]? = some (.cells #[.int .i64 v, .int .i64 s, .int .i64 k] 208) ∧ ow2 ≠ some w7.heap.size) :=
                  Lib.hid ⟨⟨dj, q11, r1', r2', b', hn _ (by have := HQ9.out.2.1; omega) OW.out.1.1, hn _ (by have := HQ9.out.2.2; omega) OW.out.1.2⟩, x', hn _ hlt7 OW.out.2⟩
                clear hwi r1' r2' b' x' hn dj q11 o11 f11 c2 s0 s1 s2 y2
                go_wp2_with fail
                go_roundw
                case rel => exact ⟨j + 1, N' + 1, _, ow2, by go_num, by omega, by omega, by simp; omega, HEND.out⟩
                case measure => simp [intOf]; omega
              · have HEND : Hid (St w0 w10 b1 b2 q n (gr Ed.frm Ed.til n m E) src (fun i => Ed.frm (E i) = (v : Int) ∧ j + 1 ≤ i) (upz fd v true) (upz bs v s) (upz be v k) l' ow' N' ∧ w10.heap[w7.heap.size]? = some (.cells #[.int .i64 v, .int .i64 s, .int .i64 k] 208) ∧ ow' ≠ some w7.heap.size) :=
                  Lib.hid ⟨⟨DJ9.out.pass (.inr (by rw [HGR.out.2.1, HU.out]; exact HFU.out.symm)), M10.out.1, M10.out.2.1, M10.out.2.2.1, M10.out.2.2.2, OW.out.1⟩, X10.out, OW.out.2⟩
                go_wp2_with fail
                go_roundw
                case rel => exact ⟨j + 1, N', _, ow', by go_num, by omega, by omega, by omega, HEND.out⟩
                case measure => simp [intOf]; omega
            · have hav' : (ea == (v : Int)) = false := by simp [hav]
              have HEND : Hid (St w0 w10 b1 b2 q n (gr Ed.frm Ed.til n m E) src (fun i => Ed.frm (E i) = (v : Int) ∧ j + 1 ≤ i) (upz fd v true) (upz bs v s) (upz be v k) l' ow' N' ∧ w10.heap[w7.heap.size]? = some (.cells #[.int .i64 v, .int .i64 s, .int .i64 k] 208) ∧ ow' ≠ some w7.heap.size) :=
                Lib.hid ⟨⟨DJ9.out.pass (.inl (by rw [HGR.out.1, ← HF2.out, ← HEA.out]; exact hav)), M10.out.1, M10.out.2.1, M10.out.2.2.1, M10.out.2.2.2, OW.out.1⟩, X10.out, OW.out.2⟩
              clear hav
              go_wp2_with fail
              go_roundw
              case rel => exact ⟨j + 1, N', _, ow', by go_num, by omega, by omega, by omega, HEND.out⟩
              case measure => simp [intOf]; omega
          · obtain rfl : j = m := by omega
            have hcf := cf_up (n := n) (show (0 : Int) ≤ (v : Int) by omega) (by omega) HF.out.symm
            have hcl := cf_le (upz fd v true) n
            have hkk := Lib.hid (show (n - cf (upz fd v true) n) * (j + 1) + l'.length < (n - cf fd n) * (j + 1) + l.length ∧ N' ≤ 1 + cf (upz fd v true) n * j by
              have h1 := HLL.out
              have h2 := hK.out.2
              rw [hcf]
              have h3 : n - cf fd n = n - (cf fd n + 1) + 1 := by omega
              rw [h3, Nat.succ_mul, Nat.succ_mul]
              omega)
            have HK1 := Lib.hid hK.out.1
            clear hcf hcl
            go_wp2_with fail
            go_roundg ((n - cf (upz fd v true) n) * (j + 1) + l'.length)
            case measure => rw [HK1.out]; exact hkk.out.1
            case rel => exact ⟨_, _, _, l', ow', N', ⟨rfl, hkk.out.2⟩, hrel.out.1.1.done, hrel.out.1.2⟩
      · have hK2 : Hid (gk = (n - cf fd n) * (m + 1) + l2.length + 1) := Lib.hid (by rw [hK.out.1]; have := HLL.out; omega)
        have HS7 : Hid (St w0 (w7.alloc (.cells #[.int .i64 v, .int .i64 s, .int .i64 k] 208)) b1 b2 q n (gr Ed.frm Ed.til n m E) src noEx fd bs be l2 ow N) := by
          have ba : Below w7.heap.size w7 (w7.alloc (.cells #[.int .i64 v, .int .i64 s, .int .i64 k] 208)) := (Below.refl _ _).alloc (Nat.le_refl _) _
          exact ⟨by rw [HL2.out]; exact DJ.out.skip HL.out (by rw [← HX.out]; exact HF.out.symm), S7.out.1.below ba, Row.off (X := fun _ => False) S7.out.2.1 (Off.of_below ba) (fun _ _ h => h), Row.off (X := fun _ => False) S7.out.2.2.1 (Off.of_below ba) (fun _ _ h => h), S7.out.2.2.2.1.trans (ba.mono S7.out.2.2.2.1.size), S7.out.2.2.2.2⟩
        have HN2 := Lib.hid hK.out.2
        go_wp2_with fail
        go_roundg ((n - cf fd n) * (m + 1) + l2.length)
        case measure => rw [hK2.out]; omega
        case rel => exact ⟨fd, bs, be, l2, ow, N, ⟨rfl, HN2.out⟩, HS7.out⟩
end Go.Proofs.Ytlnfhlmgnppcbaa
