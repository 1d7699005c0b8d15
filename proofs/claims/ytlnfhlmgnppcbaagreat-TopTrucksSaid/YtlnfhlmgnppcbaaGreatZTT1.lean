/- How long a truck drives on a route, how many bicycles it moves; two lists compared. -/
import Derived.Test.YtlnfhlmgnppcbaaGreatZCTA
import Derived.Test.YtlnfhlmgnppcbaaGreatZEVA
import Derived.BigQuiet
import Derived.BigRegion
namespace Go.Proofs.YtlnfhlmgnppcbaaGreat
open Go.RowKit Go.ChangeShapes Go.WideShapes Go.Deep
set_option linter.unusedVariables false
set_option linter.unusedSimpArgs false
set_option maxRecDepth 8000
open Rd
def DrvW (g : Ng) (r : Int) (R : Nat → Int) (k : Nat) (w : World) (e : Ending) (w' : World) : Prop :=
  Below w.heap.size w w' ∧ ((walkE g r R k ≠ 0 ∧ e = .returned (.tuple #[.int .i64 0, .int .i64 (walkE g r R k)])) ∨ (walkE g r R k = 0 ∧ ∃ x : Int, e = .returned (.tuple #[.int .i64 x, .int .i64 0])))
set_option maxHeartbeats 8000000 in
theorem driving139 (g : Ng) (r : Int) (R : Nat → Int) (k : Nat) (ra : Option Addr) (rc : Nat) (w : World) (hg : g.In w) (hR : Sl w 1 ra k rc (nf R)) (hk : k ≤ 1000) :
    Calls Tryz.prog 139 #[.agg g.cells, .agg #[.int .i64 r, .slice ra k rc]] w (DrvW g r R k w) := by
  have BB : Hid (Below w.heap.size w ((w.alloc (.cells g.cells 32)).alloc (.cells #[.int .i64 r, .slice ra k rc] 51))) := Lib.hid (by (repeat' (first | (with_reducible exact Below.refl _ _) | (with_reducible assumption) | (with_reducible refine Below.drew ?_) | (with_reducible refine below_drewN ?_ _) | (with_reducible refine Below.alloc ?_ ?_ _) | (with_reducible refine Below.setCell ?_ ?_ _) | go_size)))
  have XG := Lib.hid (al_keep (al_at w (.cells g.cells 32) rfl) (.cells #[.int .i64 r, .slice ra k rc] 51))
  have XR := Lib.hid (al_at (w.alloc (.cells g.cells 32)) (.cells #[.int .i64 r, .slice ra k rc] 51) (k := w.heap.size + 1) (by simp))
  obtain ⟨w1, hw1⟩ : ∃ w1, w1 = (w.alloc (.cells g.cells 32)).alloc (.cells #[.int .i64 r, .slice ra k rc] 51) := ⟨_, rfl⟩
  rw [← hw1] at BB XG XR
  have HW1 := Lib.hid hw1
  have HCC : Hid (g.cells = #[.int .i64 g.N, .slice g.ea g.em g.ec, .slice g.ta g.tn g.tc, .slice g.na g.nn g.nc, .int .i64 g.h]) := Lib.hid rfl
  rw [HCC.out] at XG HW1 ⊢
  have WK := Lib.hid (walk47 g r R k ra rc w1 (hg.below BB.out) (hR.below BB.out) hk)
  rw [HCC.out] at WK
  obtain ⟨E, hE⟩ : ∃ E, E = walkE g r R k := ⟨_, rfl⟩
  have HE := Lib.hid hE
  clear hw1 hg hR hE
  go_enter Tryz.func139, Tryz.ntmps139
  go_wp2_with fail
  rw [← HW1.out]
  have g0 := cell_kept (Below.refl w1.heap.size w1) (cell_at XG.out 0)
  have g1 := cell_kept (Below.refl w1.heap.size w1) (cell_at XG.out 1)
  have g2 := cell_kept (Below.refl w1.heap.size w1) (cell_at XG.out 2)
  have g3 := cell_kept (Below.refl w1.heap.size w1) (cell_at XG.out 3)
  have g4 := cell_kept (Below.refl w1.heap.size w1) (cell_at XG.out 4)
  have r0 := cell_kept (Below.refl w1.heap.size w1) (cell_at XR.out 0)
  have r1 := cell_kept (Below.refl w1.heap.size w1) (cell_at XR.out 1)
  try dsimp only at g0 g1 g2 g3 g4 r0 r1
  have zg := szs (cell_lt g0)
  have zr := szs (cell_lt r0)
  dsimp only at zg zr
  go_wp2_with fail
  refine WK.out.mono ?_
  rintro e w2 ⟨b2, ⟨hne, rfl⟩ | ⟨hz, b, v, rfl, hT, hV⟩⟩
  · have B2 := Lib.hid (BB.out.trans (b2.mono BB.out.size))
    rw [← HE.out] at hne
    rw [← HE.out]
    have te : (E != 0) = true := by simpa using hne
    have HN := Lib.hid hne
    clear WK hne b2
    go_wp2_with fail
    go_returns
    exact ⟨B2.out, .inl ⟨by rw [← HE.out]; exact HN.out, by rw [← HE.out]; rfl⟩⟩
  · have B2 := Lib.hid (BB.out.trans (b2.mono BB.out.size))
    have HZ := Lib.hid hz
    generalize homeS g (g.T r.toNat) (stK g (g.T r.toNat) R k) = st at *
    unfold tourC at hT
    have d0 := cell_at hT 12
    have zt := szs (block_lt hT)
    clear WK hz b2 hV hT
    clear g0 g1 g2 g3 g4 r0 r1 zg zr
    go_wp2_with fail
    go_returns
    exact ⟨B2.out, .inr ⟨HZ.out, _, rfl⟩⟩
set_option maxHeartbeats 8000000 in
theorem moved140 (g : Ng) (R : Nat → Int) (k : Nat) (ra : Option Addr) (rc : Nat) (w : World) (hg : g.In w) (hR : Sl w 1 ra k rc (nf R)) (hk : k ≤ 16) (hb : ∀ i, i < k → 0 ≤ R i ∧ R i < g.nn) (hD : ∀ i, i < g.nn → -32 ≤ (g.D i).mv ∧ (g.D i).mv ≤ 32) :
    Calls Tryz.prog 140 #[.agg g.cells, .slice ra k rc] w fun e w' => (∃ x : Int, e = .returned (.int .i64 x)) ∧ Below w.heap.size w w' := by
  have BB : Hid (Below w.heap.size w (w.alloc (.cells g.cells 32))) := Lib.hid (by (repeat' (first | (with_reducible exact Below.refl _ _) | (with_reducible assumption) | (with_reducible refine Below.drew ?_) | (with_reducible refine below_drewN ?_ _) | (with_reducible refine Below.alloc ?_ ?_ _) | (with_reducible refine Below.setCell ?_ ?_ _) | go_size)))
  have XG := Lib.hid (al_at w (.cells g.cells 32) rfl)
  obtain ⟨w1, hw1⟩ : ∃ w1, w1 = w.alloc (.cells g.cells 32) := ⟨_, rfl⟩
  rw [← hw1] at BB XG
  have HW1 := Lib.hid hw1
  have HCC : Hid (g.cells = #[.int .i64 g.N, .slice g.ea g.em g.ec, .slice g.ta g.tn g.tc, .slice g.na g.nn g.nc, .int .i64 g.h]) := Lib.hid rfl
  have HG1 := Lib.hid (hg.below BB.out)
  have HR1 := Lib.hid (hR.below BB.out)
  have hrm := hR.hm
  have hrc := hR.hc
  have hnm := hg.needs.hm
  have hnc := hg.needs.hc
  have HB := Lib.hid hb
  have HD := Lib.hid hD
  rw [HCC.out] at XG HW1 ⊢
  clear hw1 hg hR hb hD
  go_enter Tryz.func140, Tryz.ntmps140
  go_wp2_with fail
  rw [← HW1.out]
  go_wp2_with fail
  go_loopw [5, 10] (fun s5 s10 wr => ∃ (i : Nat) (x : Int), s10 = .int .i64 i ∧ i ≤ k ∧ s5 = .int .i64 x ∧ 0 ≤ x ∧ x ≤ 32 * (i : Int) ∧ Hid (Below w1.heap.size w1 wr)) (fun s5 s10 _ => k - (intOf s10).toNat)
  case atStart => exact ⟨0, 0, rfl, by omega, rfl, by omega, by omega, Lib.hid (Below.refl _ _)⟩
  case round =>
    obtain ⟨i, x, rfl, hi, rfl, hx0, hx1, hB⟩ := hrel
    have BR := hB
    clear hB
    by_cases hlt : i < k
    · have ti : (i : Int) < (k : Int) := by omega
      obtain ⟨gb, go, rfl, hgb, cx⟩ := (HR1.out.below BR.out).num hlt
      have hbi := HB.out i hlt
      obtain ⟨y, hy⟩ := Int.eq_ofNat_of_zero_le hbi.1
      have hyn : y < g.nn := by omega
      have hdy := HD.out y hyn
      rw [hy] at cx
      obtain ⟨nb, no, hna, hnb, c0, c1⟩ := (HG1.out.below BR.out).needs.nd hyn
      have zg := szs hgb
      have zn := szs hnb
      have tyn : (y : Int) < (g.nn : Int) := by omega
      have XG2 := XG
      rw [hna] at XG2
      have g3 := cell_kept BR.out (cell_at XG2.out 3)
      try dsimp only at g3
      have zx := szs (cell_lt g3)
      dsimp only at zx
      generalize (g.D y).mv = mv at *
      clear hy hbi hna hgb hnb c0 XG2 HB HD
      go_wp2_with fail
      (refine region_all (fun i : Nat => World.drewN _ i) mixed (by kernel_rfl) ⟨1, rfl⟩ ?_; (repeat (any_goals (first | go_big_quiet_step (fail) | quiet_step (fail) | (refine wpQuiet_step (fun K hK => ?_); go_simp; split <;> (refine hK _ ?_; clear hK K))))); (all_goals (refine wpQuiet_nil (fun nq => ?_))))
      go_wp2_with fail
      exact ⟨⟨i + 1, x + max mv (-mv), by go_num, by omega, rfl, by omega, by omega, Lib.hid (BR.out.trans (below_drewN (Below.refl _ _) nq))⟩, by simp [intOf]; omega⟩
    · obtain rfl : i = k := by omega
      go_wp2_with fail
      go_returns
      exact ⟨⟨_, rfl⟩, BB.out.trans (BR.out.mono BB.out.size)⟩
def cmpR (V1 V2 : Nat → Int) (n2 : Nat) : Nat → Nat → Int
  | 0, i => if i < n2 then -1 else 0
  | r + 1, i => if n2 ≤ i then 1 else if cmp1 (V1 i) (V2 i) ≠ 0 then cmp1 (V1 i) (V2 i) else cmpR V1 V2 n2 r (i + 1)
set_option maxHeartbeats 4000000 in
theorem compare141 (a1 a2 : Option Addr) (n1 c1 n2 c2 : Nat) (V1 V2 : Nat → Int) (w : World) (h1 : Sl w 1 a1 n1 c1 (nf V1)) (h2 : Sl w 1 a2 n2 c2 (nf V2)) :
    Calls Tryz.prog 141 #[.slice a1 n1 c1, .slice a2 n2 c2] w fun e w' => e = .returned (.int .i64 (cmpR V1 V2 n2 n1 0)) ∧ w = w' := by
  have m1 := h1.hm
  have k1 := h1.hc
  have m2 := h2.hm
  have k2 := h2.hc
  have H1 := Lib.hid h1
  have H2 := Lib.hid h2
  obtain ⟨X, hX⟩ : ∃ X, X = cmpR V1 V2 n2 n1 0 := ⟨_, rfl⟩
  rw [← hX]
  have HX := Lib.hid hX
  clear h1 h2 hX
  go_enter Tryz.func141, Tryz.ntmps141
  go_wp2_with fail
  go_loopw [11] (fun s11 wr => ∃ i : Nat, s11 = .int .i64 i ∧ i ≤ n1 ∧ i ≤ n2 ∧ Hid (w = wr ∧ X = cmpR V1 V2 n2 (n1 - i) i)) (fun s11 _ => n1 - (intOf s11).toNat)
  case atStart => exact ⟨0, rfl, by omega, by omega, Lib.hid ⟨rfl, HX.out⟩⟩
  case round =>
    obtain ⟨i, rfl, hi, hi2, hr⟩ := hrel
    obtain ⟨rfl, hXi⟩ := hr.out
    have HXI := Lib.hid hXi
    clear hXi hr HX
    by_cases hlt : i < n1
    · have ti : (i : Int) < (n1 : Int) := by omega
      obtain ⟨g1, o1, rfl, hg1, cx⟩ := H1.out.num hlt
      have zg := szs hg1
      obtain ⟨r, hr⟩ : ∃ r, n1 - i = r + 1 := ⟨n1 - i - 1, by omega⟩
      have HXI2 : Hid (X = if n2 ≤ i then 1 else if cmp1 (V1 i) (V2 i) ≠ 0 then cmp1 (V1 i) (V2 i) else cmpR V1 V2 n2 r (i + 1)) := Lib.hid (by have := HXI.out; rw [hr] at this; exact this)
      by_cases hi3 : n2 ≤ i
      · have tn : decide ((n2 : Int) ≤ (i : Int)) = true := decide_eq_true (by omega)
        have HX1 : Hid (X = 1) := Lib.hid (by rw [HXI2.out, if_pos hi3])
        clear HXI HXI2 hr
        go_wp2_with fail
        go_returns
        exact ⟨by rw [HX1.out]; rfl, rfl⟩
      · have tn : decide ((n2 : Int) ≤ (i : Int)) = false := decide_eq_false (by omega)
        have ti2 : (i : Int) < (n2 : Int) := by omega
        obtain ⟨g2, o2, rfl, hg2, cy⟩ := H2.out.num (show i < n2 by omega)
        have zg2 := szs hg2
        have C := Lib.hid (cmp101 (V1 i) (V2 i) w)
        obtain ⟨y, hy⟩ : ∃ y, y = cmp1 (V1 i) (V2 i) := ⟨_, rfl⟩
        rw [← hy] at HXI2 C
        rw [if_neg hi3] at HXI2
        have HR := Lib.hid hr
        clear hy HXI hr
        generalize V1 i = x1 at *
        generalize V2 i = x2 at *
        go_wp2_with fail
        refine C.out.mono ?_
        rintro e w2 ⟨rfl, rfl⟩
        clear C
        by_cases hy0 : y = 0
        · subst hy0
          have HX2 : Hid (X = cmpR V1 V2 n2 r (i + 1)) := Lib.hid (by rw [HXI2.out]; simp)
          clear HXI2
          go_wp2_with fail
          go_roundw
          case rel => exact ⟨i + 1, by go_num, by omega, by omega, Lib.hid ⟨by first | trivial | rfl, by rw [HX2.out, show n1 - (i + 1) = r by have := HR.out; omega]⟩⟩
          case measure => simp [intOf]; omega
        · have ty : (y != 0) = true := by simpa using hy0
          have HX2 : Hid (X = y) := Lib.hid (by rw [HXI2.out, if_pos hy0])
          clear HXI2
          go_wp2_with fail
          go_returns
          exact ⟨by rw [HX2.out]; rfl, rfl⟩
    · obtain rfl : i = n1 := by omega
      have HX1 : Hid (X = if i < n2 then -1 else 0) := Lib.hid (by have := HXI.out; rw [Nat.sub_self] at this; exact this)
      by_cases hi3 : i < n2
      · have tn : decide ((i : Int) < (n2 : Int)) = true := decide_eq_true (by omega)
        rw [if_pos hi3] at HX1
        clear HXI
        go_wp2_with fail
        go_returns
        exact ⟨by rw [HX1.out]; rfl, rfl⟩
      · have tn : decide ((i : Int) < (n2 : Int)) = false := decide_eq_false (by omega)
        rw [if_neg hi3] at HX1
        clear HXI
        go_wp2_with fail
        go_returns
        exact ⟨by rw [HX1.out]; rfl, rfl⟩
set_option maxHeartbeats 8000000 in
theorem better118 (a1 a2 : Option Addr) (n1 c1 n2 c2 : Nat) (V1 V2 : Nat → Int) (q1 d1 q2 d2 : Int) (o1 o2 : Bool) (w : World) (h1 : Sl w 1 a1 n1 c1 (nf V1)) (h2 : Sl w 1 a2 n2 c2 (nf V2)) :
    Calls Tryz.prog 118 #[.agg #[.slice a1 n1 c1, .int .i64 q1, .int .i64 d1, .bool o1], .agg #[.slice a2 n2 c2, .int .i64 q2, .int .i64 d2, .bool o2]] w fun e w' =>
      (e = .returned (.agg #[.slice a2 n2 c2, .int .i64 q2, .int .i64 d2, .bool o2]) ∨ (o1 = true ∧ e = .returned (.agg #[.slice a1 n1 c1, .int .i64 q1, .int .i64 d1, .bool o1]))) ∧ Below w.heap.size w w' := by
  have m1 := h1.hm
  have k1 := h1.hc
  have m2 := h2.hm
  have k2 := h2.hc
  have BB : Hid (Below w.heap.size w (((w.alloc (.cells #[.slice a1 n1 c1, .int .i64 q1, .int .i64 d1, .bool o1] 188)).alloc (.cells #[.slice a2 n2 c2, .int .i64 q2, .int .i64 d2, .bool o2] 188)).alloc (.cells #[.slice none 0 0, .int .i64 0, .int .i64 0, .bool false] 188))) := Lib.hid (by (repeat' (first | (with_reducible exact Below.refl _ _) | (with_reducible assumption) | (with_reducible refine Below.drew ?_) | (with_reducible refine below_drewN ?_ _) | (with_reducible refine Below.alloc ?_ ?_ _) | (with_reducible refine Below.setCell ?_ ?_ _) | go_size)))
  have X2 := Lib.hid (al_keep (al_keep (al_at w (.cells #[.slice a1 n1 c1, .int .i64 q1, .int .i64 d1, .bool o1] 188) rfl) (.cells #[.slice a2 n2 c2, .int .i64 q2, .int .i64 d2, .bool o2] 188)) (.cells #[.slice none 0 0, .int .i64 0, .int .i64 0, .bool false] 188))
  have X3 := Lib.hid (al_keep (al_at (w.alloc (.cells #[.slice a1 n1 c1, .int .i64 q1, .int .i64 d1, .bool o1] 188)) (.cells #[.slice a2 n2 c2, .int .i64 q2, .int .i64 d2, .bool o2] 188) (k := w.heap.size + 1) (by simp)) (.cells #[.slice none 0 0, .int .i64 0, .int .i64 0, .bool false] 188))
  have X4 := Lib.hid (al_at ((w.alloc (.cells #[.slice a1 n1 c1, .int .i64 q1, .int .i64 d1, .bool o1] 188)).alloc (.cells #[.slice a2 n2 c2, .int .i64 q2, .int .i64 d2, .bool o2] 188)) (.cells #[.slice none 0 0, .int .i64 0, .int .i64 0, .bool false] 188) (k := w.heap.size + 1 + 1) (by simp))
  obtain ⟨w1, hw1⟩ : ∃ w1, w1 = ((w.alloc (.cells #[.slice a1 n1 c1, .int .i64 q1, .int .i64 d1, .bool o1] 188)).alloc (.cells #[.slice a2 n2 c2, .int .i64 q2, .int .i64 d2, .bool o2] 188)).alloc (.cells #[.slice none 0 0, .int .i64 0, .int .i64 0, .bool false] 188) := ⟨_, rfl⟩
  rw [← hw1] at BB X2 X3 X4
  have HW1 := Lib.hid hw1
  have H1 := Lib.hid (h1.below BB.out)
  have H2 := Lib.hid (h2.below BB.out)
  clear hw1 h1 h2
  go_enter Tryz.func118, Tryz.ntmps118
  go_wp2_with fail
  rw [← HW1.out]
  have C1 := Lib.hid (fun w' => cmp101 q1 q2 w')
  have C2 := Lib.hid (fun w' => cmp101 d2 d1 w')
  have C3 := Lib.hid (fun w' (hb : Below w1.heap.size w1 w') => compare141 a2 a1 n2 c2 n1 c1 V2 V1 w' (H2.out.below hb) (H1.out.below hb))
  generalize cmp1 q1 q2 = y1 at *
  generalize cmp1 d2 d1 = y2 at *
  generalize cmpR V2 V1 n1 n2 0 = y3 at *
  cases o1 with
  | false =>
    have x3 := cell_at X2.out 3
    have zx := szs (block_lt X2.out)
    go_wp2_with fail
    (obtain ⟨ι, hne, Fw, fb, hF⟩ := dfamily w1); have hF : ∀ w', (dPlan w1 (fun i => if i = 11 then .int .i64 y1 else if i = 16 then .int .i64 y2 else .int .i64 y3) [11, 16, 21] [(22, fun b => .slice (some ⟨b, 0, none⟩) 3 3, .cells #[.int .i64 y1, .int .i64 y2, .int .i64 y3] 3)] []).D () w' → ∃ i, w' = Fw i := hF
    have f3 := fun i => cell_kept (fb i) x3
    clear x3
    (refine region_chain (dPlan w1 (fun i => if i = 11 then .int .i64 y1 else if i = 16 then .int .i64 y2 else .int .i64 y3) [11, 16, 21] [(22, fun b => .slice (some ⟨b, 0, none⟩) 3 3, .cells #[.int .i64 y1, .int .i64 y2, .int .i64 y3] 3)] []) () [] [0, 1, 2, 3, 4, 5, 6, 7, 8, 9, 10, 12, 13, 14, 15, 17, 18, 19, 20, 11, 16, 21, 22] [23, 24, 25, 26] mixed (by kernel_rfl) (by kernel_rfl) (dPlan_ok (by simp) (by simp)) (dPlan_start _ _ _ _ _) ?_; refine wpPure_nil ?_; simp only [List.map_cons, List.map_nil, Array.getD_eq_getD_getElem?, List.getElem?_toArray, List.getElem?_cons_zero, List.getElem?_cons_succ, Option.getD_some])
    (repeat (first | (refine wpChain_skip rfl ?_; simp only [Act.put, List.setIfInBounds_toArray, List.set_cons_succ, List.set_cons_zero]) | (refine wpChain_quiet hF rfl rfl rfl ?_; intro K hK; go_big_quiet_op; go_big_quiet_on) | (refine wpChain_pure _ rfl rfl (fun w' _ => by go_simp; try rfl) ?_; simp only [Act.put, List.setIfInBounds_toArray, List.set_cons_succ, List.set_cons_zero])))
    refine wpChain_nil (fun w4 hb4 hl4 => ?_)
    have B4 : Hid (Grew w1 w4) := hb4
    clear hb4 hl4 hF fb hne f3 zx C1 C2 C3
    have KX := Lib.hid ((B4.out.1.block _ (block_lt X3.out)).trans X3.out)
    have K4 := Lib.hid ((B4.out.1.block _ (block_lt X4.out)).trans X4.out)
    have BE := Lib.hid (BB.out.trans (B4.out.1.mono BB.out.size))
    go_wp2_with fail
    refine onlyN_intro ?_
    have u0 := cell_at KX.out 0
    have u1 := cell_at KX.out 1
    have u2 := cell_at KX.out 2
    have u3 := cell_at KX.out 3
    have zu := szs (block_lt KX.out)
    have v0 := cell_at K4.out 0
    have v1 := cell_at K4.out 1
    have v2 := cell_at K4.out 2
    have v3 := cell_at K4.out 3
    have vf := fun j => free_at K4.out j
    have zv := szs (block_lt K4.out)
    go_wp2_with fail
    have hlt := block_lt K4.out
    rw [setCell_at K4.out, setAt_setCell hlt, setAt_setCell hlt, setAt_setCell hlt]
    have E4 : (setAt w4 (w.heap.size + 1 + 1) (.cells #[.slice a2 n2 c2, .int .i64 q2, .int .i64 d2, .bool o2] 188)).heap[w.heap.size + 1 + 1]? = some (.cells #[.slice a2 n2 c2, .int .i64 q2, .int .i64 d2, .bool o2] 188) := setAt_same hlt
    have e0 := cell_at E4 0
    have e1 := cell_at E4 1
    have e2 := cell_at E4 2
    have e3 := cell_at E4 3
    refine bodyPost_ret (v := .agg #[.slice a2 n2 c2, .int .i64 q2, .int .i64 d2, .bool o2]) (by simp [results, Tryz.results118, go_sem, e0, e1, e2, e3]) rfl ?_
    exact ⟨.inl rfl, below_setAt (by omega) BE.out⟩
  | true =>
    cases o2 with
    | false =>
      have x3 := cell_at X2.out 3
      have zx := szs (block_lt X2.out)
      have z3 := cell_at X3.out 3
      have zy := szs (block_lt X3.out)
      go_wp2_with fail
      (obtain ⟨ι, hne, Fw, fb, hF⟩ := dfamily w1); have hF : ∀ w', (dPlan w1 (fun i => if i = 11 then .int .i64 y1 else if i = 16 then .int .i64 y2 else .int .i64 y3) [11, 16, 21] [(22, fun b => .slice (some ⟨b, 0, none⟩) 3 3, .cells #[.int .i64 y1, .int .i64 y2, .int .i64 y3] 3)] []).D () w' → ∃ i, w' = Fw i := hF
      have f3 := fun i => cell_kept (fb i) x3
      have g3 := fun i => cell_kept (fb i) z3
      clear x3 z3
      (refine region_chain (dPlan w1 (fun i => if i = 11 then .int .i64 y1 else if i = 16 then .int .i64 y2 else .int .i64 y3) [11, 16, 21] [(22, fun b => .slice (some ⟨b, 0, none⟩) 3 3, .cells #[.int .i64 y1, .int .i64 y2, .int .i64 y3] 3)] []) () [] [0, 1, 2, 3, 4, 5, 6, 7, 8, 9, 10, 12, 13, 14, 15, 17, 18, 19, 20, 11, 16, 21, 22] [23, 24, 25, 26] mixed (by kernel_rfl) (by kernel_rfl) (dPlan_ok (by simp) (by simp)) (dPlan_start _ _ _ _ _) ?_; refine wpPure_nil ?_; simp only [List.map_cons, List.map_nil, Array.getD_eq_getD_getElem?, List.getElem?_toArray, List.getElem?_cons_zero, List.getElem?_cons_succ, Option.getD_some])
      (repeat (first | (refine wpChain_skip rfl ?_; simp only [Act.put, List.setIfInBounds_toArray, List.set_cons_succ, List.set_cons_zero]) | (refine wpChain_quiet hF rfl rfl rfl ?_; intro K hK; go_big_quiet_op; go_big_quiet_on) | (refine wpChain_pure _ rfl rfl (fun w' _ => by go_simp; try rfl) ?_; simp only [Act.put, List.setIfInBounds_toArray, List.set_cons_succ, List.set_cons_zero])))
      refine wpChain_nil (fun w4 hb4 hl4 => ?_)
      have B4 : Hid (Grew w1 w4) := hb4
      clear hb4 hl4 hF fb hne f3 g3 zx zy C1 C2 C3
      have KX := Lib.hid ((B4.out.1.block _ (block_lt X2.out)).trans X2.out)
      have K4 := Lib.hid ((B4.out.1.block _ (block_lt X4.out)).trans X4.out)
      have BE := Lib.hid (BB.out.trans (B4.out.1.mono BB.out.size))
      go_wp2_with fail
      refine onlyN_intro ?_
      have u0 := cell_at KX.out 0
      have u1 := cell_at KX.out 1
      have u2 := cell_at KX.out 2
      have u3 := cell_at KX.out 3
      have zu := szs (block_lt KX.out)
      have v0 := cell_at K4.out 0
      have v1 := cell_at K4.out 1
      have v2 := cell_at K4.out 2
      have v3 := cell_at K4.out 3
      have vf := fun j => free_at K4.out j
      have zv := szs (block_lt K4.out)
      go_wp2_with fail
      have hlt := block_lt K4.out
      rw [setCell_at K4.out, setAt_setCell hlt, setAt_setCell hlt, setAt_setCell hlt]
      have E4 : (setAt w4 (w.heap.size + 1 + 1) (.cells #[.slice a1 n1 c1, .int .i64 q1, .int .i64 d1, .bool true] 188)).heap[w.heap.size + 1 + 1]? = some (.cells #[.slice a1 n1 c1, .int .i64 q1, .int .i64 d1, .bool true] 188) := setAt_same hlt
      have e0 := cell_at E4 0
      have e1 := cell_at E4 1
      have e2 := cell_at E4 2
      have e3 := cell_at E4 3
      refine bodyPost_ret (v := .agg #[.slice a1 n1 c1, .int .i64 q1, .int .i64 d1, .bool true]) (by simp [results, Tryz.results118, go_sem, e0, e1, e2, e3]) rfl ?_
      exact ⟨.inr (by first | exact ⟨rfl, rfl⟩ | rfl), below_setAt (by omega) BE.out⟩
    | true =>
      have x0 := cell_at X2.out 0
      have x1 := cell_at X2.out 1
      have x2 := cell_at X2.out 2
      have x3 := cell_at X2.out 3
      have zx := szs (block_lt X2.out)
      have z0 := cell_at X3.out 0
      have z1 := cell_at X3.out 1
      have z2 := cell_at X3.out 2
      have z3 := cell_at X3.out 3
      have zy := szs (block_lt X3.out)
      go_wp2_with fail
      (obtain ⟨ι, hne, Fw, fb, hF⟩ := dfamily w1); have hF : ∀ w', (dPlan w1 (fun i => if i = 11 then .int .i64 y1 else if i = 16 then .int .i64 y2 else .int .i64 y3) [11, 16, 21] [(22, fun b => .slice (some ⟨b, 0, none⟩) 3 3, .cells #[.int .i64 y1, .int .i64 y2, .int .i64 y3] 3)] []).D () w' → ∃ i, w' = Fw i := hF
      have f0 := fun i => cell_kept (fb i) x0
      have f1 := fun i => cell_kept (fb i) x1
      have f2 := fun i => cell_kept (fb i) x2
      have f3 := fun i => cell_kept (fb i) x3
      have g0 := fun i => cell_kept (fb i) z0
      have g1 := fun i => cell_kept (fb i) z1
      have g2 := fun i => cell_kept (fb i) z2
      have g3 := fun i => cell_kept (fb i) z3
      clear x0 x1 x2 x3 z0 z1 z2 z3
      (refine region_chain (dPlan w1 (fun i => if i = 11 then .int .i64 y1 else if i = 16 then .int .i64 y2 else .int .i64 y3) [11, 16, 21] [(22, fun b => .slice (some ⟨b, 0, none⟩) 3 3, .cells #[.int .i64 y1, .int .i64 y2, .int .i64 y3] 3)] []) () [] [0, 1, 2, 3, 4, 5, 6, 7, 8, 9, 10, 12, 13, 14, 15, 17, 18, 19, 20, 11, 16, 21, 22] [23, 24, 25, 26] mixed (by kernel_rfl) (by kernel_rfl) (dPlan_ok (by simp) (by simp)) (dPlan_start _ _ _ _ _) ?_; refine wpPure_nil ?_; simp only [List.map_cons, List.map_nil, Array.getD_eq_getD_getElem?, List.getElem?_toArray, List.getElem?_cons_zero, List.getElem?_cons_succ, Option.getD_some])
      (repeat (first | (refine wpChain_skip rfl ?_; simp only [Act.put, List.setIfInBounds_toArray, List.set_cons_succ, List.set_cons_zero]) | (refine wpChain_quiet hF rfl rfl rfl ?_; intro K hK; go_big_quiet_op; go_big_quiet_on) | (refine wpChain_pure _ rfl rfl (fun w' _ => by go_simp; try rfl) ?_; simp only [Act.put, List.setIfInBounds_toArray, List.set_cons_succ, List.set_cons_zero])))
      refine wpChain_dcall 101 #[.int .i64 q1, .int .i64 q2] rfl rfl (fun w' => by go_simp) (fun w' hb => (C1.out w').mono fun _ _ ⟨he, hw⟩ => ⟨he, hw ▸ Grew.refl _⟩) ?_
      simp only [Act.put, List.setIfInBounds_toArray, List.set_cons_succ, List.set_cons_zero]
      refine wpChain_dcall 101 #[.int .i64 d2, .int .i64 d1] rfl rfl (fun w' => by go_simp) (fun w' hb => (C2.out w').mono fun _ _ ⟨he, hw⟩ => ⟨he, hw ▸ Grew.refl _⟩) ?_
      simp only [Act.put, List.setIfInBounds_toArray, List.set_cons_succ, List.set_cons_zero]
      refine wpChain_dcall 141 _ rfl rfl (fun w' => by go_simp) (fun w' hb => (C3.out w' hb.1).mono fun _ _ ⟨he, hw⟩ => ⟨he, hw ▸ Grew.refl _⟩) ?_
      simp only [Act.put, List.setIfInBounds_toArray, List.set_cons_succ, List.set_cons_zero]
      simp only [if_true, if_false, (by decide : ¬ (16 = 11)), (by decide : ¬ (21 = 11)), (by decide : ¬ (21 = 16))]
      (refine wpChain_alloc _ _ rfl (List.mem_cons_self ..) rfl (fun w' => by go_simp) (fun b1 hb1 => ?_); simp only [Act.put, List.setIfInBounds_toArray, List.set_cons_succ, List.set_cons_zero])
      refine wpChain_nil (fun w4 hb4 hl4 => ?_)
      have B4 : Hid (Grew w1 w4) := hb4
      have hx1 : w4.heap[b1]? = some (.cells #[.int .i64 y1, .int .i64 y2, .int .i64 y3] 3) := (hl4.2 (22, b1, .cells #[.int .i64 y1, .int .i64 y2, .int .i64 y3] 3) (by simp)).2
      clear hb4 hl4 hF fb hne f0 f1 f2 f3 g0 g1 g2 g3 C1 C2 C3 zx zy
      have C := Lib.hid (or100 b1 y1 y2 y3 w4 hx1)
      generalize orV y1 y2 y3 = y at C
      clear hx1
      by_cases hy : y < 0
      · have ty : decide (y < 0) = true := decide_eq_true hy
        go_wp2_with fail
        refine C.out.mono ?_
        rintro e w5 ⟨rfl, rfl⟩
        clear C
        have KX := Lib.hid ((B4.out.1.block _ (block_lt X3.out)).trans X3.out)
        have K4 := Lib.hid ((B4.out.1.block _ (block_lt X4.out)).trans X4.out)
        have BE := Lib.hid (BB.out.trans (B4.out.1.mono BB.out.size))
        go_wp2_with fail
        refine onlyN_intro ?_
        have u0 := cell_at KX.out 0
        have u1 := cell_at KX.out 1
        have u2 := cell_at KX.out 2
        have u3 := cell_at KX.out 3
        have zu := szs (block_lt KX.out)
        have v0 := cell_at K4.out 0
        have v1 := cell_at K4.out 1
        have v2 := cell_at K4.out 2
        have v3 := cell_at K4.out 3
        have vf := fun j => free_at K4.out j
        have zv := szs (block_lt K4.out)
        go_wp2_with fail
        have hlt := block_lt K4.out
        rw [setCell_at K4.out, setAt_setCell hlt, setAt_setCell hlt, setAt_setCell hlt]
        have E4 : (setAt w4 (w.heap.size + 1 + 1) (.cells #[.slice a2 n2 c2, .int .i64 q2, .int .i64 d2, .bool true] 188)).heap[w.heap.size + 1 + 1]? = some (.cells #[.slice a2 n2 c2, .int .i64 q2, .int .i64 d2, .bool true] 188) := setAt_same hlt
        have e0 := cell_at E4 0
        have e1 := cell_at E4 1
        have e2 := cell_at E4 2
        have e3 := cell_at E4 3
        refine bodyPost_ret (v := .agg #[.slice a2 n2 c2, .int .i64 q2, .int .i64 d2, .bool true]) (by simp [results, Tryz.results118, go_sem, e0, e1, e2, e3]) rfl ?_
        exact ⟨.inl rfl, below_setAt (by omega) BE.out⟩
      · have ty : decide (y < 0) = false := decide_eq_false hy
        go_wp2_with fail
        refine C.out.mono ?_
        rintro e w5 ⟨rfl, rfl⟩
        clear C
        have KX := Lib.hid ((B4.out.1.block _ (block_lt X2.out)).trans X2.out)
        have K4 := Lib.hid ((B4.out.1.block _ (block_lt X4.out)).trans X4.out)
        have BE := Lib.hid (BB.out.trans (B4.out.1.mono BB.out.size))
        go_wp2_with fail
        refine onlyN_intro ?_
        have u0 := cell_at KX.out 0
        have u1 := cell_at KX.out 1
        have u2 := cell_at KX.out 2
        have u3 := cell_at KX.out 3
        have zu := szs (block_lt KX.out)
        have v0 := cell_at K4.out 0
        have v1 := cell_at K4.out 1
        have v2 := cell_at K4.out 2
        have v3 := cell_at K4.out 3
        have vf := fun j => free_at K4.out j
        have zv := szs (block_lt K4.out)
        go_wp2_with fail
        have hlt := block_lt K4.out
        rw [setCell_at K4.out, setAt_setCell hlt, setAt_setCell hlt, setAt_setCell hlt]
        have E4 : (setAt w4 (w.heap.size + 1 + 1) (.cells #[.slice a1 n1 c1, .int .i64 q1, .int .i64 d1, .bool true] 188)).heap[w.heap.size + 1 + 1]? = some (.cells #[.slice a1 n1 c1, .int .i64 q1, .int .i64 d1, .bool true] 188) := setAt_same hlt
        have e0 := cell_at E4 0
        have e1 := cell_at E4 1
        have e2 := cell_at E4 2
        have e3 := cell_at E4 3
        refine bodyPost_ret (v := .agg #[.slice a1 n1 c1, .int .i64 q1, .int .i64 d1, .bool true]) (by simp [results, Tryz.results118, go_sem, e0, e1, e2, e3]) rfl ?_
        exact ⟨.inr (by first | exact ⟨rfl, rfl⟩ | rfl), below_setAt (by omega) BE.out⟩
end Go.Proofs.YtlnfhlmgnppcbaaGreat
