/- The law CrewGrows. -/
import Derived.Test.YtlnfhlmgnppcbaaCSA
import Derived.Test.YtlnfhlmgnppcbaaOPL
import Derived.Test.YtlnfhlmgnppcbaaFEW
import Derived.BigQuiet
namespace Go.Proofs.Ytlnfhlmgnppcbaa
open Go.RowKit Go.ChangeShapes Go.WideShapes Go.Deep
set_option linter.unusedVariables false
set_option linter.unusedSimpArgs false
theorem cnt_start (truck : Int) : ∀ n, cntN startS.F 4 truck n = 0
  | 0 => rfl
  | n + 1 => by
    unfold cntN
    rw [cnt_start truck n]
    simp [startS]
theorem mvR_diff {n : Nat} {truck t : Int} : ∀ (l : List Ev) (s : CSt) (a b : Int), a - b = (cntN s.F 4 truck n : Int) → 0 ≤ (mvR n truck t s l a b).1 - (mvR n truck t s l a b).2
  | [], s, a, b, h => by unfold mvR; dsimp only; omega
  | e :: l, s, a, b, h => by
    unfold mvR
    split
    · dsimp only; omega
    · exact mvR_diff l _ _ _ (by omega)
theorem moved_ok {f : Fl} {l : List Ev} {number t : Int} (h : (movedV f l number t).2.2 = 0) : movedV f l number t = ((mvP number t (fun _ => false) (runE f l).2 0 0).1, (mvP number t (fun _ => false) (runE f l).2 0 0).2, 0) := by
  unfold movedV at *
  split
  · rename_i h1; rw [if_pos h1] at h; exact absurd h h1
  rename_i h1
  rw [if_neg h1] at h
  split
  · rename_i h2; rw [if_pos h2] at h; cases h
  rename_i h2
  rw [if_neg h2] at h
  split
  · rename_i h3; rw [if_pos h3] at h; cases h
  · rfl
theorem moved_diff (f : Fl) (l : List Ev) (number t : Int) : 0 ≤ (mvP number t (fun _ => false) (runE f l).2 0 0).1 - (mvP number t (fun _ => false) (runE f l).2 0 0).2 := by
  rw [mv_same number t _ startS _ 0 0 (Inv.start _) (run_path f l).1 (fun i _ => by simp [onB, startS])]
  exact mvR_diff _ _ _ _ (by rw [cnt_start]; rfl)
theorem mvP_low (truck t : Int) : ∀ (l : List Ev) (on : Nat → Bool) (a b : Int), a ≤ (mvP truck t on l a b).1 ∧ b ≤ (mvP truck t on l a b).2
  | [], _, _, _ => ⟨Int.le_refl _, Int.le_refl _⟩
  | e :: l, on, a, b => by
    have q1 : ∀ x, 0 ≤ b2i x := fun x => by unfold b2i; split <;> omega
    unfold mvP
    split
    · exact ⟨Int.le_refl _, Int.le_refl _⟩
    · have := mvP_low truck t l (upd on e.bike.toNat (loadB truck e)) (a + b2i (loadB truck e)) (b + b2i (on e.bike.toNat))
      have := q1 (loadB truck e)
      have := q1 (on e.bike.toNat)
      exact ⟨by omega, by omega⟩
theorem moved_grows {f : Fl} {l : List Ev} {number s t : Int} (hst : s ≤ t) (h1 : (movedV f l number s).2.2 = 0) (h2 : (movedV f l number t).2.2 = 0) :
    (movedV f l number s).2.1 ≤ (movedV f l number s).1 ∧ 0 ≤ (movedV f l number s).2.1 ∧ (movedV f l number s).1 ≤ (movedV f l number t).1 ∧ (movedV f l number s).2.1 ≤ (movedV f l number t).2.1 ∧ (movedV f l number t).1 ≤ (l.length : Int) := by
  rw [moved_ok h1, moved_ok h2]
  dsimp only
  have g1 := mvP_grows number (runE f l).2 (fun _ => false) 0 0 s t hst
  have g2 := mvP_low number s (runE f l).2 (fun _ => false) 0 0
  have g3 := mvP_most number t (runE f l).2 (fun _ => false) 0 0
  have g4 := moved_diff f l number s
  have g5 := acc_len f l
  omega
section
variable {H : Type} {enc : TypeId × Value → H} {W : World} {base : Nat} {v : Value} {d : DataW H} {p : List MemPlace}
set_option maxRecDepth 8000 in
theorem open_pair (hv : Value.okWide Try.prog W .any base 53 v) (h : DataW.Trod enc Try.prog W 0 (fun _ => true) true 53 v d p) :
    ∃ a b : Int, v = .agg #[.int .i64 a, .int .i64 b] := by
  have hv' := hv
  simp only [Value.okWide, Try.underlying53] at hv'
  obtain ⟨cs, rfl, hsz, _⟩ := hv'
  obtain ⟨fuel, hf⟩ := h
  obtain ⟨xs, m, _, _, hlen, hxl, hx⟩ := DataW.trod_array Try.underlying53 hf
  have hc : Try.prog.cellsOf 53 = 2 := by kernel_rfl
  have hc3 : Try.prog.cellsOf 3 = 1 := by kernel_rfl
  obtain ⟨l⟩ := cs
  have hl : l.length = 2 := by rw [hc] at hsz; simpa using hsz
  match l, hl with
  | [c0, c1], _ =>
    match xs, hxl with
    | [x0, x1], _ =>
      have e0 := hx 0 (by omega)
      have e1 := hx 1 (by omega)
      simp [Value.cells, hc3] at e0 e1
      obtain ⟨n0, f0, _, _⟩ := DataW.trod_int Try.underlying3 e0
      obtain ⟨n1, f1, _, _⟩ := DataW.trod_int Try.underlying3 e1
      simp at f0 f1
      subst f0 f1
      exact ⟨n0, n1, rfl⟩
end
set_option maxRecDepth 8000 in
set_option maxHeartbeats 8000000 in
theorem run_crewGrows {H : Type} {enc : TypeId × Value → H} (W : World) (base : Nat) (v0 : Value) (d0 : DataW H) (p0 : List MemPlace) (hv0 : Value.okWide Try.prog W .any base 44 v0) (h0 : DataW.Trod enc Try.prog W 0 (fun _ => true) true 44 v0 d0 p0)
    (v1 : Value) (d1 : DataW H) (p1 : List MemPlace) (hv1 : Value.okWide Try.prog W .any base 30 v1) (h1 : DataW.Trod enc Try.prog W 0 (fun _ => true) true 30 v1 d1 p1)
    (v2 : Value) (d2 : DataW H) (p2 : List MemPlace) (hv2 : Value.okWide Try.prog W .any base 3 v2) (h2 : DataW.Trod enc Try.prog W 0 (fun _ => true) true 3 v2 d2 p2)
    (v3 : Value) (d3 : DataW H) (p3 : List MemPlace) (hv3 : Value.okWide Try.prog W .any base 53 v3) (h3 : DataW.Trod enc Try.prog W 0 (fun _ => true) true 53 v3 d3 p3) :
    Calls Try.prog 11 #[v0, v1, v2, v3] W fun e w' => e = .returned (.bool true) ∧ Below W.heap.size W w' := by
  obtain ⟨f, rfl, hf, _⟩ := open_fleet hv0 h0
  obtain ⟨ao, n, c, F, rfl, hs, hF⟩ := open_events hv1 h1
  obtain ⟨num, rfl, rfl, rfl, _⟩ := open_int Try.underlying3 hv2 h2
  obtain ⟨ma, mb, rfl⟩ := open_pair hv3 h3
  clear hv0 h0 hv1 h1 hv2 h2 hv3 h3
  have AW := Lib.hid (fun w' => awakeC28 w')
  have hmc := hs.hm
  have hcc := hs.hc
  have B0 : Hid (Below W.heap.size W ((W.alloc (.cells f.cells 44)).alloc (.cells #[.int .i64 ma, .int .i64 mb] 53))) := Lib.hid (by (repeat' (first | (with_reducible exact Below.refl _ _) | (with_reducible assumption) | (with_reducible refine Below.drew ?_) | (with_reducible refine below_drewN ?_ _) | (with_reducible refine Below.alloc ?_ ?_ _) | (with_reducible refine Below.setCell ?_ ?_ _) | go_size)))
  have X0 := Lib.hid (al_keep (al_at W (.cells f.cells 44) rfl) (.cells #[.int .i64 ma, .int .i64 mb] 53))
  have X1 := Lib.hid (al_at (W.alloc (.cells f.cells 44)) (.cells #[.int .i64 ma, .int .i64 mb] 53) (k := W.heap.size + 1) (by simp))
  obtain ⟨w0, hw0⟩ : ∃ w0, w0 = (W.alloc (.cells f.cells 44)).alloc (.cells #[.int .i64 ma, .int .i64 mb] 53) := ⟨_, rfl⟩
  rw [← hw0] at B0 X0 X1
  have HW0 := Lib.hid hw0
  have HF0 := Lib.hid (hf.below B0.out)
  have HS := Lib.hid (hs.below B0.out)
  have HFI : Hid (∀ e ∈ ents F n, inN e) := Lib.hid (fun e he => by
    obtain ⟨i, hi, rfl⟩ := mem_ents.1 he
    exact hF i hi)
  have FEW := Lib.hid (few25 f w0 HF0.out)
  obtain ⟨q, hq⟩ : ∃ q, q = (decide (f.nd ≤ 100) && decide (f.nt ≤ 100)) := ⟨_, rfl⟩
  rw [← hq] at FEW
  have HFC : Hid (f.cells = #[.int .i64 f.bikes, .int .i64 f.riders, .int .i64 f.devs, .slice f.ad f.nd f.cd, .slice f.a2 f.nt f.ct]) := Lib.hid rfl
  rw [HFC.out] at X0 HW0 FEW ⊢
  clear hw0 hf hs hF hq
  go_enter Try.func11, Try.ntmps11
  go_wp2_with fail
  rw [← HW0.out]
  have x0 := cell_kept (Below.refl w0.heap.size w0) (cell_at X0.out 0)
  have x1 := cell_kept (Below.refl w0.heap.size w0) (cell_at X0.out 1)
  have x2 := cell_kept (Below.refl w0.heap.size w0) (cell_at X0.out 2)
  have x3 := cell_kept (Below.refl w0.heap.size w0) (cell_at X0.out 3)
  have x4 := cell_kept (Below.refl w0.heap.size w0) (cell_at X0.out 4)
  try dsimp only at x0 x1 x2 x3 x4
  have zx := szs (cell_lt x0)
  dsimp only at zx
  by_cases hn : 60 < n
  · have tn : decide ((60 : Int) < (n : Int)) = true := decide_eq_true (by omega)
    go_wp2_with fail
    refine FEW.out.mono ?_
    rintro e wf ⟨rfl, bf⟩
    have BF := Lib.hid (B0.out.trans (bf.mono B0.out.size))
    clear FEW bf
    clear x0 x1 x2 x3 x4 zx
    cases q with
    | false =>
      go_wp2_with fail
      refine (AW.out _).mono ?_
      rintro e wz ⟨rfl, bz⟩
      have BZ := Lib.hid (BF.out.trans (bz.mono BF.out.size))
      clear bz
      go_wp2_with fail
      go_returns
      exact ⟨rfl, BZ.out⟩
    | true =>
      go_wp2_with fail
      refine (AW.out _).mono ?_
      rintro e wz ⟨rfl, bz⟩
      have BZ := Lib.hid (BF.out.trans (bz.mono BF.out.size))
      clear bz
      go_wp2_with fail
      go_returns
      exact ⟨rfl, BZ.out⟩
  have tn : decide ((60 : Int) < (n : Int)) = false := decide_eq_false (by omega)
  have hnl : (n : Int) ≤ 60 := by omega
  go_wp2_with fail
  refine FEW.out.mono ?_
  rintro e wf ⟨rfl, bf⟩
  have BF := Lib.hid (B0.out.trans (bf.mono B0.out.size))
  cases q with
  | false =>
    clear FEW bf
    clear x0 x1 x2 x3 x4 zx
    go_wp2_with fail
    refine (AW.out _).mono ?_
    rintro e wz ⟨rfl, bz⟩
    have BZ := Lib.hid (BF.out.trans (bz.mono BF.out.size))
    clear bz
    go_wp2_with fail
    go_returns
    exact ⟨rfl, BZ.out⟩
  | true =>
    clear x0 x1 x2 x3 x4 zx
    have x0 := cell_kept bf (cell_at X0.out 0)
    have x1 := cell_kept bf (cell_at X0.out 1)
    have x2 := cell_kept bf (cell_at X0.out 2)
    have x3 := cell_kept bf (cell_at X0.out 3)
    have x4 := cell_kept bf (cell_at X0.out 4)
    try dsimp only at x0 x1 x2 x3 x4
    have zx := szs (cell_lt x0)
    dsimp only at zx
    have y0 := cell_kept bf (cell_at X1.out 0)
    have y1 := cell_kept bf (cell_at X1.out 1)
    try dsimp only at y0 y1
    have zy := szs (cell_lt y0)
    dsimp only at zy
    clear FEW
    go_wp2_with fail
    (refine region_all (fun i : Nat => World.drewN _ i) mixed (by kernel_rfl) ⟨1, rfl⟩ ?_; (repeat (any_goals (first | go_big_quiet_step (fail) | quiet_step (fail) | (refine wpQuiet_step (fun K hK => ?_); go_simp; split <;> (refine hK _ ?_; clear hK K))))); (all_goals (refine wpQuiet_nil (fun nq => ?_))))
    have b3 : Below w0.heap.size w0 (wf.drewN nq) := below_drewN bf nq
    have BF3 := Lib.hid (B0.out.trans (b3.mono B0.out.size))
    clear x0 x1 x2 x3 x4 zx
    clear y0 y1 zy BF bf
    generalize wf.drewN nq = w3 at *
    have M1 := Lib.hid (moved31 f ao n c F num (min ma mb) w3 (HF0.out.below b3) (HS.out.below b3) (by omega) HFI.out)
    have M2 := Lib.hid (fun w' (hb : Below w3.heap.size w3 w') => moved31 f ao n c F num (max ma mb) w' ((HF0.out.below b3).below hb) ((HS.out.below b3).below hb) (by omega) HFI.out)
    rw [HFC.out] at M1 M2
    have HGR := Lib.hid (moved_grows (f := f) (l := ents F n) (number := num) (s := min ma mb) (t := max ma mb) (by omega))
    rw [ents_len] at HGR
    generalize movedV f (ents F n) num (min ma mb) = X at *
    generalize movedV f (ents F n) num (max ma mb) = Y at *
    obtain ⟨a1, a2, a3⟩ := X
    obtain ⟨c1, c2, c3⟩ := Y
    dsimp only at M1 M2 HGR
    generalize min ma mb = mm at *
    generalize max ma mb = mx at *
    have x0 := cell_kept b3 (cell_at X0.out 0)
    have x1 := cell_kept b3 (cell_at X0.out 1)
    have x2 := cell_kept b3 (cell_at X0.out 2)
    have x3 := cell_kept b3 (cell_at X0.out 3)
    have x4 := cell_kept b3 (cell_at X0.out 4)
    try dsimp only at x0 x1 x2 x3 x4
    have zx := szs (cell_lt x0)
    dsimp only at zx
    go_wp2_with fail
    refine M1.out.mono ?_
    rintro e w4 ⟨rfl, b4⟩
    have BF4 := Lib.hid (BF3.out.trans (b4.mono BF3.out.size))
    have B34 := Lib.hid b4
    clear x0 x1 x2 x3 x4 zx
    have b04 := b3.trans (b4.mono b3.size)
    have x0 := cell_kept b04 (cell_at X0.out 0)
    have x1 := cell_kept b04 (cell_at X0.out 1)
    have x2 := cell_kept b04 (cell_at X0.out 2)
    have x3 := cell_kept b04 (cell_at X0.out 3)
    have x4 := cell_kept b04 (cell_at X0.out 4)
    try dsimp only at x0 x1 x2 x3 x4
    have zx := szs (cell_lt x0)
    dsimp only at zx
    clear M1 b4 b3 b04
    go_wp2_with fail
    refine (M2.out w4 B34.out).mono ?_
    rintro e w5 ⟨rfl, b5⟩
    have BF5 := Lib.hid (BF4.out.trans (b5.mono BF4.out.size))
    clear x0 x1 x2 x3 x4 zx
    clear M2 b5 B34
    by_cases ha : a3 = 0
    · subst ha
      by_cases hc : c3 = 0
      · subst hc
        obtain ⟨g1, g2, g3, g4, g5⟩ := HGR.out rfl rfl
        clear HGR
        go_wp2_with fail
        refine (AW.out _).mono ?_
        rintro e wz ⟨rfl, bz⟩
        have BZ := Lib.hid (BF5.out.trans (bz.mono BF5.out.size))
        clear bz
        go_wp2_with fail
        go_returns
        exact ⟨rfl, BZ.out⟩
      · have tc : (c3 != 0) = true := by simpa using hc
        clear HGR hc
        go_wp2_with fail
        refine (AW.out _).mono ?_
        rintro e wz ⟨rfl, bz⟩
        have BZ := Lib.hid (BF5.out.trans (bz.mono BF5.out.size))
        clear bz
        go_wp2_with fail
        go_returns
        exact ⟨rfl, BZ.out⟩
    · have ta : (a3 != 0) = true := by simpa using ha
      clear HGR ha
      go_wp2_with fail
      refine (AW.out _).mono ?_
      rintro e wz ⟨rfl, bz⟩
      have BZ := Lib.hid (BF5.out.trans (bz.mono BF5.out.size))
      clear bz
      go_wp2_with fail
      go_returns
      exact ⟨rfl, BZ.out⟩
end Go.Proofs.Ytlnfhlmgnppcbaa
