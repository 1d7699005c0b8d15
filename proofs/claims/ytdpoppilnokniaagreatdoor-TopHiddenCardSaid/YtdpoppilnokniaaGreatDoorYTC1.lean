/- Theorems of this seat. -/
import Derived.Test.YtdpoppilnokniaaGreatDoorYTB8
import Derived.Test.YtdpoppilnokniaaGreatDoorYTB7
import Derived.Test.YtdpoppilnokniaaGreatDoorYOPX
namespace Go.Proofs.YtdpoppilnokniaaGreatDoor
open Go.RowKit Go.ChangeShapes Go.WideShapes Go.Deep
set_option linter.unusedVariables false
set_option linter.unusedSimpArgs false
set_option linter.unnecessarySimpa false
theorem endsE_rng {X : Nat → Int} {H : Nat → Bool} {i : Nat} (h : ∀ k, k < 4 → 0 ≤ X k ∧ X k ≤ 65536) : ∀ {n : Nat}, n ≤ 13 → (-1000000 ≤ (endsE X H i n).1 ∧ (endsE X H i n).1 ≤ 1000000) ∧ -1000000 ≤ (endsE X H i n).2 ∧ (endsE X H i n).2 ≤ 1000000
 | 0, _ => by show (-1000000 ≤ (13 : Int) ∧ (13 : Int) ≤ 1000000) ∧ -1000000 ≤ (-1 : Int) ∧ (-1 : Int) ≤ 1000000; omega
 | n + 1, hn => by
   have h1 := endsE_rng (H := H) (i := i) h (n := n) (by omega)
   have h2 := cellA_rng h (a := (n : Int)) ⟨by omega, by omega⟩ (k := i)
   unfold endsE
   split
   · dsimp only; omega
   · exact h1
theorem wide_ends {X : Nat → Int} {H : Nat → Bool} {wd : Int} {i : Nat} (hi : i < 4) (hX : ∀ k, k < 4 → 0 ≤ X k) (hS : X 0 + X 1 + X 2 + X 3 ≤ 12) (hH : H i = true) (h : Wide X H wd i) : (endsE X H i 13).1 ≤ (endsE X H i 13).2 ∧ wd ≤ (endsE X H i 13).2 - (endsE X H i 13).1 := by
 obtain ⟨lo, hi', hp, hw⟩ := h
 rcases hp with ⟨h1, _⟩ | ⟨_, s, r, on, on', f1, f2, e1, e2, _⟩
 · rw [hH] at h1; cases h1
 · have := ends_wide hi hX hS hH f1 f2
   omega
theorem ridesIn {w : World} {base : Nat} {rv : Value} {n : Nat} {F : Nat → Rid} {L : Nat → Nat → Leg} {Q : Nat → Nat → Pau} (h : RidesO w base rv n F L Q) : ∃ ro c, rv = .slice ro n c ∧ RdsIn w ro n c F L Q ∧ (∀ a, ro = some a → a.block < w.heap.size) := by
 have hr : Row w base 71 13 rv n (fun i => rds (F i)) := h.row
 rcases Row.shape hr with ⟨e, hn⟩ | ⟨g, cap, e, _, hg, _, _⟩
 · obtain ⟨ao, c, e2, hs⟩ := Row.toSl hr (fun i => rds_len (F i))
   refine ⟨ao, c, e2, ⟨hs, fun i hi => by omega⟩, fun a ha => ?_⟩
   rw [e] at e2
   simp only [Value.slice.injEq] at e2
   rw [← e2.1] at ha
   cases ha
 · obtain ⟨ao, c, e2, hs⟩ := Row.toSl hr (fun i => rds_len (F i))
   refine ⟨ao, c, e2, ⟨hs, fun i hi => ⟨h.legs i hi, h.paus i hi, h.lens i hi⟩⟩, fun a ha => ?_⟩
   rw [e] at e2
   simp only [Value.slice.injEq] at e2
   rw [← e2.1] at ha
   cases ha
   exact hg
set_option maxRecDepth 8000 in
set_option maxHeartbeats 32000000 in
theorem run_topHidden {H : Type} {enc : TypeId × Value → H} (W : World) (hg : Sgn W) (base : Nat) (v0 : Value) (d0 : DataW H) (p0 : List MemPlace) (hv0 : Value.okWide Tryz.prog W .any base 24 v0) (h0 : DataW.Trod enc Tryz.prog W 0 (fun _ => true) true 24 v0 d0 p0)
   (v1 : Value) (d1 : DataW H) (p1 : List MemPlace) (hv1 : Value.okWide Tryz.prog W .any base 25 v1) (h1 : DataW.Trod enc Tryz.prog W 0 (fun _ => true) true 25 v1 d1 p1)
   (v2 : Value) (d2 : DataW H) (p2 : List MemPlace) (hv2 : Value.okWide Tryz.prog W .any base 29 v2) (h2 : DataW.Trod enc Tryz.prog W 0 (fun _ => true) true 29 v2 d2 p2)
   (v3 : Value) (d3 : DataW H) (p3 : List MemPlace) (hv3 : Value.okWide Tryz.prog W .any base 3 v3) (h3 : DataW.Trod enc Tryz.prog W 0 (fun _ => true) true 3 v3 d3 p3)
   (v4 : Value) (d4 : DataW H) (p4 : List MemPlace) (hv4 : Value.okWide Tryz.prog W .any base 3 v4) (h4 : DataW.Trod enc Tryz.prog W 0 (fun _ => true) true 3 v4 d4 p4) :
   Calls Tryz.prog 3 #[v0, v1, v2, v3, v4] W fun e w' => e = .returned (.bool true) ∧ Below W.heap.size W w' := by
 obtain ⟨fl, rfl, hf, _⟩ := open_fleet hv0 h0
 obtain ⟨ao, n, c, E, rfl, hs, hE⟩ := open_events hv1 h1
 obtain ⟨zo, zn, zc, Z, size, f, t, each, rfl, hz, _⟩ := open_pub hv2 h2
 obtain ⟨least, rfl, rfl, rfl, wl1⟩ := open_int Tryz.underlying3 hv3 h3
 obtain ⟨wd, rfl, rfl, rfl, wl2⟩ := open_int Tryz.underlying3 hv4 h4
 have hbl := bounds_i64 wl1
 have hbw := bounds_i64 wl2
 clear hv0 h0 hv1 h1 hv2 h2 hv3 h3 hv4 h4 wl1 wl2
 have hmc := hs.hm
 have hcc := hs.hc
 have hzm := hz.hm
 have hzc := hz.hc
 have B0 : Hid (Below W.heap.size W (W.alloc (.cells fl.cells 24))) := Lib.hid (by (repeat' (first | with_reducible (first | exact Below.refl _ _ | assumption | refine Below.drew ?_ | refine below_drewN ?_ _ | refine Below.alloc ?_ ?_ _ | refine Below.setCell ?_ ?_ _) | go_size))); have X0 := Lib.hid (al_at W (.cells fl.cells 24) rfl); obtain ⟨w1, hw0⟩ : ∃ w1, w1 = W.alloc (.cells fl.cells 24) := ⟨_, rfl⟩; rw [← hw0] at B0 X0; have HW0 := Lib.hid hw0; clear hw0; have z0 := szs (block_lt X0.out); skip
 have B1 : Hid (Below w1.heap.size w1 (w1.alloc (.cells #[.slice zo zn zc, .int .i64 size, .int .i64 f, .int .i64 t, .int .i64 each] 29))) := Lib.hid (by (repeat' (first | with_reducible (first | exact Below.refl _ _ | assumption | refine Below.drew ?_ | refine below_drewN ?_ _ | refine Below.alloc ?_ ?_ _ | refine Below.setCell ?_ ?_ _) | go_size))); have X1 := Lib.hid (al_at w1 (.cells #[.slice zo zn zc, .int .i64 size, .int .i64 f, .int .i64 t, .int .i64 each] 29) rfl); obtain ⟨w2, hw1⟩ : ∃ w2, w2 = w1.alloc (.cells #[.slice zo zn zc, .int .i64 size, .int .i64 f, .int .i64 t, .int .i64 each] 29) := ⟨_, rfl⟩; rw [← hw1] at B1 X1; have HW1 := Lib.hid hw1; clear hw1; have z1 := szs (block_lt X1.out); skip
 have s1 : w1.heap.size = W.heap.size + 1 := by rw [HW0.out]; simp
 rw [s1] at X1
 have HS := Lib.hid s1
 have HFC : Hid (fl.cells = #[.int .i64 fl.bikes, .int .i64 fl.riders, .int .i64 fl.devs, .slice fl.ad fl.nd fl.cd, .slice fl.a2 fl.nt fl.ct]) := Lib.hid rfl
 have BB := Lib.hid (B0.out.trans (B1.out.mono B0.out.size))
 have XF := Lib.hid ((B1.out.block _ (by omega)).trans X0.out)
 have HG := Lib.hid hg
 have HF := Lib.hid hf
 have HSv := Lib.hid hs
 have HZ := Lib.hid hz
 have CF := Lib.hid (few5 fl ao n c w2 (hf.below BB.out) hmc hcc)
 have HIN := Lib.hid (show ∀ e ∈ ents E n, inN e from fun e he => by obtain ⟨i, hi, rfl⟩ := mem_ents.1 he; exact hE i hi)
 have CA := Lib.hid (fun (hn : n < 1000) w' (b : Below w2.heap.size w2 w') => all7 fl ao n c E w' ((HF.out.below BB.out).below b) ((HSv.out.below BB.out).below b) hn HIN.out)
 rw [HFC.out] at XF HW0 CF CA ⊢
 clear hf hs hz hE hg s1 HFC
 obtain ⟨fb, hfb⟩ : ∃ fb, fb = (decide (n ≤ 40) && (decide (fl.nd ≤ 40) && decide (fl.nt ≤ 20))) := ⟨_, rfl⟩
 rw [← hfb] at CF
 clear hfb
 go_enter Tryz.func3, Tryz.ntmps3
 go_simp
 ((repeat ((fail_if_success (rw [← HW0.out])); go_step)); rw [← HW0.out])
 go_simp
 ((repeat ((fail_if_success (rw [← HW1.out])); go_step)); rw [← HW1.out])
 rw [HS.out]
 clear HW0 HW1 HS z0 z1 B0 B1 X0
 have x0 := cell_at XF.out 0
 have x1 := cell_at XF.out 1
 have x2 := cell_at XF.out 2
 have x3 := cell_at XF.out 3
 have x4 := cell_at XF.out 4
 have zx := szs (block_lt XF.out)
 go_wp2_with fail
 refine CF.out.mono ?_
 rintro e w3 ⟨rfl, b3⟩
 have XF3 := Lib.hid ((b3.block _ (block_lt XF.out)).trans XF.out)
 have XP3 := Lib.hid ((b3.block _ (block_lt X1.out)).trans X1.out)
 have B23 := Lib.hid b3
 have BB3 := Lib.hid (BB.out.trans (b3.mono BB.out.size))
 clear x0 x1 x2 x3 x4 zx b3 XF X1 CF
 have y0 := cell_at XP3.out 0
 have y1 := cell_at XP3.out 1
 have y2 := cell_at XP3.out 2
 have y3 := cell_at XP3.out 3
 have y4 := cell_at XP3.out 4
 have zy := szs (block_lt XP3.out)
 cases fb
 case false =>
   go_wp2_with fail
   refine (awake6 _ (HG.out.below (BB3.out))).mono ?_
   rintro e wz ⟨rfl, bz⟩
   have BZ := Lib.hid ((BB3.out).trans (bz.mono (BB3.out).size))
   clear bz
   go_wp2_with fail
   go_returns
   exact ⟨rfl, BZ.out⟩
 by_cases c1 : (n : Int) > 24
 · have t1 : decide ((n : Int) > 24) = true := decide_eq_true c1
   have t1o : decide (24 < (n : Int)) = true := decide_eq_true c1
   go_wp2_with fail
   refine (awake6 _ (HG.out.below (BB3.out))).mono ?_
   rintro e wz ⟨rfl, bz⟩
   have BZ := Lib.hid ((BB3.out).trans (bz.mono (BB3.out).size))
   clear bz
   go_wp2_with fail
   go_returns
   exact ⟨rfl, BZ.out⟩
 have t1 : decide ((n : Int) > 24) = false := decide_eq_false c1
 have t1o : decide (24 < (n : Int)) = false := decide_eq_false c1
 by_cases c2 : (zn : Int) > 100
 · have t2 : decide ((zn : Int) > 100) = true := decide_eq_true c2
   have t2o : decide (100 < (zn : Int)) = true := decide_eq_true c2
   go_wp2_with fail
   refine (awake6 _ (HG.out.below (BB3.out))).mono ?_
   rintro e wz ⟨rfl, bz⟩
   have BZ := Lib.hid ((BB3.out).trans (bz.mono (BB3.out).size))
   clear bz
   go_wp2_with fail
   go_returns
   exact ⟨rfl, BZ.out⟩
 have t2 : decide ((zn : Int) > 100) = false := decide_eq_false c2
 have t2o : decide (100 < (zn : Int)) = false := decide_eq_false c2
 by_cases c3 : size = 2
 case neg =>
   have t3 : (size != 2) = true := by simp [c3]
   go_wp2_with fail
   refine (awake6 _ (HG.out.below (BB3.out))).mono ?_
   rintro e wz ⟨rfl, bz⟩
   have BZ := Lib.hid ((BB3.out).trans (bz.mono (BB3.out).size))
   clear bz
   go_wp2_with fail
   go_returns
   exact ⟨rfl, BZ.out⟩
 subst c3
 have x0 := cell_at XF3.out 0
 have x1 := cell_at XF3.out 1
 have x2 := cell_at XF3.out 2
 have x3 := cell_at XF3.out 3
 have x4 := cell_at XF3.out 4
 have zx := szs (block_lt XF3.out)
 go_wp2_with fail
 refine (CA.out (by omega) w3 B23.out).mono ?_
 rintro e w4 ⟨b4, hal⟩
 have XP4 := Lib.hid ((b4.block _ (block_lt XP3.out)).trans XP3.out)
 have BB4 := Lib.hid (BB3.out.trans (b4.mono BB3.out.size))
 clear x0 x1 x2 x3 x4 zx y0 y1 y2 y3 y4 zy b4 XF3 XP3 CA B23 BB3
 rcases hal with ⟨r, hr, rfl⟩ | ⟨rv, m, F0, F, L, Q, rfl, hro, hfrom, hcl, hm1⟩
 · have tr : (r != 0) = true := by simp [hr]
   clear hr
   go_wp2_with fail
   refine (awake6 _ (HG.out.below (BB4.out))).mono ?_
   rintro e wz ⟨rfl, bz⟩
   have BZ := Lib.hid ((BB4.out).trans (bz.mono (BB4.out).size))
   clear bz
   go_wp2_with fail
   go_returns
   exact ⟨rfl, BZ.out⟩
 obtain ⟨ro, rc, rfl, hin, hao⟩ := ridesIn hro
 have CE := Lib.hid (Exact8 zo zn zc Z 2 ro m rc F L Q f t each least wd w4 (HZ.out.below BB4.out) hin hm1 hro.pls hao (Or.inl rfl))
 rw [show ((2 : Nat) : Int) = 2 from rfl] at CE
 have HFR := Lib.hid (And.intro hfrom hcl)
 clear hro hin hao hfrom hcl
 have y0 := cell_at XP4.out 0
 have y1 := cell_at XP4.out 1
 have y2 := cell_at XP4.out 2
 have y3 := cell_at XP4.out 3
 have y4 := cell_at XP4.out 4
 have zy := szs (block_lt XP4.out)
 go_wp2_with fail
 refine CE.out.mono ?_
 rintro e w5 ⟨⟨cs, r, rfl, hc10, hx1, hx2, _⟩, b5⟩
 have BB5 := Lib.hid (BB4.out.trans (b5.mono BB4.out.size))
 clear y0 y1 y2 y3 y4 zy b5 XP4 CE BB4
 by_cases hr0 : r = 0
 case neg =>
   have hz10 := hx1 hr0
   subst hz10
   have tr : (r != 0) = true := by simp [hr0]
   clear hx1 hx2 hr0 hc10
   unfold zero10
   go_wp2_with fail
   have BZ5 : Hid (Below W.heap.size W (w5.alloc (.cells #[.int .i64 0, .int .i64 0, .int .i64 0, .int .i64 0, .int .i64 0, .slice none 0 0, .slice none 0 0, .slice none 0 0, .slice none 0 0, .slice none 0 0] 42))) := Lib.hid (by have b55 := BB5.out; (have hszz := (b55).size; (repeat' (first | with_reducible (first | exact Below.refl _ _ | assumption | refine Below.drew ?_ | refine below_drewN ?_ _ | refine Below.alloc ?_ ?_ _ | refine Below.setCell ?_ ?_ _) | go_size))))
   refine (awake6 _ (HG.out.below (BZ5.out))).mono ?_
   rintro e wz ⟨rfl, bz⟩
   have BZ := Lib.hid ((BZ5.out).trans (bz.mono (BZ5.out).size))
   clear bz
   go_wp2_with fail
   go_returns
   exact ⟨rfl, BZ.out⟩
 subst hr0
 obtain ⟨hto, pc, hc', qc, qh, qa, qb, Hd, hcs, hr1, hr2, hr3, hr4, hwide, _⟩ := hx2 rfl
 simp only [Value.agg.injEq] at hcs
 subst hcs
 have ec : ((2 : Nat) : Int) = 2 := rfl
 rw [ec] at hto hr1 hr3 hr4 hwide ⊢
 rw [show (2 * 2 : Nat) = 4 from rfl] at hr1 hr2 hr3 hr4 hwide ⊢
 have sc := celX_ok hto (s := 2) rfl
 have hsum := celX_sum (Z := Z) (zn := zn) (size := 2) (f := f) (t := t) (each := each) (n := m) (F := F) 4
 have hc1 := cells_sum hto 4
 have hc2 := clo_from HFR.out.1 hto.rides.ids
 have hc3 := clo_le F0 m
 have hc4 := HFR.out.2
 obtain ⟨X, hX⟩ : ∃ X, X = celX Z zn 2 f t each m F := ⟨_, rfl⟩
 rw [← hX] at hr1 hr3 hr4 hwide sc hsum
 have hrng : ∀ k, k < 4 → 0 ≤ X k ∧ X k ≤ 65536 := fun k hk => ⟨sc.2.1 k hk, sumI_mono sc.2.1 hk sc.2.2⟩
 have hs12 : X 0 + X 1 + X 2 + X 3 ≤ 12 := by
   have e4 : sumI X 4 = 0 + X 0 + X 1 + X 2 + X 3 := rfl
   omega
 have hsl : ∀ {e : TypeId} {q k k' : Nat} {g : Nat → List Value}, (∀ i, (g i).length = 1) → Row w5 w4.heap.size e 1 (.slice (some ⟨q, 0, none⟩) k k') k g → Sl w5 1 (some ⟨q, 0, none⟩) k k' g := fun hg h => by
   obtain ⟨ao', c', e, h⟩ := Row.toSl h hg
   cases e
   exact h
 have HEM := Lib.hid (show EndM w5 f t each (some ⟨qc, 0, none⟩) pc (some ⟨qh, 0, none⟩) hc' (some ⟨qa, 0, none⟩) 2 (some ⟨qb, 0, none⟩) 2 X Hd (pubU X Hd 4) (rsE X 2 4) (csE X 2 4) from
   { cel := hsl (fun _ => rfl) hr1
     hid := hsl (fun _ => rfl) hr2
     row := hsl (fun _ => rfl) hr3
     col := hsl (fun _ => rfl) hr4
     pub := fun k hk hh => by unfold pubU; rw [if_neg (fun e => by rw [hh] at e; exact absurd e.2 (by decide))]
     sums := ⟨by simp [rsE, upd], by simp [rsE, upd], by simp [csE, upd], by simp [csE, upd]⟩
     rng := hrng })
 have HWD := Lib.hid (fun i (hi : i < 4) (hh : Hd i = true) => wide_ends hi (fun k hk => (hrng k hk).1) hs12 hh (hwide i hi hh))
 have HER := Lib.hid (fun i => endsE_rng (H := Hd) (i := i) hrng (n := 13) (by omega))
 have l1 := HEM.out.cel.hm
 have l2 := HEM.out.cel.hc
 have l3 := HEM.out.hid.hm
 have l4 := HEM.out.hid.hc
 clear hto hr1 hr2 hr3 hr4 hwide hX sc hsum hc1 hc2 hc3 hc4 hrng hs12 hsl hx1 hx2 hc10 HFR ec
 have B6 : Hid (Below w5.heap.size w5 (w5.alloc (.cells #[.int .i64 f, .int .i64 t, .int .i64 each, .int .i64 2, .int .i64 2, .slice (some ⟨qc, 0, none⟩) 4 pc, .slice (some ⟨qh, 0, none⟩) 4 hc', .slice (some ⟨qa, 0, none⟩) 2 2, .slice (some ⟨qb, 0, none⟩) 2 2, .slice none 0 0] 42))) := Lib.hid (by (repeat' (first | with_reducible (first | exact Below.refl _ _ | assumption | refine Below.drew ?_ | refine below_drewN ?_ _ | refine Below.alloc ?_ ?_ _ | refine Below.setCell ?_ ?_ _) | go_size))); have X6 := Lib.hid (al_at w5 (.cells #[.int .i64 f, .int .i64 t, .int .i64 each, .int .i64 2, .int .i64 2, .slice (some ⟨qc, 0, none⟩) 4 pc, .slice (some ⟨qh, 0, none⟩) 4 hc', .slice (some ⟨qa, 0, none⟩) 2 2, .slice (some ⟨qb, 0, none⟩) 2 2, .slice none 0 0] 42) rfl); obtain ⟨w6, hw6⟩ : ∃ w6, w6 = w5.alloc (.cells #[.int .i64 f, .int .i64 t, .int .i64 each, .int .i64 2, .int .i64 2, .slice (some ⟨qc, 0, none⟩) 4 pc, .slice (some ⟨qh, 0, none⟩) 4 hc', .slice (some ⟨qa, 0, none⟩) 2 2, .slice (some ⟨qb, 0, none⟩) 2 2, .slice none 0 0] 42) := ⟨_, rfl⟩; rw [← hw6] at B6 X6; have HW6 := Lib.hid hw6; clear hw6; have z6 := szs (block_lt X6.out); skip
 go_simp
 ((repeat ((fail_if_success (rw [← HW6.out])); go_step)); rw [← HW6.out])
 have HE6 := Lib.hid (HEM.out.below B6.out)
 have BB6 := Lib.hid (BB5.out.trans (B6.out.mono BB5.out.size))
 have hqr : w5.heap.size < w6.heap.size := z6.1
 clear HW6 HEM BB5 B6 z6
 obtain ⟨qr, hqr2⟩ : ∃ qr, qr = w5.heap.size := ⟨_, rfl⟩
 rw [← hqr2] at X6 hqr ⊢
 clear hqr2
 have k3 := cell_at X6.out 6
 have k2 := cell_at X6.out 5
 have k4 := cell_at X6.out 7
 have k5 := cell_at X6.out 8
 have zk := szs (block_lt X6.out)
 go_wp2_with fail
 clear k3 k2 k4 k5 zk
 go_loopw [15] (fun s15 wr => ∃ i : Nat, s15 = .int .i64 i ∧ i ≤ 4 ∧ Hid (Below w6.heap.size w6 wr)) (fun s _ => 4 - (intOf s).toNat)
 case atStart => exact ⟨0, rfl, by omega, Lib.hid (Below.refl _ _)⟩
 case round =>
   obtain ⟨i, rfl, hi4, hb⟩ := hrel
   have HB := hb
   clear hb
   have XR := Lib.hid ((HB.out.block _ (block_lt X6.out)).trans X6.out)
   have BBr := Lib.hid (BB6.out.trans (HB.out.mono BB6.out.size))
   by_cases hlt : i < 4
   · have t4 : decide ((i : Int) < 4) = true := decide_eq_true (by omega)
     have t4n : decide (i < 4) = true := decide_eq_true hlt
     have hiI : (i : Int) < 4 := by omega
     have HEr := Lib.hid (HE6.out.below HB.out)
     obtain ⟨gh, oh, e9, hgh, ch⟩ := HEr.out.hid.bit hlt
     simp only [Option.some.injEq, Addr.mk.injEq] at e9
     obtain ⟨rfl, rfl, _⟩ := e9
     rw [Nat.zero_add] at ch
     have k0 := cell_at XR.out 0
     have k1 := cell_at XR.out 1
     have k2 := cell_at XR.out 2
     have k3 := cell_at XR.out 3
     have k4 := cell_at XR.out 4
     have k5 := cell_at XR.out 5
     have k6 := cell_at XR.out 6
     have k7 := cell_at XR.out 7
     have k8 := cell_at XR.out 8
     have k9 := cell_at XR.out 9
     have zk := szs (block_lt XR.out)
     have zh := szs hgh
     cases hh : Hd i
     · rw [hh] at ch
       go_wp2_with fail
       go_roundw
       case rel => (first | exact (show Exists (fun i : Nat => _) from ⟨i + 1, by go_num, by omega, HB⟩) | (repeat (first | exact rfl | refine And.intro ((show Exists (fun i : Nat => _) from ⟨i + 1, by go_num, by omega, HB⟩)) ?_ | apply Exists.intro)))
       case measure => simp [intOf] <;> omega
     · rw [hh] at ch
       have CEn := Lib.hid (ends9 f t each (some ⟨qc, 0, none⟩) pc (some ⟨qh, 0, none⟩) hc' (some ⟨qa, 0, none⟩) 2 (some ⟨qb, 0, none⟩) 2 X Hd (pubU X Hd 4) (rsE X 2 4) (csE X 2 4) i wr HEr.out hlt)
       obtain ⟨hw1, hw2⟩ := HWD.out i hlt hh
       have her := HER.out i
       obtain ⟨lo, hlo⟩ : ∃ lo, lo = (endsE X Hd i 13).1 := ⟨_, rfl⟩
       obtain ⟨hi', hhi⟩ : ∃ hi', hi' = (endsE X Hd i 13).2 := ⟨_, rfl⟩
       rw [← hlo, ← hhi] at CEn hw1 hw2 her
       clear hlo hhi
       have d1 : decide (hi' < lo) = false := decide_eq_false (by omega)
       have d2 : decide (hi' - lo < wd) = false := decide_eq_false (by omega)
       go_wp2_with fail
       refine CEn.out.mono ?_
       rintro e w7 ⟨rfl, b7⟩
       have HB7 := Lib.hid (HB.out.trans (b7.mono HB.out.size))
       clear b7 CEn k0 k1 k2 k3 k4 k5 k6 k7 k8 k9 zk zh ch hgh HEr HB BBr XR
       go_wp2_with fail
       go_roundw
       case rel => (first | exact (show Exists (fun i : Nat => _) from ⟨i + 1, by go_num, by omega, HB7⟩) | (repeat (first | exact rfl | refine And.intro ((show Exists (fun i : Nat => _) from ⟨i + 1, by go_num, by omega, HB7⟩)) ?_ | apply Exists.intro)))
       case measure => simp [intOf] <;> omega
   · have t4 : decide ((i : Int) < 4) = false := decide_eq_false (by omega)
     have t4n : decide (i < 4) = false := decide_eq_false hlt
     go_wp2_with fail
     refine (awake6 _ (HG.out.below (BBr.out))).mono ?_
     rintro e wz ⟨rfl, bz⟩
     have BZ := Lib.hid ((BBr.out).trans (bz.mono (BBr.out).size))
     clear bz
     go_wp2_with fail
     go_returns
     exact ⟨rfl, BZ.out⟩
end Go.Proofs.YtdpoppilnokniaaGreatDoor
