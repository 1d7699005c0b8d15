/- The reference's custody: a bicycle is brought to a spot. -/
import Derived.Test.YtlnfhlmgnppcbaaGreatZRG2
import Derived.Test.YtlnfhlmgnppcbaaGreatZCTA
import Derived.BigQuiet
import Derived.BigRegion
namespace Go.Proofs.YtlnfhlmgnppcbaaGreat
open Go.RowKit Go.ChangeShapes Go.WideShapes Go.Deep
set_option linter.unusedVariables false
set_option linter.unusedSimpArgs false
set_option maxRecDepth 8000
theorem Row.ne2 {w : World} {base base' s s' n n' : Nat} {e e' : TypeId} {v v' : Value} {f f' : Nat → List Value} (h : Row w base e s v n f) (h' : Row w base' e' s' v' n' f') (he : e ≠ e') {a b : Nat} (ha : v.ownBlock = some a) (hb : v'.ownBlock = some b) : b ≠ a := by
  rcases h.2 with ⟨hv, _⟩ | ⟨g', cap, cur, hv, _, hh, _⟩
  · rw [hv] at ha; simp [Value.ownBlock] at ha
  · rw [hv] at ha
    have : g' = a := by simpa [Value.ownBlock] using ha
    subst this
    exact Row.ne h' hb hh he
section
variable {w : World} {base g n c : Nat}
theorem SpR.set {F : Nat → Sp} (h : SpR w base (.slice (some ⟨g, 0, none⟩) n c) n F) {b : Nat} (hb : b < n) (x : Sp) : SpR (putCells w g (b * 4) (spv x)) base (.slice (some ⟨g, 0, none⟩) n c) n (upd F b x) :=
  Row.congr (Row.put h (spf_len F) hb (spv x) rfl) (fun i _ => upd_spf F b x i)
theorem SpR.one {F : Nat → Sp} (h : SpR w base (.slice (some ⟨g, 0, none⟩) n c) n F) {i : Nat} (hi : i < n) (j : Nat) (hj : j < 4) (u : Value) (x : Sp) (hx : (spv (F i)).set j u = spv x) : SpR (w.setCell ⟨g, i * 4 + j, none⟩ u) base (.slice (some ⟨g, 0, none⟩) n c) n (upd F i x) :=
  Row.congr (Row.store h (spf_len F) hi hj u) (fun l _ => by rw [show (spf F i).set j u = spv x from hx]; exact upd_spf F i x l)
theorem TrR.one {G : Nat → Tr} (h : TrR w base (.slice (some ⟨g, 0, none⟩) n c) n G) {i : Nat} (hi : i < n) (j : Nat) (hj : j < 4) (u : Value) (x : Tr) (hx : (trv (G i)).set j u = trv x) : TrR (w.setCell ⟨g, i * 4 + j, none⟩ u) base (.slice (some ⟨g, 0, none⟩) n c) n (upd G i x) :=
  Row.congr (Row.store h (trf_len G) hi hj u) (fun l _ => by rw [show (trf G i).set j u = trv x from hx]; exact upd_trf G i x l)
theorem SpR.spot {F : Nat → Sp} (h : SpR w base (.slice (some ⟨g, 0, none⟩) n c) n F) {i : Nat} (hi : i < n) : w.cell? ⟨g, i * 4, none⟩ = some (.int .i64 (F i).wh) ∧ w.cell? ⟨g, i * 4 + 1, none⟩ = some (.int .i64 (F i).pl) ∧ w.cell? ⟨g, i * 4 + 2, none⟩ = some (.int .i64 (F i).rd) ∧ w.cell? ⟨g, i * 4 + 3, none⟩ = some (.bool (F i).ps) :=
  have hc := fun j (hj : j < 4) => Row.cell h (spf_len F) (i := i) (j := j) hi hj
  ⟨hc 0 (by decide), hc 1 (by decide), hc 2 (by decide), hc 3 (by decide)⟩
theorem TrR.trip {G : Nat → Tr} (h : TrR w base (.slice (some ⟨g, 0, none⟩) n c) n G) {i : Nat} (hi : i < n) : w.cell? ⟨g, i * 4, none⟩ = some (.int .i64 (G i).id) ∧ w.cell? ⟨g, i * 4 + 1, none⟩ = some (.int .i64 (G i).rider) ∧ w.cell? ⟨g, i * 4 + 2, none⟩ = some (.int .i64 (G i).bike) ∧ w.cell? ⟨g, i * 4 + 3, none⟩ = some (.bool (G i).opn) :=
  have hc := fun j (hj : j < 4) => Row.cell h (trf_len G) (i := i) (j := j) hi hj
  ⟨hc 0 (by decide), hc 1 (by decide), hc 2 (by decide), hc 3 (by decide)⟩
end
set_option maxHeartbeats 8000000 in
theorem putR88 {n : Nat} {s : CSt} {sa ta : Option Addr} {sc tc : Nat} {w : World} (h : RIn w n s sa sc ta tc) (hI : Inv n s) (hn : n ≤ 1000) (hk : s.k ≤ 10000) {b : Nat} (hb : b < n) (x : Sp) :
    Calls Tryz.prog 88 #[.agg #[.slice sa n sc, .slice ta s.k tc], .int .i64 b, .agg #[.int .i64 x.wh, .int .i64 x.pl, .int .i64 x.rd, .bool x.ps]] w (MadeR n (putS s b x) w) := by
  obtain ⟨y1, y2, y3, y4⟩ := x
  dsimp only
  have BB : Hid (Below w.heap.size w (((w.alloc (.cells #[.slice sa n sc, .slice ta s.k tc] 122)).alloc (.cells #[.int .i64 y1, .int .i64 y2, .int .i64 y3, .bool y4] 147)).alloc (.cells #[.slice none 0 0, .slice none 0 0] 122))) := Lib.hid (by (repeat' (first | (with_reducible exact Below.refl _ _) | (with_reducible assumption) | (with_reducible refine Below.drew ?_) | (with_reducible refine below_drewN ?_ _) | (with_reducible refine Below.alloc ?_ ?_ _) | (with_reducible refine Below.setCell ?_ ?_ _) | go_size)))
  have X3 := Lib.hid (al_keep (al_keep (al_at w (.cells #[.slice sa n sc, .slice ta s.k tc] 122) rfl) (.cells #[.int .i64 y1, .int .i64 y2, .int .i64 y3, .bool y4] 147)) (.cells #[.slice none 0 0, .slice none 0 0] 122))
  have X5 := Lib.hid (al_keep (al_at (w.alloc (.cells #[.slice sa n sc, .slice ta s.k tc] 122)) (.cells #[.int .i64 y1, .int .i64 y2, .int .i64 y3, .bool y4] 147) (k := w.heap.size + 1) (by simp)) (.cells #[.slice none 0 0, .slice none 0 0] 122))
  have X6 := Lib.hid (al_at ((w.alloc (.cells #[.slice sa n sc, .slice ta s.k tc] 122)).alloc (.cells #[.int .i64 y1, .int .i64 y2, .int .i64 y3, .bool y4] 147)) (.cells #[.slice none 0 0, .slice none 0 0] 122) (k := w.heap.size + 1 + 1) (by simp))
  obtain ⟨w1, hw1⟩ : ∃ w1, w1 = ((w.alloc (.cells #[.slice sa n sc, .slice ta s.k tc] 122)).alloc (.cells #[.int .i64 y1, .int .i64 y2, .int .i64 y3, .bool y4] 147)).alloc (.cells #[.slice none 0 0, .slice none 0 0] 122) := ⟨_, rfl⟩
  rw [← hw1] at BB X3 X5 X6
  have HW1 := Lib.hid hw1
  have HIN := Lib.hid (h.below BB.out)
  have CP := Lib.hid (copiedR89 HIN.out (by omega) (by omega))
  have HI := Lib.hid hI
  have HR := Lib.hid (fun hw => hI.rid b hb hw)
  clear hw1 h hI
  generalize hsk : s.k = k at *
  have HSK := Lib.hid hsk
  clear hsk
  have x0 := cell_at X3.out 0
  have x1 := cell_at X3.out 1
  have zx := szs (block_lt X3.out)
  go_enter Tryz.func88, Tryz.ntmps88
  go_wp2_with fail
  rw [← HW1.out]
  refine CP.out.mono ?_
  rintro e w2 ⟨sv, tv, rfl, ro, b2⟩
  rcases Row.shape ro.sp with ⟨_, h0⟩ | ⟨g, c2, rfl, hg1, hg2, hg3, hg4⟩
  · omega
  have RS := Lib.hid ro.sp
  have RT := Lib.hid ro.tr
  rw [HSK.out] at RT
  obtain ⟨ta2, tc2, rfl, _⟩ := Row.toSl RT.out (trf_len s.G)
  have b3 : Below w2.heap.size w2 (w2.alloc (.cells #[.slice (some ⟨g, 0, none⟩) n c2, .slice ta2 k tc2] 122)) := by (repeat' (first | (with_reducible exact Below.refl _ _) | (with_reducible assumption) | (with_reducible refine Below.drew ?_) | (with_reducible refine below_drewN ?_ _) | (with_reducible refine Below.alloc ?_ ?_ _) | (with_reducible refine Below.setCell ?_ ?_ _) | go_size))
  have X7 := Lib.hid (al_at w2 (.cells #[.slice (some ⟨g, 0, none⟩) n c2, .slice ta2 k tc2] 122) rfl)
  have hg4 : c2 ≤ 9223372036854775807 := by unfold maxLen at hg4; omega
  have tb : (b : Int) < (n : Int) := by omega
  have B2 := Lib.hid (b2.trans (b3.mono b2.size))
  have HW2 : Hid (w2.heap.size = w2.heap.size ∧ g < w2.heap.size ∧ w1.heap.size ≤ g ∧ w.heap.size + 1 + 1 < w1.heap.size) := Lib.hid ⟨rfl, hg2, hg1, block_lt X6.out⟩
  replace RS := Lib.hid (Row.off (X := fun _ => False) RS.out (Off.of_below b3) (fun _ _ h => h))
  replace RT := Lib.hid (Row.off (X := fun _ => False) RT.out (Off.of_below b3) (fun _ _ h => h))
  obtain ⟨w3, hw3⟩ : ∃ w3, w3 = w2.alloc (.cells #[.slice (some ⟨g, 0, none⟩) n c2, .slice ta2 k tc2] 122) := ⟨_, rfl⟩
  have HW3 := Lib.hid hw3
  rw [← hw3] at B2 X7 RS RT
  replace X3 := Lib.hid ((B2.out.block _ (block_lt X3.out)).trans X3.out)
  replace X5 := Lib.hid ((B2.out.block _ (block_lt X5.out)).trans X5.out)
  replace X6 := Lib.hid ((B2.out.block _ (block_lt X6.out)).trans X6.out)
  have B3 := Lib.hid (BB.out.trans (B2.out.mono BB.out.size))
  have HIN3 := Lib.hid (HIN.out.below B2.out)
  clear x0 x1 zx ro CP hg2 b2 b3 BB HIN hg1 hw3
  go_simp
  iterate 10 go_step
  rw [← HW3.out]
  clear HW3
  have HX7 : Hid (w2.heap.size < w3.heap.size) := Lib.hid (block_lt X7.out)
  have c0 := cell_at X7.out 0
  have c1 := cell_at X7.out 1
  have zc := szs (block_lt X7.out)
  obtain ⟨z0, z1, z2, z3⟩ := SpR.spot RS.out hb
  have zg := szs (cell_lt z0)
  dsimp only at zg
  obtain ⟨sw, hsw⟩ : ∃ sw, sw = (s.F b).wh := ⟨_, rfl⟩
  obtain ⟨sr, hsr⟩ : ∃ sr, sr = (s.F b).rd := ⟨_, rfl⟩
  rw [← hsw] at z0 HR
  rw [← hsr] at z2 HR
  have HSW := Lib.hid hsw
  have HSRD := Lib.hid hsr
  clear hsw hsr
  by_cases h3 : sw = 3
  · obtain ⟨i, hi, hid, hop, hbk⟩ := HR.out h3
    have HFI : Hid (findI s.G sr k = (i : Int)) := Lib.hid (by rw [← hid, ← HSK.out]; exact HI.out.find (by rw [HSK.out]; exact hi))
    have HPS : Hid (putS s b ⟨y1, y2, y3, y4⟩ = ⟨upd s.F b ⟨y1, y2, y3, y4⟩, k, upd s.G i { s.G i with opn := false }⟩) := Lib.hid (by
      unfold putS; rw [if_pos (by rw [← HSW.out]; exact h3), ← HSRD.out, HSK.out, HFI.out, Int.toNat_natCast])
    rcases Row.shape RT.out with ⟨_, h0⟩ | ⟨gt, c9, ht, _, hgt, hk9, _⟩
    · omega
    cases ht
    have tik : (i : Int) < (k : Int) := by omega
    have FN := Lib.hid (fun w' (hb : Below w3.heap.size w3 w') => findR90 (HIN3.out.below hb) sr)
    rw [HSK.out, HFI.out] at FN
    have x0 := cell_at X3.out 0
    have x1 := cell_at X3.out 1
    have zx := szs (block_lt X3.out)
    have zgt := szs (show gt < w3.heap.size from (World.ownsRow.lt RT.out gt rfl).2)
    subst h3
    clear HR hid hop hbk hgt
    go_wp2_with fail
    (obtain ⟨ι, hne, Fw, fb, hF⟩ := grow_family w3); have hF : ∀ w', (sPlan w3 (fun s' => s' = [.int .i64 (i : Int)]) [9] [] []).D [] w' → ∃ i, w' = Fw i := hF
    have fc0 := fun i => cell_kept (fb i) c0
    have fc1 := fun i => cell_kept (fb i) c1
    have fx0 := fun i => cell_kept (fb i) x0
    have fx1 := fun i => cell_kept (fb i) x1
    have fz2 := fun i => cell_kept (fb i) z2
    clear c0 c1 x0 x1 zx z0 z1 z2 z3
    (refine region_chainO (sPlan w3 (fun s' => s' = [.int .i64 (i : Int)]) [9] [] []) [] [] [0, 1, 2, 3, 4, 5, 6, 7, 8, 9, 10, 11] [12] mixed (by kernel_rfl) (by kernel_rfl) (fun _ _ h => nomatch h) (sPlan_ok (by simp) (by simp)) sPlan_start ?_; refine wpPure_nil ?_; simp only [List.map_cons, List.map_nil, Array.getD_eq_getD_getElem?, List.getElem?_toArray, List.getElem?_cons_zero, List.getElem?_cons_succ, Option.getD_some])
    (repeat (first | (refine wpChainO_skip rfl ?_; simp only [Act.put, List.setIfInBounds_toArray, List.set_cons_succ, List.set_cons_zero]) | (refine wpChainO_quiet hF rfl rfl rfl ?_; intro K hK; go_big_quiet_op; go_big_quiet_on) | (refine wpChainO_pure _ rfl rfl (fun w' _ => by go_simp; try rfl) ?_; simp only [Act.put, List.setIfInBounds_toArray, List.set_cons_succ, List.set_cons_zero])))
    refine wpChainO_scall 90 #[.agg #[.slice sa n sc, .slice ta k tc], .int .i64 sr] rfl rfl (fun w' => by go_simp) (fun w' hb => ?_) ?_
    · refine (FN.out w' hb).mono ?_
      rintro e w5 ⟨rfl, hb5⟩
      exact ⟨_, rfl, rfl, hb5⟩
    rintro u1 hu
    cases hu
    simp only [Act.put, List.setIfInBounds_toArray, List.set_cons_succ, List.set_cons_zero]
    (repeat (first | (refine wpChainO_skip rfl ?_; simp only [Act.put, List.setIfInBounds_toArray, List.set_cons_succ, List.set_cons_zero]) | (refine wpChainO_quiet hF rfl rfl rfl ?_; intro K hK; go_big_quiet_op; go_big_quiet_on) | (refine wpChainO_pure _ rfl rfl (fun w' _ => by go_simp; try rfl) ?_; simp only [Act.put, List.setIfInBounds_toArray, List.set_cons_succ, List.set_cons_zero])))
    refine wpChainO_nil (fun w5 hb5 hl5 => ?_)
    have b5 : Below w3.heap.size w3 w5 := hb5
    clear hb5 hl5 hF fb hne fc0 fc1 fx0 fx1 fz2 FN zg zc zgt X3
    replace X5 := Lib.hid ((b5.block _ (block_lt X5.out)).trans X5.out)
    replace X6 := Lib.hid ((b5.block _ (block_lt X6.out)).trans X6.out)
    replace X7 := Lib.hid ((b5.block _ (block_lt X7.out)).trans X7.out)
    replace RS := Lib.hid (Row.off (X := fun _ => False) RS.out (Off.of_below b5) (fun _ _ h => h))
    replace RT := Lib.hid (Row.off (X := fun _ => False) RT.out (Off.of_below b5) (fun _ _ h => h))
    replace B3 := Lib.hid (B3.out.trans (b5.mono B3.out.size))
    obtain ⟨t0, t1, t2, t3⟩ := TrR.trip RT.out hi
    have zt := szs (cell_lt t0)
    dsimp only at zt
    have frt := fun i => Row.free RT.out i
    go_wp2_with fail
    have o6 : Off (fun q => q = gt) w5 (w5.setCell ⟨gt, i * 4 + 3, none⟩ (.bool false)) := (Off.refl (fun q => q = gt) w5).setCell (p := ⟨gt, i * 4 + 3, none⟩) (fun _ => rfl) _
    have h6 := TrR.one RT.out hi 3 (by decide) (.bool false) { s.G i with opn := false } rfl
    have hne : gt ≠ g := Row.ne2 RS.out RT.out (by decide) rfl rfl
    replace X5 := Lib.hid ((o6.block _ (block_lt X5.out) (fun h => Row.ne RT.out rfl X5.out (by decide) h.symm)).trans X5.out)
    replace X6 := Lib.hid ((o6.block _ (block_lt X6.out) (fun h => Row.ne RT.out rfl X6.out (by decide) h.symm)).trans X6.out)
    replace X7 := Lib.hid ((o6.block _ (block_lt X7.out) (fun h => Row.ne RT.out rfl X7.out (by decide) h.symm)).trans X7.out)
    replace RS := Lib.hid (Row.off RS.out o6 (fun gg hgg h => by cases hgg; exact hne h.symm))
    replace B3 := Lib.hid (B3.out.trans (o6.toBelow B3.out.size (fun q hq h => by have h : q = gt := h; have := (World.ownsRow.lt RT.out gt rfl).1; have := HW2.out; omega)))
    replace RT := Lib.hid h6
    clear t0 t1 t2 t3 zt frt o6 h6 hne b5 tik
    generalize w5.setCell ⟨gt, i * 4 + 3, none⟩ (.bool false) = w6 at *
    refine onlyN_intro ?_
    have R4 := Lib.hid (SpR.set RS.out hb ⟨y1, y2, y3, y4⟩)
    have O4 := Lib.hid (off_putCells (X := fun q => q = g) (g := g) rfl (spv ⟨y1, y2, y3, y4⟩) (b * 4) w6 (Off.refl _ _))
    obtain ⟨w4, hw4⟩ : ∃ w4, w4 = (((w6.setCell ⟨g, b * 4, none⟩ (.int .i64 y1)).setCell ⟨g, b * 4 + 1, none⟩ (.int .i64 y2)).setCell ⟨g, b * 4 + 2, none⟩ (.int .i64 y3)).setCell ⟨g, b * 4 + 3, none⟩ (.bool y4) := ⟨_, rfl⟩
    have e4 : putCells w6 g (b * 4) (spv ⟨y1, y2, y3, y4⟩) = w4 := by rw [hw4]; rfl
    rw [e4] at R4 O4
    have T4 := Lib.hid (Row.off RT.out O4.out (fun gg hgg h => Row.ne2 RS.out RT.out (by decide) rfl hgg h))
    have K6 := Lib.hid ((O4.out.block _ (block_lt X6.out) (fun h => by have h : w.heap.size + 1 + 1 = g := h; have := HW2.out; omega)).trans X6.out)
    have K7 := Lib.hid ((O4.out.block _ (block_lt X7.out) (fun h => by have h : w2.heap.size = g := h; have := HW2.out; omega)).trans X7.out)
    have B4 := Lib.hid (B3.out.trans (O4.out.toBelow B3.out.size (fun q hq h => by have h : q = g := h; have := HW2.out; omega)))
    have HW4 := Lib.hid hw4
    have c0 := cell_at X7.out 0
    have zc := szs (block_lt X7.out)
    have q0 := cell_at X5.out 0
    have q1 := cell_at X5.out 1
    have q2 := cell_at X5.out 2
    have q3 := cell_at X5.out 3
    have zq := szs (block_lt X5.out)
    obtain ⟨z0, z1, z2, z3⟩ := SpR.spot RS.out hb
    have zg := szs (cell_lt z0)
    dsimp only at zg
    have frg := fun i => Row.free RS.out i
    clear hw4 e4 RS RT X5 X6 X7 B3 O4
    iterate 22 go_step
    rw [← HW4.out]
    clear HW4 q0 q1 q2 q3 zq frg z0 z1 z2 z3 zg c0 zc
    have k0 := cell_at K7.out 0
    have k1 := cell_at K7.out 1
    have m0 := cell_at K6.out 0
    have m1 := cell_at K6.out 1
    have fr := fun i => free_at K6.out i
    have zm := szs (block_lt K6.out)
    have zk := szs (block_lt K7.out)
    go_wp2_with fail
    show bodyPost _ _ _ Exit.ret _ _
    have KZ := put2 K6.out (.slice (some ⟨g, 0, none⟩) n c2) (.slice (some ⟨gt, 0, none⟩) k tc2)
    have OZ := off2 w4 (w.heap.size + 1 + 1) (.slice (some ⟨g, 0, none⟩) n c2) (.slice (some ⟨gt, 0, none⟩) k tc2)
    have RZ := Lib.hid (Row.off R4.out OZ (fun gg hgg h => by have := (World.ownsRow.lt R4.out gg hgg).1; have := HW2.out; have h : gg = w.heap.size + 1 + 1 := h; omega))
    have TZ := Lib.hid (Row.off T4.out OZ (fun gg hgg h => by have := (World.ownsRow.lt T4.out gg hgg).1; have := HW2.out; have h : gg = w.heap.size + 1 + 1 := h; omega))
    have BZ := Lib.hid (B4.out.trans (OZ.toBelow B4.out.size (fun q hq h => by have h : q = w.heap.size + 1 + 1 := h; omega)))
    clear fr zm m0 m1 OZ R4 T4 K6 K7 B4 k0 k1 zk
    generalize World.setCell (World.setCell w4 _ _) _ _ = w9 at *
    have k0 := cell_at KZ 0
    have k1 := cell_at KZ 1
    have zk := szs (block_lt KZ)
    exact bodyPost_ret (v := .agg #[.slice (some ⟨g, 0, none⟩) n c2, .slice (some ⟨gt, 0, none⟩) k tc2]) (by simp [results, Tryz.results88, go_sem, k0, k1]) rfl ⟨_, _, rfl, by rw [HPS.out]; exact ⟨Row.base_mono RZ.out (by have := HW2.out; omega), Row.base_mono TZ.out (by have := HW2.out; omega)⟩, BZ.out⟩
  · have t3 : (sw == 3) = false := by simpa using h3
    have HPS : Hid (putS s b ⟨y1, y2, y3, y4⟩ = ⟨upd s.F b ⟨y1, y2, y3, y4⟩, k, s.G⟩) := Lib.hid (by
      unfold putS; rw [if_neg (by rw [← HSW.out]; exact h3), HSK.out])
    iterate 32 go_step
    clear z0 z1 z2 z3 zg c0 c1 zc
    have R4 := Lib.hid (SpR.set RS.out hb ⟨y1, y2, y3, y4⟩)
    have O4 := Lib.hid (off_putCells (X := fun q => q = g) (g := g) rfl (spv ⟨y1, y2, y3, y4⟩) (b * 4) w3 (Off.refl _ _))
    obtain ⟨w4, hw4⟩ : ∃ w4, w4 = (((w3.setCell ⟨g, b * 4, none⟩ (.int .i64 y1)).setCell ⟨g, b * 4 + 1, none⟩ (.int .i64 y2)).setCell ⟨g, b * 4 + 2, none⟩ (.int .i64 y3)).setCell ⟨g, b * 4 + 3, none⟩ (.bool y4) := ⟨_, rfl⟩
    have e4 : putCells w3 g (b * 4) (spv ⟨y1, y2, y3, y4⟩) = w4 := by rw [hw4]; rfl
    rw [e4] at R4 O4
    have T4 := Lib.hid (Row.off RT.out O4.out (fun gg hgg h => Row.ne2 RS.out RT.out (by decide) rfl hgg h))
    have K6 := Lib.hid ((O4.out.block _ (block_lt X6.out) (fun h => by have h : w.heap.size + 1 + 1 = g := h; have := HW2.out; omega)).trans X6.out)
    have K7 := Lib.hid ((O4.out.block _ (block_lt X7.out) (fun h => by have h : w2.heap.size = g := h; have := HW2.out; omega)).trans X7.out)
    have B4 := Lib.hid (B3.out.trans (O4.out.toBelow B3.out.size (fun q hq h => by have h : q = g := h; have := HW2.out; omega)))
    have HW4 := Lib.hid hw4
    have c0 := cell_at X7.out 0
    have zc := szs (block_lt X7.out)
    have q0 := cell_at X5.out 0
    have q1 := cell_at X5.out 1
    have q2 := cell_at X5.out 2
    have q3 := cell_at X5.out 3
    have zq := szs (block_lt X5.out)
    obtain ⟨z0, z1, z2, z3⟩ := SpR.spot RS.out hb
    have zg := szs (cell_lt z0)
    dsimp only at zg
    have frg := fun i => Row.free RS.out i
    clear hw4 e4 RS RT X5 X6 X7 B3 O4
    iterate 20 go_step
    rw [← HW4.out]
    clear HW4 q0 q1 q2 q3 zq frg z0 z1 z2 z3 zg c0 zc
    have k0 := cell_at K7.out 0
    have k1 := cell_at K7.out 1
    have m0 := cell_at K6.out 0
    have m1 := cell_at K6.out 1
    have fr := fun i => free_at K6.out i
    have zm := szs (block_lt K6.out)
    have zk := szs (block_lt K7.out)
    go_wp2_with fail
    show bodyPost _ _ _ Exit.ret _ _
    have KZ := put2 K6.out (.slice (some ⟨g, 0, none⟩) n c2) (.slice ta2 k tc2)
    have OZ := off2 w4 (w.heap.size + 1 + 1) (.slice (some ⟨g, 0, none⟩) n c2) (.slice ta2 k tc2)
    have RZ := Lib.hid (Row.off R4.out OZ (fun gg hgg h => by have := (World.ownsRow.lt R4.out gg hgg).1; have := HW2.out; have h : gg = w.heap.size + 1 + 1 := h; omega))
    have TZ := Lib.hid (Row.off T4.out OZ (fun gg hgg h => by have := (World.ownsRow.lt T4.out gg hgg).1; have := HW2.out; have h : gg = w.heap.size + 1 + 1 := h; omega))
    have BZ := Lib.hid (B4.out.trans (OZ.toBelow B4.out.size (fun q hq h => by have h : q = w.heap.size + 1 + 1 := h; omega)))
    clear fr zm m0 m1 OZ R4 T4 K6 K7 B4 k0 k1 zk
    generalize World.setCell (World.setCell w4 _ _) _ _ = w9 at *
    have k0 := cell_at KZ 0
    have k1 := cell_at KZ 1
    have zk := szs (block_lt KZ)
    exact bodyPost_ret (v := .agg #[.slice (some ⟨g, 0, none⟩) n c2, .slice ta2 k tc2]) (by simp [results, Tryz.results88, go_sem, k0, k1]) rfl ⟨_, _, rfl, by rw [HPS.out]; exact ⟨Row.base_mono RZ.out (by have := HW2.out; omega), Row.base_mono TZ.out (by have := HW2.out; omega)⟩, BZ.out⟩
end Go.Proofs.YtlnfhlmgnppcbaaGreat
