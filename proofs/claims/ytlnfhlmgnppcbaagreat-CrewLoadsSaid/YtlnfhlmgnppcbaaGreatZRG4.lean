/- The reference's custody: the state after an event that is accepted. -/
import Derived.Test.YtlnfhlmgnppcbaaGreatZRG3
import Derived.Test.YtlnfhlmgnppcbaaGreatZCMB
import Derived.BigQuiet
import Derived.BigRegion
namespace Go.Proofs.YtlnfhlmgnppcbaaGreat
open Go.RowKit Go.ChangeShapes Go.WideShapes Go.Deep
set_option linter.unusedVariables false
set_option linter.unusedSimpArgs false
set_option maxRecDepth 8000
set_option maxHeartbeats 16000000 in
theorem applyR59 {f : Fl} {s : CSt} {n : Nat} (hnb : n = f.bikes.toNat) {sa ta : Option Addr} {sc tc : Nat} {w : World} (h : RIn w n s sa sc ta tc) (hI : Inv n s) (hn : n ≤ 1000) (hkk : s.k ≤ 10000) (e : Ev) (hc : checkE f e = 0) (hk10 : e.kind ≠ 10) (hf : faultK f s e = 0) :
    Calls Tryz.prog 59 #[.agg #[.slice sa n sc, .slice ta s.k tc], .agg (eC e)] w (MadeR n (applyK s e) w) := by
  obtain ⟨kd1, kd2⟩ := kind_in hc
  obtain ⟨b1, b2⟩ := bike_in hc
  obtain ⟨b, hb'⟩ := Int.eq_ofNat_of_zero_le b1
  have hb : b < n := by omega
  have BB : Hid (Below w.heap.size w (((w.alloc (.cells #[.slice sa n sc, .slice ta s.k tc] 122)).alloc (.cells (eC e) 81)).alloc (.cells #[.slice none 0 0, .slice none 0 0] 122))) := Lib.hid (by (repeat' (first | (with_reducible exact Below.refl _ _) | (with_reducible assumption) | (with_reducible refine Below.drew ?_) | (with_reducible refine below_drewN ?_ _) | (with_reducible refine Below.alloc ?_ ?_ _) | (with_reducible refine Below.setCell ?_ ?_ _) | go_size)))
  have X2 := Lib.hid (al_keep (al_keep (al_at w (.cells #[.slice sa n sc, .slice ta s.k tc] 122) rfl) (.cells (eC e) 81)) (.cells #[.slice none 0 0, .slice none 0 0] 122))
  have X3 := Lib.hid (al_keep (al_at (w.alloc (.cells #[.slice sa n sc, .slice ta s.k tc] 122)) (.cells (eC e) 81) (k := w.heap.size + 1) (by simp)) (.cells #[.slice none 0 0, .slice none 0 0] 122))
  have X4 := Lib.hid (al_at ((w.alloc (.cells #[.slice sa n sc, .slice ta s.k tc] 122)).alloc (.cells (eC e) 81)) (.cells #[.slice none 0 0, .slice none 0 0] 122) (k := w.heap.size + 1 + 1) (by simp))
  obtain ⟨w1, hw1⟩ : ∃ w1, w1 = ((w.alloc (.cells #[.slice sa n sc, .slice ta s.k tc] 122)).alloc (.cells (eC e) 81)).alloc (.cells #[.slice none 0 0, .slice none 0 0] 122) := ⟨_, rfl⟩
  rw [← hw1] at BB X2 X3 X4
  have HW1 := Lib.hid hw1
  have HIN := Lib.hid (h.below BB.out)
  have HI := Lib.hid hI
  have HFK := Lib.hid hf
  have HL1 : Hid (w.heap.size + 1 + 1 < w1.heap.size) := Lib.hid (block_lt X4.out)
  clear hw1 h hI hf hc b1 b2 hnb
  obtain ⟨k, hsk⟩ : ∃ k, k = s.k := ⟨_, rfl⟩
  have HSK : Hid (s.k = k) := Lib.hid hsk.symm
  rw [← hsk] at X2 HW1 ⊢
  obtain ⟨v1, v2, v3, v4, v5, v6, v7, v8, v9⟩ := e
  dsimp only at hb' hk10 kd1 kd2
  subst hb'
  unfold eC at *
  dsimp only at X3 HW1 ⊢
  clear hsk
  go_enter Tryz.func59, Tryz.ntmps59
  have e4 := cell_at X3.out 4
  have e5 := cell_at X3.out 5
  have e6 := cell_at X3.out 6
  have e7 := cell_at X3.out 7
  have e8 := cell_at X3.out 8
  have ze := szs (block_lt X3.out)
  have s0 := cell_at X2.out 0
  have s1 := cell_at X2.out 1
  have zs := szs (block_lt X2.out)
  by_cases k1 : v5 = 1
  · subst k1
    have PU := putR88 HIN.out HI.out hn hkk hb (⟨1, v7, 0, false⟩ : Sp)
    rw [HSK.out] at PU
    dsimp only at PU
    replace PU := Lib.hid PU
    have HAP : Hid (applyK s ⟨v1, v2, v3, v4, 1, (b : Int), v7, v8, v9⟩ = ⟨(putS s b (⟨1, v7, 0, false⟩ : Sp)).F, k, (putS s b (⟨1, v7, 0, false⟩ : Sp)).G⟩) := Lib.hid (by rw [← HSK.out]; unfold applyK; simp; rfl)
    clear HFK HIN
    go_wp2_with fail
    rw [← HW1.out]
    refine PU.out.mono ?_
    rintro e w2 ⟨sv, tv, rfl, ro, b2⟩
    have rs := ro.sp
    have rt : TrR w2 w1.heap.size tv k (putS s b (⟨1, v7, 0, false⟩ : Sp)).G := by have := ro.tr; rwa [show (putS s b (⟨1, v7, 0, false⟩ : Sp)).k = k from HSK.out] at this
    obtain ⟨sa2, sc2, rfl, _⟩ := Row.toSl rs (spf_len _)
    obtain ⟨ta2, tc2, rfl, _⟩ := Row.toSl rt (trf_len _)
    have RS := Lib.hid rs
    have RT := Lib.hid rt
    replace X4 := Lib.hid ((b2.block _ (block_lt X4.out)).trans X4.out)
    have B2 := Lib.hid (BB.out.trans (b2.mono BB.out.size))
    clear e4 e5 e6 e7 e8 ze
    clear PU ro rs rt b2 s0 s1 zs BB X2 X3
    have m0 := cell_at X4.out 0
    have m1 := cell_at X4.out 1
    have fr := fun i => free_at X4.out i
    have zm := szs (block_lt X4.out)
    go_wp2_with fail
    show bodyPost _ _ _ Exit.ret _ _
    have KZ := put2 X4.out (.slice sa2 n sc2) (.slice ta2 k tc2)
    have OZ := off2 w2 (w.heap.size + 1 + 1) (.slice sa2 n sc2) (.slice ta2 k tc2)
    have RZ := Lib.hid (Row.off RS.out OZ (fun gg hgg h => by have := (World.ownsRow.lt RS.out gg hgg).1; have := HL1.out; have h : gg = w.heap.size + 1 + 1 := h; omega))
    have TZ := Lib.hid (Row.off RT.out OZ (fun gg hgg h => by have := (World.ownsRow.lt RT.out gg hgg).1; have := HL1.out; have h : gg = w.heap.size + 1 + 1 := h; omega))
    have BZ := Lib.hid (B2.out.trans (OZ.toBelow B2.out.size (fun q hq h => by have h : q = w.heap.size + 1 + 1 := h; omega)))
    clear fr zm m0 m1 OZ RS RT X4 B2
    generalize World.setCell (World.setCell w2 _ _) _ _ = w9 at *
    have k0 := cell_at KZ 0
    have k1 := cell_at KZ 1
    have zk := szs (block_lt KZ)
    exact bodyPost_ret (v := .agg #[(.slice sa2 n sc2), (.slice ta2 k tc2)]) (by simp [results, Tryz.results59, go_sem, k0, k1]) rfl ⟨_, _, rfl, by rw [HAP.out]; exact ⟨Row.base_mono RZ.out (by have := HL1.out; omega), Row.base_mono TZ.out (by have := HL1.out; omega)⟩, BZ.out⟩
  by_cases k2 : v5 = 2
  · subst k2
    have PU := putR88 HIN.out HI.out hn hkk hb (⟨2, v7, 0, false⟩ : Sp)
    rw [HSK.out] at PU
    dsimp only at PU
    replace PU := Lib.hid PU
    have HAP : Hid (applyK s ⟨v1, v2, v3, v4, 2, (b : Int), v7, v8, v9⟩ = ⟨(putS s b (⟨2, v7, 0, false⟩ : Sp)).F, k, (putS s b (⟨2, v7, 0, false⟩ : Sp)).G⟩) := Lib.hid (by rw [← HSK.out]; unfold applyK; simp; rfl)
    clear HFK HIN
    go_wp2_with fail
    rw [← HW1.out]
    refine PU.out.mono ?_
    rintro e w2 ⟨sv, tv, rfl, ro, b2⟩
    have rs := ro.sp
    have rt : TrR w2 w1.heap.size tv k (putS s b (⟨2, v7, 0, false⟩ : Sp)).G := by have := ro.tr; rwa [show (putS s b (⟨2, v7, 0, false⟩ : Sp)).k = k from HSK.out] at this
    obtain ⟨sa2, sc2, rfl, _⟩ := Row.toSl rs (spf_len _)
    obtain ⟨ta2, tc2, rfl, _⟩ := Row.toSl rt (trf_len _)
    have RS := Lib.hid rs
    have RT := Lib.hid rt
    replace X4 := Lib.hid ((b2.block _ (block_lt X4.out)).trans X4.out)
    have B2 := Lib.hid (BB.out.trans (b2.mono BB.out.size))
    clear e4 e5 e6 e7 e8 ze
    clear PU ro rs rt b2 s0 s1 zs BB X2 X3
    have m0 := cell_at X4.out 0
    have m1 := cell_at X4.out 1
    have fr := fun i => free_at X4.out i
    have zm := szs (block_lt X4.out)
    go_wp2_with fail
    show bodyPost _ _ _ Exit.ret _ _
    have KZ := put2 X4.out (.slice sa2 n sc2) (.slice ta2 k tc2)
    have OZ := off2 w2 (w.heap.size + 1 + 1) (.slice sa2 n sc2) (.slice ta2 k tc2)
    have RZ := Lib.hid (Row.off RS.out OZ (fun gg hgg h => by have := (World.ownsRow.lt RS.out gg hgg).1; have := HL1.out; have h : gg = w.heap.size + 1 + 1 := h; omega))
    have TZ := Lib.hid (Row.off RT.out OZ (fun gg hgg h => by have := (World.ownsRow.lt RT.out gg hgg).1; have := HL1.out; have h : gg = w.heap.size + 1 + 1 := h; omega))
    have BZ := Lib.hid (B2.out.trans (OZ.toBelow B2.out.size (fun q hq h => by have h : q = w.heap.size + 1 + 1 := h; omega)))
    clear fr zm m0 m1 OZ RS RT X4 B2
    generalize World.setCell (World.setCell w2 _ _) _ _ = w9 at *
    have k0 := cell_at KZ 0
    have k1 := cell_at KZ 1
    have zk := szs (block_lt KZ)
    exact bodyPost_ret (v := .agg #[(.slice sa2 n sc2), (.slice ta2 k tc2)]) (by simp [results, Tryz.results59, go_sem, k0, k1]) rfl ⟨_, _, rfl, by rw [HAP.out]; exact ⟨Row.base_mono RZ.out (by have := HL1.out; omega), Row.base_mono TZ.out (by have := HL1.out; omega)⟩, BZ.out⟩
  by_cases k7 : v5 = 7
  · subst k7
    have PU := putR88 HIN.out HI.out hn hkk hb (⟨4, v7, 0, false⟩ : Sp)
    rw [HSK.out] at PU
    dsimp only at PU
    replace PU := Lib.hid PU
    have HAP : Hid (applyK s ⟨v1, v2, v3, v4, 7, (b : Int), v7, v8, v9⟩ = ⟨(putS s b (⟨4, v7, 0, false⟩ : Sp)).F, k, (putS s b (⟨4, v7, 0, false⟩ : Sp)).G⟩) := Lib.hid (by rw [← HSK.out]; unfold applyK; simp; rfl)
    clear HFK HIN
    go_wp2_with fail
    rw [← HW1.out]
    refine PU.out.mono ?_
    rintro e w2 ⟨sv, tv, rfl, ro, b2⟩
    have rs := ro.sp
    have rt : TrR w2 w1.heap.size tv k (putS s b (⟨4, v7, 0, false⟩ : Sp)).G := by have := ro.tr; rwa [show (putS s b (⟨4, v7, 0, false⟩ : Sp)).k = k from HSK.out] at this
    obtain ⟨sa2, sc2, rfl, _⟩ := Row.toSl rs (spf_len _)
    obtain ⟨ta2, tc2, rfl, _⟩ := Row.toSl rt (trf_len _)
    have RS := Lib.hid rs
    have RT := Lib.hid rt
    replace X4 := Lib.hid ((b2.block _ (block_lt X4.out)).trans X4.out)
    have B2 := Lib.hid (BB.out.trans (b2.mono BB.out.size))
    clear e4 e5 e6 e7 e8 ze
    clear PU ro rs rt b2 s0 s1 zs BB X2 X3
    have m0 := cell_at X4.out 0
    have m1 := cell_at X4.out 1
    have fr := fun i => free_at X4.out i
    have zm := szs (block_lt X4.out)
    go_wp2_with fail
    show bodyPost _ _ _ Exit.ret _ _
    have KZ := put2 X4.out (.slice sa2 n sc2) (.slice ta2 k tc2)
    have OZ := off2 w2 (w.heap.size + 1 + 1) (.slice sa2 n sc2) (.slice ta2 k tc2)
    have RZ := Lib.hid (Row.off RS.out OZ (fun gg hgg h => by have := (World.ownsRow.lt RS.out gg hgg).1; have := HL1.out; have h : gg = w.heap.size + 1 + 1 := h; omega))
    have TZ := Lib.hid (Row.off RT.out OZ (fun gg hgg h => by have := (World.ownsRow.lt RT.out gg hgg).1; have := HL1.out; have h : gg = w.heap.size + 1 + 1 := h; omega))
    have BZ := Lib.hid (B2.out.trans (OZ.toBelow B2.out.size (fun q hq h => by have h : q = w.heap.size + 1 + 1 := h; omega)))
    clear fr zm m0 m1 OZ RS RT X4 B2
    generalize World.setCell (World.setCell w2 _ _) _ _ = w9 at *
    have k0 := cell_at KZ 0
    have k1 := cell_at KZ 1
    have zk := szs (block_lt KZ)
    exact bodyPost_ret (v := .agg #[(.slice sa2 n sc2), (.slice ta2 k tc2)]) (by simp [results, Tryz.results59, go_sem, k0, k1]) rfl ⟨_, _, rfl, by rw [HAP.out]; exact ⟨Row.base_mono RZ.out (by have := HL1.out; omega), Row.base_mono TZ.out (by have := HL1.out; omega)⟩, BZ.out⟩
  by_cases k8 : v5 = 8
  · subst k8
    have PU := putR88 HIN.out HI.out hn hkk hb (⟨5, 0, 0, false⟩ : Sp)
    rw [HSK.out] at PU
    dsimp only at PU
    replace PU := Lib.hid PU
    have HAP : Hid (applyK s ⟨v1, v2, v3, v4, 8, (b : Int), v7, v8, v9⟩ = ⟨(putS s b (⟨5, 0, 0, false⟩ : Sp)).F, k, (putS s b (⟨5, 0, 0, false⟩ : Sp)).G⟩) := Lib.hid (by rw [← HSK.out]; unfold applyK; simp; rfl)
    clear HFK HIN
    go_wp2_with fail
    rw [← HW1.out]
    refine PU.out.mono ?_
    rintro e w2 ⟨sv, tv, rfl, ro, b2⟩
    have rs := ro.sp
    have rt : TrR w2 w1.heap.size tv k (putS s b (⟨5, 0, 0, false⟩ : Sp)).G := by have := ro.tr; rwa [show (putS s b (⟨5, 0, 0, false⟩ : Sp)).k = k from HSK.out] at this
    obtain ⟨sa2, sc2, rfl, _⟩ := Row.toSl rs (spf_len _)
    obtain ⟨ta2, tc2, rfl, _⟩ := Row.toSl rt (trf_len _)
    have RS := Lib.hid rs
    have RT := Lib.hid rt
    replace X4 := Lib.hid ((b2.block _ (block_lt X4.out)).trans X4.out)
    have B2 := Lib.hid (BB.out.trans (b2.mono BB.out.size))
    clear e4 e5 e6 e7 e8 ze
    clear PU ro rs rt b2 s0 s1 zs BB X2 X3
    have m0 := cell_at X4.out 0
    have m1 := cell_at X4.out 1
    have fr := fun i => free_at X4.out i
    have zm := szs (block_lt X4.out)
    go_wp2_with fail
    show bodyPost _ _ _ Exit.ret _ _
    have KZ := put2 X4.out (.slice sa2 n sc2) (.slice ta2 k tc2)
    have OZ := off2 w2 (w.heap.size + 1 + 1) (.slice sa2 n sc2) (.slice ta2 k tc2)
    have RZ := Lib.hid (Row.off RS.out OZ (fun gg hgg h => by have := (World.ownsRow.lt RS.out gg hgg).1; have := HL1.out; have h : gg = w.heap.size + 1 + 1 := h; omega))
    have TZ := Lib.hid (Row.off RT.out OZ (fun gg hgg h => by have := (World.ownsRow.lt RT.out gg hgg).1; have := HL1.out; have h : gg = w.heap.size + 1 + 1 := h; omega))
    have BZ := Lib.hid (B2.out.trans (OZ.toBelow B2.out.size (fun q hq h => by have h : q = w.heap.size + 1 + 1 := h; omega)))
    clear fr zm m0 m1 OZ RS RT X4 B2
    generalize World.setCell (World.setCell w2 _ _) _ _ = w9 at *
    have k0 := cell_at KZ 0
    have k1 := cell_at KZ 1
    have zk := szs (block_lt KZ)
    exact bodyPost_ret (v := .agg #[(.slice sa2 n sc2), (.slice ta2 k tc2)]) (by simp [results, Tryz.results59, go_sem, k0, k1]) rfl ⟨_, _, rfl, by rw [HAP.out]; exact ⟨Row.base_mono RZ.out (by have := HL1.out; omega), Row.base_mono TZ.out (by have := HL1.out; omega)⟩, BZ.out⟩
  by_cases k9 : v5 = 9
  · subst k9
    have PU := putR88 HIN.out HI.out hn hkk hb (⟨6, 0, 0, false⟩ : Sp)
    rw [HSK.out] at PU
    dsimp only at PU
    replace PU := Lib.hid PU
    have HAP : Hid (applyK s ⟨v1, v2, v3, v4, 9, (b : Int), v7, v8, v9⟩ = ⟨(putS s b (⟨6, 0, 0, false⟩ : Sp)).F, k, (putS s b (⟨6, 0, 0, false⟩ : Sp)).G⟩) := Lib.hid (by rw [← HSK.out]; unfold applyK; simp; rfl)
    clear HFK HIN
    go_wp2_with fail
    rw [← HW1.out]
    refine PU.out.mono ?_
    rintro e w2 ⟨sv, tv, rfl, ro, b2⟩
    have rs := ro.sp
    have rt : TrR w2 w1.heap.size tv k (putS s b (⟨6, 0, 0, false⟩ : Sp)).G := by have := ro.tr; rwa [show (putS s b (⟨6, 0, 0, false⟩ : Sp)).k = k from HSK.out] at this
    obtain ⟨sa2, sc2, rfl, _⟩ := Row.toSl rs (spf_len _)
    obtain ⟨ta2, tc2, rfl, _⟩ := Row.toSl rt (trf_len _)
    have RS := Lib.hid rs
    have RT := Lib.hid rt
    replace X4 := Lib.hid ((b2.block _ (block_lt X4.out)).trans X4.out)
    have B2 := Lib.hid (BB.out.trans (b2.mono BB.out.size))
    clear e4 e5 e6 e7 e8 ze
    clear PU ro rs rt b2 s0 s1 zs BB X2 X3
    have m0 := cell_at X4.out 0
    have m1 := cell_at X4.out 1
    have fr := fun i => free_at X4.out i
    have zm := szs (block_lt X4.out)
    go_wp2_with fail
    show bodyPost _ _ _ Exit.ret _ _
    have KZ := put2 X4.out (.slice sa2 n sc2) (.slice ta2 k tc2)
    have OZ := off2 w2 (w.heap.size + 1 + 1) (.slice sa2 n sc2) (.slice ta2 k tc2)
    have RZ := Lib.hid (Row.off RS.out OZ (fun gg hgg h => by have := (World.ownsRow.lt RS.out gg hgg).1; have := HL1.out; have h : gg = w.heap.size + 1 + 1 := h; omega))
    have TZ := Lib.hid (Row.off RT.out OZ (fun gg hgg h => by have := (World.ownsRow.lt RT.out gg hgg).1; have := HL1.out; have h : gg = w.heap.size + 1 + 1 := h; omega))
    have BZ := Lib.hid (B2.out.trans (OZ.toBelow B2.out.size (fun q hq h => by have h : q = w.heap.size + 1 + 1 := h; omega)))
    clear fr zm m0 m1 OZ RS RT X4 B2
    generalize World.setCell (World.setCell w2 _ _) _ _ = w9 at *
    have k0 := cell_at KZ 0
    have k1 := cell_at KZ 1
    have zk := szs (block_lt KZ)
    exact bodyPost_ret (v := .agg #[(.slice sa2 n sc2), (.slice ta2 k tc2)]) (by simp [results, Tryz.results59, go_sem, k0, k1]) rfl ⟨_, _, rfl, by rw [HAP.out]; exact ⟨Row.base_mono RZ.out (by have := HL1.out; omega), Row.base_mono TZ.out (by have := HL1.out; omega)⟩, BZ.out⟩
  by_cases k5 : v5 = 5
  · subst k5
    have HAP : Hid (applyK s ⟨v1, v2, v3, v4, 5, (b : Int), v7, v8, v9⟩ = ⟨upd s.F b { s.F b with ps := true }, k, s.G⟩) := Lib.hid (by rw [← HSK.out]; unfold applyK; simp)
    have CP := copiedR89 HIN.out (by omega) (by omega)
    rw [HSK.out] at CP
    replace CP := Lib.hid CP
    go_wp2_with fail
    rw [← HW1.out]
    refine CP.out.mono ?_
    rintro e w2 ⟨sv, tv, rfl, ro, b2⟩
    have rs := ro.sp
    have rt : TrR w2 w1.heap.size tv k s.G := by have := ro.tr; rwa [HSK.out] at this
    rcases Row.shape rs with ⟨_, h0⟩ | ⟨g, c2, rfl, hg1, hg2, hg3, hg4⟩
    · omega
    obtain ⟨ta2, tc2, rfl, _⟩ := Row.toSl rt (trf_len _)
    have b3 : Below w2.heap.size w2 (w2.alloc (.cells #[.slice (some ⟨g, 0, none⟩) n c2, .slice ta2 k tc2] 122)) := by (repeat' (first | (with_reducible exact Below.refl _ _) | (with_reducible assumption) | (with_reducible refine Below.drew ?_) | (with_reducible refine below_drewN ?_ _) | (with_reducible refine Below.alloc ?_ ?_ _) | (with_reducible refine Below.setCell ?_ ?_ _) | go_size))
    have X5 := Lib.hid (al_at w2 (.cells #[.slice (some ⟨g, 0, none⟩) n c2, .slice ta2 k tc2] 122) rfl)
    have hg4 : c2 ≤ 9223372036854775807 := by unfold maxLen at hg4; omega
    have tb : (b : Int) < (n : Int) := by omega
    have B2 := Lib.hid (b2.trans (b3.mono b2.size))
    have HW2 : Hid (g < w2.heap.size ∧ w1.heap.size ≤ g ∧ w.heap.size + 1 + 1 < w1.heap.size) := Lib.hid ⟨hg2, hg1, block_lt X4.out⟩
    have RS := Lib.hid (Row.off (X := fun _ => False) rs (Off.of_below b3) (fun _ _ h => h))
    have RT := Lib.hid (Row.off (X := fun _ => False) rt (Off.of_below b3) (fun _ _ h => h))
    obtain ⟨w3, hw3⟩ : ∃ w3, w3 = w2.alloc (.cells #[.slice (some ⟨g, 0, none⟩) n c2, .slice ta2 k tc2] 122) := ⟨_, rfl⟩
    have HW3 := Lib.hid hw3
    rw [← hw3] at B2 X5 RS RT
    replace X2 := Lib.hid ((B2.out.block _ (block_lt X2.out)).trans X2.out)
    replace X3 := Lib.hid ((B2.out.block _ (block_lt X3.out)).trans X3.out)
    replace X4 := Lib.hid ((B2.out.block _ (block_lt X4.out)).trans X4.out)
    have HIN3 := Lib.hid (HIN.out.below B2.out)
    replace B2 := Lib.hid (BB.out.trans (B2.out.mono BB.out.size))
    clear e4 e5 e6 e7 e8 ze
    clear s0 s1 zs ro rs rt hg2 b2 b3 BB HIN hg1 hw3 CP
    go_simp
    iterate 10 go_step
    rw [← HW3.out]
    clear HW3
    have e4 := cell_at X3.out 4
    have e5 := cell_at X3.out 5
    have e6 := cell_at X3.out 6
    have e7 := cell_at X3.out 7
    have e8 := cell_at X3.out 8
    have ze := szs (block_lt X3.out)
    have c0 := cell_at X5.out 0
    have zc := szs (block_lt X5.out)
    obtain ⟨z0, z1, z2, z3⟩ := SpR.spot RS.out hb
    have zg := szs (cell_lt z0)
    dsimp only at zg
    have frg := fun i => Row.free RS.out i
    have o4 : Off (fun q => q = g) w3 (w3.setCell ⟨g, b * 4 + 3, none⟩ (.bool true)) := (Off.refl (fun q => q = g) w3).setCell (p := ⟨g, b * 4 + 3, none⟩) (fun _ => rfl) _
    have r4 := SpR.one RS.out hb 3 (by decide) (.bool true) { s.F b with ps := true } rfl
    replace RT := Lib.hid (Row.off RT.out o4 (fun gg hgg h => Row.ne2 RS.out RT.out (by decide) rfl hgg h))
    replace X4 := Lib.hid ((o4.block _ (block_lt X4.out) (fun h => Row.ne RS.out rfl X4.out (by decide) h.symm)).trans X4.out)
    replace X5 := Lib.hid ((o4.block _ (block_lt X5.out) (fun h => Row.ne RS.out rfl X5.out (by decide) h.symm)).trans X5.out)
    replace B2 := Lib.hid (B2.out.trans (o4.toBelow B2.out.size (fun q hq h => by have h : q = g := h; have := HW2.out; omega)))
    replace RS := Lib.hid r4
    have d0 := cell_at X5.out 0
    have d1 := cell_at X5.out 1
    clear o4 r4 X2 X3
    have m0 := cell_at X4.out 0
    have m1 := cell_at X4.out 1
    have fr := fun i => free_at X4.out i
    have zm := szs (block_lt X4.out)
    go_wp2_with fail
    show bodyPost _ _ _ Exit.ret _ _
    have KZ := put2 X4.out (.slice (some ⟨g, 0, none⟩) n c2) (.slice ta2 k tc2)
    have OZ := off2 (w3.setCell ⟨g, b * 4 + 3, none⟩ (.bool true)) (w.heap.size + 1 + 1) (.slice (some ⟨g, 0, none⟩) n c2) (.slice ta2 k tc2)
    have RZ := Lib.hid (Row.off RS.out OZ (fun gg hgg h => by have := (World.ownsRow.lt RS.out gg hgg).1; have := HL1.out; have h : gg = w.heap.size + 1 + 1 := h; omega))
    have TZ := Lib.hid (Row.off RT.out OZ (fun gg hgg h => by have := (World.ownsRow.lt RT.out gg hgg).1; have := HL1.out; have h : gg = w.heap.size + 1 + 1 := h; omega))
    have BZ := Lib.hid (B2.out.trans (OZ.toBelow B2.out.size (fun q hq h => by have h : q = w.heap.size + 1 + 1 := h; omega)))
    clear fr zm m0 m1 OZ RS RT X4 B2
    generalize World.setCell (World.setCell (w3.setCell ⟨g, b * 4 + 3, none⟩ (.bool true)) _ _) _ _ = w9 at *
    have k0 := cell_at KZ 0
    have k1 := cell_at KZ 1
    have zk := szs (block_lt KZ)
    exact bodyPost_ret (v := .agg #[(.slice (some ⟨g, 0, none⟩) n c2), (.slice ta2 k tc2)]) (by simp [results, Tryz.results59, go_sem, k0, k1]) rfl ⟨_, _, rfl, by rw [HAP.out]; exact ⟨Row.base_mono RZ.out (by have := HL1.out; omega), Row.base_mono TZ.out (by have := HL1.out; omega)⟩, BZ.out⟩
  by_cases k6 : v5 = 6
  · subst k6
    have HAP : Hid (applyK s ⟨v1, v2, v3, v4, 6, (b : Int), v7, v8, v9⟩ = ⟨upd s.F b { s.F b with ps := false }, k, s.G⟩) := Lib.hid (by rw [← HSK.out]; unfold applyK; simp)
    have CP := copiedR89 HIN.out (by omega) (by omega)
    rw [HSK.out] at CP
    replace CP := Lib.hid CP
    go_wp2_with fail
    rw [← HW1.out]
    refine CP.out.mono ?_
    rintro e w2 ⟨sv, tv, rfl, ro, b2⟩
    have rs := ro.sp
    have rt : TrR w2 w1.heap.size tv k s.G := by have := ro.tr; rwa [HSK.out] at this
    rcases Row.shape rs with ⟨_, h0⟩ | ⟨g, c2, rfl, hg1, hg2, hg3, hg4⟩
    · omega
    obtain ⟨ta2, tc2, rfl, _⟩ := Row.toSl rt (trf_len _)
    have b3 : Below w2.heap.size w2 (w2.alloc (.cells #[.slice (some ⟨g, 0, none⟩) n c2, .slice ta2 k tc2] 122)) := by (repeat' (first | (with_reducible exact Below.refl _ _) | (with_reducible assumption) | (with_reducible refine Below.drew ?_) | (with_reducible refine below_drewN ?_ _) | (with_reducible refine Below.alloc ?_ ?_ _) | (with_reducible refine Below.setCell ?_ ?_ _) | go_size))
    have X5 := Lib.hid (al_at w2 (.cells #[.slice (some ⟨g, 0, none⟩) n c2, .slice ta2 k tc2] 122) rfl)
    have hg4 : c2 ≤ 9223372036854775807 := by unfold maxLen at hg4; omega
    have tb : (b : Int) < (n : Int) := by omega
    have B2 := Lib.hid (b2.trans (b3.mono b2.size))
    have HW2 : Hid (g < w2.heap.size ∧ w1.heap.size ≤ g ∧ w.heap.size + 1 + 1 < w1.heap.size) := Lib.hid ⟨hg2, hg1, block_lt X4.out⟩
    have RS := Lib.hid (Row.off (X := fun _ => False) rs (Off.of_below b3) (fun _ _ h => h))
    have RT := Lib.hid (Row.off (X := fun _ => False) rt (Off.of_below b3) (fun _ _ h => h))
    obtain ⟨w3, hw3⟩ : ∃ w3, w3 = w2.alloc (.cells #[.slice (some ⟨g, 0, none⟩) n c2, .slice ta2 k tc2] 122) := ⟨_, rfl⟩
    have HW3 := Lib.hid hw3
    rw [← hw3] at B2 X5 RS RT
    replace X2 := Lib.hid ((B2.out.block _ (block_lt X2.out)).trans X2.out)
    replace X3 := Lib.hid ((B2.out.block _ (block_lt X3.out)).trans X3.out)
    replace X4 := Lib.hid ((B2.out.block _ (block_lt X4.out)).trans X4.out)
    have HIN3 := Lib.hid (HIN.out.below B2.out)
    replace B2 := Lib.hid (BB.out.trans (B2.out.mono BB.out.size))
    clear e4 e5 e6 e7 e8 ze
    clear s0 s1 zs ro rs rt hg2 b2 b3 BB HIN hg1 hw3 CP
    go_simp
    iterate 10 go_step
    rw [← HW3.out]
    clear HW3
    have e4 := cell_at X3.out 4
    have e5 := cell_at X3.out 5
    have e6 := cell_at X3.out 6
    have e7 := cell_at X3.out 7
    have e8 := cell_at X3.out 8
    have ze := szs (block_lt X3.out)
    have c0 := cell_at X5.out 0
    have zc := szs (block_lt X5.out)
    obtain ⟨z0, z1, z2, z3⟩ := SpR.spot RS.out hb
    have zg := szs (cell_lt z0)
    dsimp only at zg
    have frg := fun i => Row.free RS.out i
    have o4 : Off (fun q => q = g) w3 (w3.setCell ⟨g, b * 4 + 3, none⟩ (.bool false)) := (Off.refl (fun q => q = g) w3).setCell (p := ⟨g, b * 4 + 3, none⟩) (fun _ => rfl) _
    have r4 := SpR.one RS.out hb 3 (by decide) (.bool false) { s.F b with ps := false } rfl
    replace RT := Lib.hid (Row.off RT.out o4 (fun gg hgg h => Row.ne2 RS.out RT.out (by decide) rfl hgg h))
    replace X4 := Lib.hid ((o4.block _ (block_lt X4.out) (fun h => Row.ne RS.out rfl X4.out (by decide) h.symm)).trans X4.out)
    replace X5 := Lib.hid ((o4.block _ (block_lt X5.out) (fun h => Row.ne RS.out rfl X5.out (by decide) h.symm)).trans X5.out)
    replace B2 := Lib.hid (B2.out.trans (o4.toBelow B2.out.size (fun q hq h => by have h : q = g := h; have := HW2.out; omega)))
    replace RS := Lib.hid r4
    have d0 := cell_at X5.out 0
    have d1 := cell_at X5.out 1
    clear o4 r4 X2 X3
    have m0 := cell_at X4.out 0
    have m1 := cell_at X4.out 1
    have fr := fun i => free_at X4.out i
    have zm := szs (block_lt X4.out)
    go_wp2_with fail
    show bodyPost _ _ _ Exit.ret _ _
    have KZ := put2 X4.out (.slice (some ⟨g, 0, none⟩) n c2) (.slice ta2 k tc2)
    have OZ := off2 (w3.setCell ⟨g, b * 4 + 3, none⟩ (.bool false)) (w.heap.size + 1 + 1) (.slice (some ⟨g, 0, none⟩) n c2) (.slice ta2 k tc2)
    have RZ := Lib.hid (Row.off RS.out OZ (fun gg hgg h => by have := (World.ownsRow.lt RS.out gg hgg).1; have := HL1.out; have h : gg = w.heap.size + 1 + 1 := h; omega))
    have TZ := Lib.hid (Row.off RT.out OZ (fun gg hgg h => by have := (World.ownsRow.lt RT.out gg hgg).1; have := HL1.out; have h : gg = w.heap.size + 1 + 1 := h; omega))
    have BZ := Lib.hid (B2.out.trans (OZ.toBelow B2.out.size (fun q hq h => by have h : q = w.heap.size + 1 + 1 := h; omega)))
    clear fr zm m0 m1 OZ RS RT X4 B2
    generalize World.setCell (World.setCell (w3.setCell ⟨g, b * 4 + 3, none⟩ (.bool false)) _ _) _ _ = w9 at *
    have k0 := cell_at KZ 0
    have k1 := cell_at KZ 1
    have zk := szs (block_lt KZ)
    exact bodyPost_ret (v := .agg #[(.slice (some ⟨g, 0, none⟩) n c2), (.slice ta2 k tc2)]) (by simp [results, Tryz.results59, go_sem, k0, k1]) rfl ⟨_, _, rfl, by rw [HAP.out]; exact ⟨Row.base_mono RZ.out (by have := HL1.out; omega), Row.base_mono TZ.out (by have := HL1.out; omega)⟩, BZ.out⟩
  by_cases k3 : v5 = 3
  · subst k3
    have HAP : Hid (applyK s ⟨v1, v2, v3, v4, 3, (b : Int), v7, v8, v9⟩ = ⟨upd s.F b ⟨3, 0, v9, false⟩, k + 1, upd s.G k ⟨v9, v8, (b : Int), true⟩⟩) := Lib.hid (by rw [← HSK.out]; unfold applyK; simp)
    have CP := copiedR89 HIN.out (by omega) (by omega)
    rw [HSK.out] at CP
    replace CP := Lib.hid CP
    go_wp2_with fail
    rw [← HW1.out]
    refine CP.out.mono ?_
    rintro e w2 ⟨sv, tv, rfl, ro, b2⟩
    have rs := ro.sp
    have rt : TrR w2 w1.heap.size tv k s.G := by have := ro.tr; rwa [HSK.out] at this
    rcases Row.shape rs with ⟨_, h0⟩ | ⟨g, c2, rfl, hg1, hg2, hg3, hg4⟩
    · omega
    obtain ⟨ta2, tc2, rfl, _⟩ := Row.toSl rt (trf_len _)
    have b3 : Below w2.heap.size w2 (w2.alloc (.cells #[.slice (some ⟨g, 0, none⟩) n c2, .slice ta2 k tc2] 122)) := by (repeat' (first | (with_reducible exact Below.refl _ _) | (with_reducible assumption) | (with_reducible refine Below.drew ?_) | (with_reducible refine below_drewN ?_ _) | (with_reducible refine Below.alloc ?_ ?_ _) | (with_reducible refine Below.setCell ?_ ?_ _) | go_size))
    have X5 := Lib.hid (al_at w2 (.cells #[.slice (some ⟨g, 0, none⟩) n c2, .slice ta2 k tc2] 122) rfl)
    have hg4 : c2 ≤ 9223372036854775807 := by unfold maxLen at hg4; omega
    have tb : (b : Int) < (n : Int) := by omega
    have B2 := Lib.hid (b2.trans (b3.mono b2.size))
    have HW2 : Hid (g < w2.heap.size ∧ w1.heap.size ≤ g ∧ w.heap.size + 1 + 1 < w1.heap.size) := Lib.hid ⟨hg2, hg1, block_lt X4.out⟩
    have RS := Lib.hid (Row.off (X := fun _ => False) rs (Off.of_below b3) (fun _ _ h => h))
    have RT := Lib.hid (Row.off (X := fun _ => False) rt (Off.of_below b3) (fun _ _ h => h))
    obtain ⟨w3, hw3⟩ : ∃ w3, w3 = w2.alloc (.cells #[.slice (some ⟨g, 0, none⟩) n c2, .slice ta2 k tc2] 122) := ⟨_, rfl⟩
    have HW3 := Lib.hid hw3
    rw [← hw3] at B2 X5 RS RT
    replace X2 := Lib.hid ((B2.out.block _ (block_lt X2.out)).trans X2.out)
    replace X3 := Lib.hid ((B2.out.block _ (block_lt X3.out)).trans X3.out)
    replace X4 := Lib.hid ((B2.out.block _ (block_lt X4.out)).trans X4.out)
    have HIN3 := Lib.hid (HIN.out.below B2.out)
    replace B2 := Lib.hid (BB.out.trans (B2.out.mono BB.out.size))
    clear e4 e5 e6 e7 e8 ze
    clear s0 s1 zs ro rs rt hg2 b2 b3 BB HIN hg1 hw3 CP
    go_simp
    iterate 10 go_step
    rw [← HW3.out]
    clear HW3
    have R4 := Lib.hid (SpR.set RS.out hb ⟨3, 0, v9, false⟩)
    have O4 := Lib.hid (off_putCells (X := fun q => q = g) (g := g) rfl (spv ⟨3, 0, v9, false⟩) (b * 4) w3 (Off.refl _ _))
    obtain ⟨w4, hw4⟩ : ∃ w4, w4 = (((w3.setCell ⟨g, b * 4, none⟩ (.int .i64 3)).setCell ⟨g, b * 4 + 1, none⟩ (.int .i64 0)).setCell ⟨g, b * 4 + 2, none⟩ (.int .i64 v9)).setCell ⟨g, b * 4 + 3, none⟩ (.bool false) := ⟨_, rfl⟩
    have e4 : putCells w3 g (b * 4) (spv ⟨3, 0, v9, false⟩) = w4 := by rw [hw4]; rfl
    rw [e4] at R4 O4
    have HW4 := Lib.hid hw4
    clear hw4 e4
    have e4 := cell_at X3.out 4
    have e5 := cell_at X3.out 5
    have e6 := cell_at X3.out 6
    have e7 := cell_at X3.out 7
    have e8 := cell_at X3.out 8
    have ze := szs (block_lt X3.out)
    have c0 := cell_at X5.out 0
    have zc := szs (block_lt X5.out)
    obtain ⟨z0, z1, z2, z3⟩ := SpR.spot RS.out hb
    have zg := szs (cell_lt z0)
    dsimp only at zg
    have frg := fun i => Row.free RS.out i
    iterate 60 go_step
    rw [← HW4.out]
    clear e4 e5 e6 e7 e8 ze
    clear HW4 frg z0 z1 z2 z3 zg c0 zc
    replace RT := Lib.hid (Row.off RT.out O4.out (fun gg hgg h => Row.ne2 RS.out RT.out (by decide) rfl hgg h))
    replace X3 := Lib.hid ((O4.out.block _ (block_lt X3.out) (fun h => Row.ne RS.out rfl X3.out (by decide) h.symm)).trans X3.out)
    replace X4 := Lib.hid ((O4.out.block _ (block_lt X4.out) (fun h => Row.ne RS.out rfl X4.out (by decide) h.symm)).trans X4.out)
    replace X5 := Lib.hid ((O4.out.block _ (block_lt X5.out) (fun h => Row.ne RS.out rfl X5.out (by decide) h.symm)).trans X5.out)
    replace B2 := Lib.hid (B2.out.trans (O4.out.toBelow B2.out.size (fun q hq h => by have h : q = g := h; have := HW2.out; omega)))
    replace RS := R4
    clear O4 R4 X2
    have BA : Below w4.heap.size w4 (w4.alloc (.cells #[.int .i64 v9, .int .i64 v8, .int .i64 (b : Int), .bool true] 163)) := by (repeat' (first | (with_reducible exact Below.refl _ _) | (with_reducible assumption) | (with_reducible refine Below.drew ?_) | (with_reducible refine below_drewN ?_ _) | (with_reducible refine Below.alloc ?_ ?_ _) | (with_reducible refine Below.setCell ?_ ?_ _) | go_size))
    have XB := Lib.hid (al_at w4 (.cells #[.int .i64 v9, .int .i64 v8, .int .i64 (b : Int), .bool true] 163) rfl)
    replace RT := Lib.hid (Row.off (X := fun _ => False) RT.out (Off.of_below BA) (fun _ _ h => h))
    replace RS := Lib.hid (Row.off (X := fun _ => False) RS.out (Off.of_below BA) (fun _ _ h => h))
    have hle : w1.heap.size ≤ (w4.alloc (.cells #[.int .i64 v9, .int .i64 v8, .int .i64 (b : Int), .bool true] 163)).heap.size := by have h1 := (World.ownsRow.lt RS.out g rfl).2; have := HW2.out; omega
    have e4 := cell_at X3.out 4
    have e5 := cell_at X3.out 5
    have e6 := cell_at X3.out 6
    have e7 := cell_at X3.out 7
    have e8 := cell_at X3.out 8
    have ze := szs (block_lt X3.out)
    have c1 := cell_at X5.out 1
    have zc := szs (block_lt X5.out)
    replace X4 := Lib.hid ((BA.block _ (block_lt X4.out)).trans X4.out)
    replace X5 := Lib.hid ((BA.block _ (block_lt X5.out)).trans X5.out)
    replace B2 := Lib.hid (B2.out.trans (BA.mono B2.out.size))
    clear BA
    go_wp2_with (at_builtin; go_loud (refine wpList_append_Tr _ rfl (.tmp 65) (.tmp 73) rfl w1.heap.size _ k s.G rfl RT.out w4.heap.size ⟨v9, v8, (b : Int), true⟩ rfl 163 (0, 0) XB.out (by have := HSK.out; omega) hle ?_))
    intro g5 c5 w5 kk1 kk2 r5 o5
    replace X4 := Lib.hid ((o5.block _ (block_lt X4.out) (fun h => Row.ne RT.out h X4.out (by decide) rfl)).trans X4.out)
    replace X5 := Lib.hid ((o5.block _ (block_lt X5.out) (fun h => Row.ne RT.out h X5.out (by decide) rfl)).trans X5.out)
    replace RS := Lib.hid (Row.off RS.out o5 (fun gg hgg h => Row.ne2 RT.out RS.out (by decide) h hgg rfl))
    replace B2 := Lib.hid (B2.out.trans (o5.toBelow B2.out.size (fun q hq h => by have := (World.ownsRow.lt RT.out q h).1; have := HW2.out; omega)))
    replace RT := Lib.hid r5
    clear e4 e5 e6 e7 e8 ze
    clear c1 zc XB r5 o5 hle
    have o6 : Off (fun q => q = w2.heap.size) w5 (w5.setCell ⟨w2.heap.size, 1, none⟩ (.slice (some ⟨g5, 0, none⟩) (k + 1) c5)) := (Off.refl (fun q => q = w2.heap.size) w5).setCell (p := ⟨w2.heap.size, 1, none⟩) (fun _ => rfl) _
    have h6 : (w5.setCell ⟨w2.heap.size, 1, none⟩ (.slice (some ⟨g5, 0, none⟩) (k + 1) c5)).heap[w2.heap.size]? = some (.cells #[.slice (some ⟨g, 0, none⟩) n c2, .slice (some ⟨g5, 0, none⟩) (k + 1) c5] 122 (0, 0)) := by
      rw [setCell_at X5.out, setAt_same (block_lt X5.out)]; rfl
    have c0 := cell_at X5.out 0
    have c1 := cell_at X5.out 1
    have fr5 := fun i => free_at X5.out i
    have zc := szs (block_lt X5.out)
    replace RS := Lib.hid (Row.off RS.out o6 (fun gg hgg h => Row.ne RS.out hgg X5.out (by decide) h))
    replace RT := Lib.hid (Row.off RT.out o6 (fun gg hgg h => Row.ne RT.out hgg X5.out (by decide) h))
    replace X4 := Lib.hid ((o6.block _ (block_lt X4.out) (fun h => by have h : w.heap.size + 1 + 1 = w2.heap.size := h; have := HW2.out; omega)).trans X4.out)
    replace B2 := Lib.hid (B2.out.trans (o6.toBelow B2.out.size (fun q hq h => by have h : q = w2.heap.size := h; have := HW2.out; omega)))
    have d0 := cell_at h6 0
    have d1 := cell_at h6 1
    clear X5 h6 o6 X3
    have m0 := cell_at X4.out 0
    have m1 := cell_at X4.out 1
    have fr := fun i => free_at X4.out i
    have zm := szs (block_lt X4.out)
    go_wp2_with fail
    show bodyPost _ _ _ Exit.ret _ _
    have KZ := put2 X4.out (.slice (some ⟨g, 0, none⟩) n c2) (.slice (some ⟨g5, 0, none⟩) (k + 1) c5)
    have OZ := off2 (w5.setCell ⟨w2.heap.size, 1, none⟩ (.slice (some ⟨g5, 0, none⟩) (k + 1) c5)) (w.heap.size + 1 + 1) (.slice (some ⟨g, 0, none⟩) n c2) (.slice (some ⟨g5, 0, none⟩) (k + 1) c5)
    have RZ := Lib.hid (Row.off RS.out OZ (fun gg hgg h => by have := (World.ownsRow.lt RS.out gg hgg).1; have := HL1.out; have h : gg = w.heap.size + 1 + 1 := h; omega))
    have TZ := Lib.hid (Row.off RT.out OZ (fun gg hgg h => by have := (World.ownsRow.lt RT.out gg hgg).1; have := HL1.out; have h : gg = w.heap.size + 1 + 1 := h; omega))
    have BZ := Lib.hid (B2.out.trans (OZ.toBelow B2.out.size (fun q hq h => by have h : q = w.heap.size + 1 + 1 := h; omega)))
    clear fr zm m0 m1 OZ RS RT X4 B2
    generalize World.setCell (World.setCell (w5.setCell ⟨w2.heap.size, 1, none⟩ (.slice (some ⟨g5, 0, none⟩) (k + 1) c5)) _ _) _ _ = w9 at *
    have k0 := cell_at KZ 0
    have k1 := cell_at KZ 1
    have zk := szs (block_lt KZ)
    exact bodyPost_ret (v := .agg #[(.slice (some ⟨g, 0, none⟩) n c2), (.slice (some ⟨g5, 0, none⟩) (k + 1) c5)]) (by simp [results, Tryz.results59, go_sem, k0, k1]) rfl ⟨_, _, rfl, by rw [HAP.out]; exact ⟨Row.base_mono RZ.out (by have := HL1.out; omega), Row.base_mono TZ.out (by have := HL1.out; omega)⟩, BZ.out⟩
  by_cases k4 : v5 = 4
  · subst k4
    obtain ⟨_, i, hi, hfi, hid, hop, _⟩ := fault_swap HFK.out rfl
    obtain ⟨a, ha, han, _, _⟩ := HI.out.opn i hi hop
    have HAP : Hid (applyK s ⟨v1, v2, v3, v4, 4, (b : Int), v7, v8, v9⟩ = ⟨upd (upd s.F a (s.F b)) b ⟨3, 0, v9, false⟩, k, upd s.G i { s.G i with bike := (b : Int) }⟩) := Lib.hid (by
      have e1 : findI s.G v9 s.k = (i : Int) := hfi
      rw [← HSK.out]; unfold applyK; simp [e1, ha])
    have HIK := Lib.hid hi
    rw [HSK.out] at hi hfi
    dsimp only at hfi
    have HFI := Lib.hid hfi
    clear hid hop hfi
    have CP := copiedR89 HIN.out (by omega) (by omega)
    rw [HSK.out] at CP
    replace CP := Lib.hid CP
    go_wp2_with fail
    rw [← HW1.out]
    refine CP.out.mono ?_
    rintro e w2 ⟨sv, tv, rfl, ro, b2⟩
    have rs := ro.sp
    have rt : TrR w2 w1.heap.size tv k s.G := by have := ro.tr; rwa [HSK.out] at this
    rcases Row.shape rs with ⟨_, h0⟩ | ⟨g, c2, rfl, hg1, hg2, hg3, hg4⟩
    · omega
    obtain ⟨ta2, tc2, rfl, _⟩ := Row.toSl rt (trf_len _)
    have b3 : Below w2.heap.size w2 (w2.alloc (.cells #[.slice (some ⟨g, 0, none⟩) n c2, .slice ta2 k tc2] 122)) := by (repeat' (first | (with_reducible exact Below.refl _ _) | (with_reducible assumption) | (with_reducible refine Below.drew ?_) | (with_reducible refine below_drewN ?_ _) | (with_reducible refine Below.alloc ?_ ?_ _) | (with_reducible refine Below.setCell ?_ ?_ _) | go_size))
    have X5 := Lib.hid (al_at w2 (.cells #[.slice (some ⟨g, 0, none⟩) n c2, .slice ta2 k tc2] 122) rfl)
    have hg4 : c2 ≤ 9223372036854775807 := by unfold maxLen at hg4; omega
    have tb : (b : Int) < (n : Int) := by omega
    have B2 := Lib.hid (b2.trans (b3.mono b2.size))
    have HW2 : Hid (g < w2.heap.size ∧ w1.heap.size ≤ g ∧ w.heap.size + 1 + 1 < w1.heap.size) := Lib.hid ⟨hg2, hg1, block_lt X4.out⟩
    have RS := Lib.hid (Row.off (X := fun _ => False) rs (Off.of_below b3) (fun _ _ h => h))
    have RT := Lib.hid (Row.off (X := fun _ => False) rt (Off.of_below b3) (fun _ _ h => h))
    obtain ⟨w3, hw3⟩ : ∃ w3, w3 = w2.alloc (.cells #[.slice (some ⟨g, 0, none⟩) n c2, .slice ta2 k tc2] 122) := ⟨_, rfl⟩
    have HW3 := Lib.hid hw3
    rw [← hw3] at B2 X5 RS RT
    replace X2 := Lib.hid ((B2.out.block _ (block_lt X2.out)).trans X2.out)
    replace X3 := Lib.hid ((B2.out.block _ (block_lt X3.out)).trans X3.out)
    replace X4 := Lib.hid ((B2.out.block _ (block_lt X4.out)).trans X4.out)
    have HIN3 := Lib.hid (HIN.out.below B2.out)
    replace B2 := Lib.hid (BB.out.trans (B2.out.mono BB.out.size))
    clear e4 e5 e6 e7 e8 ze
    clear s0 s1 zs ro rs rt hg2 b2 b3 BB HIN hg1 hw3 CP
    go_simp
    iterate 10 go_step
    rw [← HW3.out]
    clear HW3
    rcases Row.shape RT.out with ⟨_, h0⟩ | ⟨gt, c9, ht, _, hgt, hk9, hk99⟩
    · omega
    cases ht
    have hk99 : tc2 ≤ 9223372036854775807 := by unfold maxLen at hk99; omega
    have FN := Lib.hid (findR90 HIN3.out v9)
    rw [HSK.out, HFI.out] at FN
    have e4 := cell_at X3.out 4
    have e5 := cell_at X3.out 5
    have e6 := cell_at X3.out 6
    have e7 := cell_at X3.out 7
    have e8 := cell_at X3.out 8
    have ze := szs (block_lt X3.out)
    have s0 := cell_at X2.out 0
    have s1 := cell_at X2.out 1
    have zs := szs (block_lt X2.out)
    go_wp2_with fail
    refine FN.out.mono ?_
    rintro e w4 ⟨rfl, b4⟩
    clear e4 e5 e6 e7 e8 ze
    clear s0 s1 zs FN
    replace X2 := Lib.hid ((b4.block _ (block_lt X2.out)).trans X2.out)
    replace X3 := Lib.hid ((b4.block _ (block_lt X3.out)).trans X3.out)
    replace X4 := Lib.hid ((b4.block _ (block_lt X4.out)).trans X4.out)
    replace X5 := Lib.hid ((b4.block _ (block_lt X5.out)).trans X5.out)
    replace RS := Lib.hid (Row.off (X := fun _ => False) RS.out (Off.of_below b4) (fun _ _ h => h))
    replace RT := Lib.hid (Row.off (X := fun _ => False) RT.out (Off.of_below b4) (fun _ _ h => h))
    replace B2 := Lib.hid (B2.out.trans (b4.mono B2.out.size))
    have HIN4 := Lib.hid (HIN3.out.below b4)
    have tik : (i : Int) < (k : Int) := by omega
    have tan : (a : Int) < (n : Int) := by omega
    obtain ⟨h8, o8, rfl, hh8, _, _, u2, _⟩ := HIN4.out.tr.trip HIK.out
    obtain ⟨h9, o9, rfl, hh9, y0, y1, y2, y3⟩ := HIN4.out.sp.spot hb
    rw [ha] at u2
    have hsm := HIN4.out.sp.hm
    have hsc := HIN4.out.sp.hc
    have htm := HIN4.out.tr.hm
    have htc := HIN4.out.tr.hc
    rw [HSK.out] at htm
    have z8 := szs hh8
    have z9 := szs hh9
    clear b4 HIN3 hgt
    obtain ⟨x, hx⟩ : ∃ x, x = s.F b := ⟨_, rfl⟩
    rw [← hx] at y0 y1 y2 y3 HAP
    clear hx
    obtain ⟨x1, x2, x3, x4⟩ := x
    dsimp only at y0 y1 y2 y3
    have e4 := cell_at X3.out 4
    have e5 := cell_at X3.out 5
    have e6 := cell_at X3.out 6
    have e7 := cell_at X3.out 7
    have e8 := cell_at X3.out 8
    have ze := szs (block_lt X3.out)
    have s0 := cell_at X2.out 0
    have s1 := cell_at X2.out 1
    have zs := szs (block_lt X2.out)
    have c0 := cell_at X5.out 0
    have zc := szs (block_lt X5.out)
    go_wp2_with fail
    (refine region_order (fun i : Nat => World.drewN _ i) [] [0, 1, 2, 3, 4, 5, 6, 7, 8, 9, 10, 11, 12, 13, 14] 15 [] mixed (by kernel_rfl) ⟨1, rfl⟩ ?_; simp only [List.map_cons, List.map_nil, Array.getD_eq_getD_getElem?, List.getElem?_toArray, List.getElem?_cons_zero, List.getElem?_cons_succ, Option.getD_some]; (repeat (refine wpPure_cons _ rfl (fun w' => by go_simp; try rfl) ?_; dsimp only [Act.put])); refine wpPure_nil ?_; (repeat (any_goals (first | go_big_quiet_step (fail) | quiet_step (fail) | (refine wpQuiet_step (fun K hK => ?_); go_simp; split <;> (refine hK _ ?_; clear hK K))))); (all_goals (refine wpQuiet_nil (fun nq => ?_))))
    have b5 : Below w4.heap.size w4 (w4.drewN nq) := below_drewN (Below.refl _ _) nq
    replace X2 := Lib.hid ((b5.block _ (block_lt X2.out)).trans X2.out)
    replace X3 := Lib.hid ((b5.block _ (block_lt X3.out)).trans X3.out)
    replace X4 := Lib.hid ((b5.block _ (block_lt X4.out)).trans X4.out)
    replace X5 := Lib.hid ((b5.block _ (block_lt X5.out)).trans X5.out)
    replace RS := Lib.hid (Row.off (X := fun _ => False) RS.out (Off.of_below b5) (fun _ _ h => h))
    replace RT := Lib.hid (Row.off (X := fun _ => False) RT.out (Off.of_below b5) (fun _ _ h => h))
    replace B2 := Lib.hid (B2.out.trans (b5.mono B2.out.size))
    clear e4 e5 e6 e7 e8 ze
    clear s0 s1 zs c0 zc y0 y1 y2 y3 u2 z8 z9 b5 HIN4 hh8 hh9
    generalize w4.drewN nq = w5 at *
    obtain ⟨z0, z1, z2, z3⟩ := SpR.spot RS.out han
    have zg := szs (cell_lt z0)
    dsimp only at zg
    have frg := fun i => Row.free RS.out i
    have RN := Lib.hid (SpR.set RS.out han ⟨x1, x2, x3, x4⟩)
    have ON := Lib.hid (off_putCells (X := fun q => q = g) (g := g) rfl (spv ⟨x1, x2, x3, x4⟩) (a * 4) w5 (Off.refl _ _))
    obtain ⟨w6, hwn⟩ : ∃ w6, w6 = (((w5.setCell ⟨g, a * 4, none⟩ (.int .i64 x1)).setCell ⟨g, a * 4 + 1, none⟩ (.int .i64 x2)).setCell ⟨g, a * 4 + 2, none⟩ (.int .i64 x3)).setCell ⟨g, a * 4 + 3, none⟩ (.bool x4) := ⟨_, rfl⟩
    have en : putCells w5 g (a * 4) (spv ⟨x1, x2, x3, x4⟩) = w6 := by rw [hwn]; rfl
    rw [en] at RN ON
    have HWN := Lib.hid hwn
    clear hwn en
    go_wp2_with fail
    clear X2
    rw [← HWN.out]
    clear HWN frg z0 z1 z2 z3 zg
    replace RT := Lib.hid (Row.off RT.out ON.out (fun gg hgg h => Row.ne2 RS.out RT.out (by decide) rfl hgg h))
    replace X3 := Lib.hid ((ON.out.block _ (block_lt X3.out) (fun h => Row.ne RS.out rfl X3.out (by decide) h.symm)).trans X3.out)
    replace X4 := Lib.hid ((ON.out.block _ (block_lt X4.out) (fun h => Row.ne RS.out rfl X4.out (by decide) h.symm)).trans X4.out)
    replace X5 := Lib.hid ((ON.out.block _ (block_lt X5.out) (fun h => Row.ne RS.out rfl X5.out (by decide) h.symm)).trans X5.out)
    replace B2 := Lib.hid (B2.out.trans (ON.out.toBelow B2.out.size (fun q hq h => by have h : q = g := h; have := HW2.out; omega)))
    replace RS := RN
    clear ON RN
    refine onlyN_intro ?_
    obtain ⟨z0, z1, z2, z3⟩ := SpR.spot RS.out hb
    have zg := szs (cell_lt z0)
    dsimp only at zg
    have frg := fun i => Row.free RS.out i
    have RN := Lib.hid (SpR.set RS.out hb ⟨3, 0, v9, false⟩)
    have ON := Lib.hid (off_putCells (X := fun q => q = g) (g := g) rfl (spv ⟨3, 0, v9, false⟩) (b * 4) w6 (Off.refl _ _))
    obtain ⟨w7, hwn⟩ : ∃ w7, w7 = (((w6.setCell ⟨g, b * 4, none⟩ (.int .i64 3)).setCell ⟨g, b * 4 + 1, none⟩ (.int .i64 0)).setCell ⟨g, b * 4 + 2, none⟩ (.int .i64 v9)).setCell ⟨g, b * 4 + 3, none⟩ (.bool false) := ⟨_, rfl⟩
    have en : putCells w6 g (b * 4) (spv ⟨3, 0, v9, false⟩) = w7 := by rw [hwn]; rfl
    rw [en] at RN ON
    have HWN := Lib.hid hwn
    clear hwn en
    have e4 := cell_at X3.out 4
    have e5 := cell_at X3.out 5
    have e6 := cell_at X3.out 6
    have e7 := cell_at X3.out 7
    have e8 := cell_at X3.out 8
    have ze := szs (block_lt X3.out)
    have c0 := cell_at X5.out 0
    have zc := szs (block_lt X5.out)
    iterate 34 go_step
    clear e4 e5 e6 e7 e8 ze
    clear c0 zc
    rw [← HWN.out]
    clear HWN frg z0 z1 z2 z3 zg
    replace RT := Lib.hid (Row.off RT.out ON.out (fun gg hgg h => Row.ne2 RS.out RT.out (by decide) rfl hgg h))
    replace X3 := Lib.hid ((ON.out.block _ (block_lt X3.out) (fun h => Row.ne RS.out rfl X3.out (by decide) h.symm)).trans X3.out)
    replace X4 := Lib.hid ((ON.out.block _ (block_lt X4.out) (fun h => Row.ne RS.out rfl X4.out (by decide) h.symm)).trans X4.out)
    replace X5 := Lib.hid ((ON.out.block _ (block_lt X5.out) (fun h => Row.ne RS.out rfl X5.out (by decide) h.symm)).trans X5.out)
    replace B2 := Lib.hid (B2.out.trans (ON.out.toBelow B2.out.size (fun q hq h => by have h : q = g := h; have := HW2.out; omega)))
    replace RS := RN
    clear ON RN
    have e4 := cell_at X3.out 4
    have e5 := cell_at X3.out 5
    have e6 := cell_at X3.out 6
    have e7 := cell_at X3.out 7
    have e8 := cell_at X3.out 8
    have ze := szs (block_lt X3.out)
    have c1 := cell_at X5.out 1
    have zc := szs (block_lt X5.out)
    obtain ⟨t0, t1, t2, t3⟩ := TrR.trip RT.out hi
    have zt := szs (cell_lt t0)
    dsimp only at zt
    have frt := fun i => Row.free RT.out i
    have o8 : Off (fun q => q = gt) w7 (w7.setCell ⟨gt, i * 4 + 2, none⟩ (.int .i64 (b : Int))) := (Off.refl (fun q => q = gt) w7).setCell (p := ⟨gt, i * 4 + 2, none⟩) (fun _ => rfl) _
    have r8 := TrR.one RT.out hi 2 (by decide) (.int .i64 (b : Int)) { s.G i with bike := (b : Int) } rfl
    replace RS := Lib.hid (Row.off RS.out o8 (fun gg hgg h => Row.ne2 RT.out RS.out (by decide) rfl hgg h))
    replace X4 := Lib.hid ((o8.block _ (block_lt X4.out) (fun h => Row.ne RT.out rfl X4.out (by decide) h.symm)).trans X4.out)
    replace X5 := Lib.hid ((o8.block _ (block_lt X5.out) (fun h => Row.ne RT.out rfl X5.out (by decide) h.symm)).trans X5.out)
    replace B2 := Lib.hid (B2.out.trans (o8.toBelow B2.out.size (fun q hq h => by have h : q = gt := h; have := (World.ownsRow.lt RT.out gt rfl).1; have := HW2.out; omega)))
    replace RT := Lib.hid r8
    have d0 := cell_at X5.out 0
    have d1 := cell_at X5.out 1
    clear o8 r8 X3
    have m0 := cell_at X4.out 0
    have m1 := cell_at X4.out 1
    have fr := fun i => free_at X4.out i
    have zm := szs (block_lt X4.out)
    go_wp2_with fail
    show bodyPost _ _ _ Exit.ret _ _
    have KZ := put2 X4.out (.slice (some ⟨g, 0, none⟩) n c2) (.slice (some ⟨gt, 0, none⟩) k tc2)
    have OZ := off2 (w7.setCell ⟨gt, i * 4 + 2, none⟩ (.int .i64 (b : Int))) (w.heap.size + 1 + 1) (.slice (some ⟨g, 0, none⟩) n c2) (.slice (some ⟨gt, 0, none⟩) k tc2)
    have RZ := Lib.hid (Row.off RS.out OZ (fun gg hgg h => by have := (World.ownsRow.lt RS.out gg hgg).1; have := HL1.out; have h : gg = w.heap.size + 1 + 1 := h; omega))
    have TZ := Lib.hid (Row.off RT.out OZ (fun gg hgg h => by have := (World.ownsRow.lt RT.out gg hgg).1; have := HL1.out; have h : gg = w.heap.size + 1 + 1 := h; omega))
    have BZ := Lib.hid (B2.out.trans (OZ.toBelow B2.out.size (fun q hq h => by have h : q = w.heap.size + 1 + 1 := h; omega)))
    clear fr zm m0 m1 OZ RS RT X4 B2
    generalize World.setCell (World.setCell (w7.setCell ⟨gt, i * 4 + 2, none⟩ (.int .i64 (b : Int))) _ _) _ _ = w9 at *
    have k0 := cell_at KZ 0
    have k1 := cell_at KZ 1
    have zk := szs (block_lt KZ)
    exact bodyPost_ret (v := .agg #[(.slice (some ⟨g, 0, none⟩) n c2), (.slice (some ⟨gt, 0, none⟩) k tc2)]) (by simp [results, Tryz.results59, go_sem, k0, k1]) rfl ⟨_, _, rfl, by rw [HAP.out]; exact ⟨Row.base_mono RZ.out (by have := HL1.out; omega), Row.base_mono TZ.out (by have := HL1.out; omega)⟩, BZ.out⟩
  omega
end Go.Proofs.YtlnfhlmgnppcbaaGreat
