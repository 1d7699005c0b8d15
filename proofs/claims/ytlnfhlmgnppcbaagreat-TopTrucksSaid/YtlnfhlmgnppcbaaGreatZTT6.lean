/- The best route for some of the needs. -/
import Derived.Test.YtlnfhlmgnppcbaaGreatZTT5
import Derived.BigQuiet
import Derived.BigRegion
namespace Go.Proofs.YtlnfhlmgnppcbaaGreat
open Go.RowKit Go.ChangeShapes Go.WideShapes Go.Deep
set_option linter.unusedVariables false
set_option linter.unusedSimpArgs false
open Rd
def MostW (g : Ng) (r : Int) (w : World) (e : Ending) (w' : World) : Prop :=
  Below w.heap.size w w' ∧ ∃ (a : Option Addr) (n c : Nat) (R : Nat → Int) (r' x : Int), e = .returned (.tuple #[.agg #[.int .i64 r', .slice a n c], .int .i64 x]) ∧ Sl w' 1 a n c (nf R) ∧ (∀ gb, a = some gb → w.heap.size ≤ gb.block) ∧ (x = 0 → r' = r) ∧ (0 < n → x = 0 ∧ walkE g r R n = 0)
set_option maxRecDepth 8000 in
set_option maxHeartbeats 8000000 in
theorem most79 (g : Ng) (r : Int) (V : Nat → Int) (n : Nat) (a : Option Addr) (c : Nat) (w : World) (hg : g.In w) (hs : Sl w 1 a n c (nf V)) (hn : n ≤ 1000) (hnn : g.nn ≤ 16) :
    Calls Tryz.prog 79 #[.agg g.cells, .int .i64 r, .slice a n c] w (MostW g r w) := by
  have BB : Hid (Below w.heap.size w ((w.alloc (.cells g.cells 32)).alloc (.cells #[.int .i64 0, .slice none 0 0] 51))) := Lib.hid (by (repeat' (first | (with_reducible exact Below.refl _ _) | (with_reducible assumption) | (with_reducible refine Below.drew ?_) | (with_reducible refine below_drewN ?_ _) | (with_reducible refine Below.alloc ?_ ?_ _) | (with_reducible refine Below.setCell ?_ ?_ _) | go_size)))
  have XN := Lib.hid (al_keep (al_at w (.cells g.cells 32) rfl) (.cells #[.int .i64 0, .slice none 0 0] 51))
  have XR := Lib.hid (al_at (w.alloc (.cells g.cells 32)) (.cells #[.int .i64 0, .slice none 0 0] 51) (k := w.heap.size + 1) (by simp))
  obtain ⟨w1, hw1⟩ : ∃ w1, w1 = (w.alloc (.cells g.cells 32)).alloc (.cells #[.int .i64 0, .slice none 0 0] 51) := ⟨_, rfl⟩
  rw [← hw1] at BB XN XR
  have HW1 := Lib.hid hw1
  have CK := Lib.hid (check116 g r V n a c w1 (hg.below BB.out) (hs.below BB.out) hn)
  have HCC : Hid (g.cells = #[.int .i64 g.N, .slice g.ea g.em g.ec, .slice g.ta g.tn g.tc, .slice g.na g.nn g.nc, .int .i64 g.h]) := Lib.hid rfl
  have HS := Lib.hid hs
  have HG := Lib.hid hg
  have hmc := hs.hm
  have hcc := hs.hc
  rw [HCC.out] at CK HW1 XN ⊢
  clear hw1 hg hs
  go_enter Tryz.func79, Tryz.ntmps79
  go_wp2_with fail
  rw [← HW1.out]
  have x0 := cell_at XN.out 0
  have x1 := cell_at XN.out 1
  have x2 := cell_at XN.out 2
  have x3 := cell_at XN.out 3
  have x4 := cell_at XN.out 4
  have zx := szs (block_lt XN.out)
  go_wp2_with fail
  refine CK.out.mono ?_
  rintro e w2 ⟨x, rfl, b2, hx⟩
  have B2 := Lib.hid (BB.out.trans (b2.mono BB.out.size))
  have XN2 := Lib.hid ((b2.block _ (block_lt XN.out)).trans XN.out)
  have XR2 := Lib.hid ((b2.block _ (block_lt XR.out)).trans XR.out)
  clear x0 x1 x2 x3 x4 zx CK b2 XN XR HW1
  by_cases hx0 : x = 0
  · subst hx0
    obtain ⟨hn6, hV⟩ := hx rfl
    have HV := Lib.hid hV
    have hsh : ∃ N : Nat, N ≤ 64 ∧ wrap64 (2 ^ n) = (N : Int) := by
      rcases (by omega : n = 0 ∨ n = 1 ∨ n = 2 ∨ n = 3 ∨ n = 4 ∨ n = 5 ∨ n = 6) with rfl | rfl | rfl | rfl | rfl | rfl | rfl
      · exact ⟨1, by omega, by first | decide | (simp [wrap64]; done) | (unfold wrap64; omega) | (simp [wrap64]; omega)⟩
      · exact ⟨2, by omega, by first | decide | (simp [wrap64]; done) | (unfold wrap64; omega) | (simp [wrap64]; omega)⟩
      · exact ⟨4, by omega, by first | decide | (simp [wrap64]; done) | (unfold wrap64; omega) | (simp [wrap64]; omega)⟩
      · exact ⟨8, by omega, by first | decide | (simp [wrap64]; done) | (unfold wrap64; omega) | (simp [wrap64]; omega)⟩
      · exact ⟨16, by omega, by first | decide | (simp [wrap64]; done) | (unfold wrap64; omega) | (simp [wrap64]; omega)⟩
      · exact ⟨32, by omega, by first | decide | (simp [wrap64]; done) | (unfold wrap64; omega) | (simp [wrap64]; omega)⟩
      · exact ⟨64, by omega, by first | decide | (simp [wrap64]; done) | (unfold wrap64; omega) | (simp [wrap64]; omega)⟩
    obtain ⟨N, hN64, hsh⟩ := hsh
    clear hx hV
    have b3 : Below w2.heap.size w2 (w2.alloc (.cells #[.slice none 0 0, .int .i64 0, .int .i64 0, .bool false] 188)) := by (repeat' (first | (with_reducible exact Below.refl _ _) | (with_reducible assumption) | (with_reducible refine Below.drew ?_) | (with_reducible refine below_drewN ?_ _) | (with_reducible refine Below.alloc ?_ ?_ _) | (with_reducible refine Below.setCell ?_ ?_ _) | go_size))
    have XO := Lib.hid (heap_alloc_new w2 (.cells #[.slice none 0 0, .int .i64 0, .int .i64 0, .bool false] 188))
    have B3 := Lib.hid b3
    have HB9 : Hid (w.heap.size + 1 < w2.heap.size) := Lib.hid (block_lt XR2.out)
    clear b3
    go_wp2_with fail
    rw [hsh]
    go_loopw [26] (fun s26 wr => ∃ (i : Nat) (fa : Option Addr) (fn fc : Nat) (FR : Nat → Int) (fq fd : Int) (ok : Bool), s26 = .int .i64 i ∧ i ≤ N ∧ Hid (Below w2.heap.size w2 wr) ∧ Hid (wr.heap[w2.heap.size]? = some (.cells #[.slice fa fn fc, .int .i64 fq, .int .i64 fd, .bool ok] 188 (0, 0))) ∧ Hid (FoundIs g r w2.heap.size (fun b => b = w2.heap.size) wr fa fn fc FR ok)) (fun s26 _ => N - (intOf s26).toNat)
    case atStart => exact ⟨0, none, 0, 0, fun _ => 0, 0, 0, false, rfl, by omega, B3, XO, Lib.hid ⟨Sl.none (nf_len _), fun h => (by cases h), fun _ => ⟨rfl, rfl, rfl⟩, fun gb e => (by cases e)⟩⟩
    case round =>
      obtain ⟨i, fa, fn, fc, FR, fq, fd, ok, rfl, hiN, hBr, hXo, hFi⟩ := hrel
      have BR := hBr
      have XF := hXo
      have HFI := hFi
      clear hBr hXo hFi B3 XO
      by_cases hlt : i < N
      · have ti : (i : Int) < (N : Int) := by omega
        have tnn : decide ((i : Int) < (N : Int)) = true := decide_eq_true ti
        obtain ⟨wo, hwo⟩ : ∃ wo, wo = wr := ⟨_, rfl⟩
        rw [← hwo] at BR XF HFI
        have HWO := Lib.hid hwo
        clear hwo
        have BWo := Lib.hid (B2.out.trans (BR.out.mono B2.out.size))
        go_wp2_with fail
        go_loopw [11, 31] (fun s11 s31 wr2 => ∃ (j m : Nat) (F : Nat → Int), s31 = .int .i64 j ∧ j ≤ n ∧ m ≤ j ∧ (∃ (sa : Option Addr) (sc : Nat), s11 = .slice sa m sc) ∧ Hid (NumR wr2 wo.heap.size s11 m F ∧ (∀ x, x < m → 0 ≤ F x ∧ F x < 16) ∧ Below wo.heap.size wo wr2)) (fun _ s31 _ => n - (intOf s31).toNat)
        case atStart => exact ⟨0, 0, fun _ => 0, rfl, by omega, by omega, ⟨none, 0, rfl⟩, Lib.hid ⟨⟨rfl, .inl ⟨rfl, rfl⟩⟩, fun x hx => absurd hx (by omega), by rw [HWO.out]; exact Below.refl _ _⟩⟩
        case round =>
          obtain ⟨j, m, F, rfl, hj, hm, ⟨sa, sc, rfl⟩, hr⟩ := hrel
          have HR2 := hr
          clear hr
          by_cases hjn : j < n
          · have tj : (j : Int) < (n : Int) := by omega
            have tj2 : decide ((j : Int) < (n : Int)) = true := decide_eq_true tj
            obtain ⟨gb, go, rfl, hgb, cx⟩ := (HS.out.below (BWo.out.trans (HR2.out.2.2.mono BWo.out.size))).num hjn
            have zg := szs hgb
            have hvj := HV.out j hjn
            have HVJ : Hid (0 ≤ V j ∧ V j < 16) := Lib.hid ⟨hvj.1, by have := hvj.2; omega⟩
            clear hvj
            obtain ⟨vj, hvj⟩ : ∃ vj, vj = V j := ⟨_, rfl⟩
            rw [← hvj] at cx HVJ
            clear hvj
            obtain ⟨bt, hbt⟩ : ∃ b, b = (bits BinOp.and IntKind.i64 ((i : Int) / 2 ^ j) 1 == 1) := ⟨_, rfl⟩
            cases bt with
            | false =>
              have tb := hbt.symm
              clear hbt
              go_wp2_with fail
              go_roundw
              case rel => exact ⟨j + 1, m, F, by go_num, by omega, by omega, ⟨sa, sc, rfl⟩, HR2⟩
              case measure => simp [intOf]; omega
            | true =>
              have tb := hbt.symm
              clear hbt
              have ba : Below wr.heap.size wr (wr.alloc (.cells #[.int .i64 vj] 3)) := by (repeat' (first | (with_reducible exact Below.refl _ _) | (with_reducible assumption) | (with_reducible refine Below.drew ?_) | (with_reducible refine below_drewN ?_ _) | (with_reducible refine Below.alloc ?_ ?_ _) | (with_reducible refine Below.setCell ?_ ?_ _) | go_size))
              have XB := Lib.hid (heap_alloc_new wr (.cells #[.int .i64 vj] 3))
              have RA : Hid (IntRow (wr.alloc (.cells #[.int .i64 vj] 3)) wo.heap.size (.slice sa m sc) m F) := Lib.hid (Row.off (X := fun _ => False) HR2.out.1 (Off.of_below ba) (fun _ _ h => h))
              have BA := Lib.hid (HR2.out.2.2.trans (ba.mono HR2.out.2.2.size))
              clear ba
              go_wp2_with (at_builtin; go_loud (refine wpList_append_I _ rfl (.tmp 41) (.tmp 43) rfl wo.heap.size _ m F rfl RA.out wr.heap.size vj rfl 3 (0, 0) XB.out (by omega) BA.out.size ?_))
              intro g2 cap w4 k1 k2 k3 k4 r4 o4
              have R4 := Lib.hid r4
              have B4 : Hid (Below wo.heap.size wo w4) := Lib.hid (BA.out.trans (o4.toBelow BA.out.size (fun q hq h => by have := (World.ownsRow.lt RA.out q h).1; omega)))
              clear r4 o4 k4
              go_wp2_with fail
              go_roundw
              case rel =>
                refine ⟨j + 1, m + 1, upd F m vj, by go_num, by omega, by omega, ⟨some ⟨g2, 0, none⟩, cap, by go_num⟩, Lib.hid ⟨R4.out, fun x hx => ?_, B4.out⟩⟩
                by_cases e : x = m
                · subst e; rw [upd_same]; exact HVJ.out
                · rw [upd_ne e]; exact HR2.out.2.1 x (by omega)
              case measure => simp [intOf]; omega
          · have tj2 : decide ((j : Int) < (n : Int)) = false := decide_eq_false (by omega)
            have BW4 := Lib.hid (BWo.out.trans (HR2.out.2.2.mono BWo.out.size))
            have BR4 := Lib.hid (BR.out.trans (HR2.out.2.2.mono BR.out.size))
            have XN4 := Lib.hid ((BR4.out.block _ (block_lt XN2.out)).trans XN2.out)
            have XF4 := Lib.hid ((HR2.out.2.2.block _ (block_lt XF.out)).trans XF.out)
            have HF4 := Lib.hid (HFI.out.off (Off.of_below (X := fun _ => False) HR2.out.2.2) (fun _ _ h => h))
            obtain ⟨sa', sc', es, ss⟩ := Row.toSl HR2.out.1 (nf_len F)
            cases es
            have hsm := ss.hm
            have hsc := ss.hc
            have B5 := Lib.hid (best117 g r F m sa sc wr (HG.out.below BW4.out) ss (by omega) HR2.out.2.1)
            rw [HCC.out] at B5
            have hb94 : w2.heap.size < wr.heap.size := block_lt XF4.out
            have HB94 := Lib.hid hb94
            have x0 := cell_at XN4.out 0
            have x1 := cell_at XN4.out 1
            have x2 := cell_at XN4.out 2
            have x3 := cell_at XN4.out 3
            have x4 := cell_at XN4.out 4
            have zx := szs (block_lt XN4.out)
            clear hb94 ss HR2
            go_wp2_with fail
            refine B5.out.mono ?_
            rintro e w5 ⟨ba, bn, bc, bR, bq, bd, bok, rfl, b5, hbf⟩
            have BR5 := Lib.hid (BR4.out.trans (b5.mono BR4.out.size))
            have XF5 := Lib.hid ((b5.block _ (block_lt XF4.out)).trans XF4.out)
            have HF5 := Lib.hid (HF4.out.off (Off.of_below (X := fun _ => False) b5) (fun _ _ h => h))
            have HBF := Lib.hid hbf
            have HS5 := Lib.hid b5.size
            have ba6 : Below w5.heap.size w5 (w5.alloc (.cells #[.slice ba bn bc, .int .i64 bq, .int .i64 bd, .bool bok] 188)) := by (repeat' (first | (with_reducible exact Below.refl _ _) | (with_reducible assumption) | (with_reducible refine Below.drew ?_) | (with_reducible refine below_drewN ?_ _) | (with_reducible refine Below.alloc ?_ ?_ _) | (with_reducible refine Below.setCell ?_ ?_ _) | go_size))
            have X6 := Lib.hid (heap_alloc_new w5 (.cells #[.slice ba bn bc, .int .i64 bq, .int .i64 bd, .bool bok] 188))
            have BR6 := Lib.hid (BR5.out.trans (ba6.mono BR5.out.size))
            have XF6 := Lib.hid ((ba6.block _ (block_lt XF5.out)).trans XF5.out)
            have HF6 := Lib.hid (HF5.out.off (Off.of_below (X := fun _ => False) ba6) (fun _ _ h => h))
            have HBF6 := Lib.hid (HBF.out.off (Off.of_below (X := fun _ => False) ba6) (fun _ _ h => h))
            obtain ⟨w6, hw6⟩ : ∃ w6, w6 = w5.alloc (.cells #[.slice ba bn bc, .int .i64 bq, .int .i64 bd, .bool bok] 188) := ⟨_, rfl⟩
            rw [← hw6] at X6 BR6 XF6 HF6 HBF6
            have HW6 := Lib.hid hw6
            clear hw6 ba6 b5 hbf x0 x1 x2 x3 x4 zx B5 XN4 XF4 HF4 HF5 HBF BR5
            cases bok with
            | false =>
              go_wp2_with fail
              rw [← HW6.out]
              have y3 := cell_at X6.out 3
              have zy := szs (block_lt X6.out)
              go_wp2_with fail
              go_roundw
              case rel => exact ⟨i + 1, fa, fn, fc, FR, fq, fd, ok, by go_num, by omega, BR6, XF6, HF6⟩
              case measure => simp [intOf]; omega
            | true =>
              have f0 := cell_at XF5.out 0
              have f1 := cell_at XF5.out 1
              have f2 := cell_at XF5.out 2
              have f3 := cell_at XF5.out 3
              have zf := szs (block_lt XF5.out)
              have BT := Lib.hid (better118 fa ba fn fc bn bc FR bR fq fd bq bd ok true w6 HF6.out.1 HBF6.out.1)
              go_wp2_with fail
              rw [← HW6.out]
              refine BT.out.mono ?_
              rintro e w7 ⟨h7, b7⟩
              obtain ⟨na, nm, nc, NR, nq, nd, nok, rfl, HN⟩ : ∃ (na : Option Addr) (nm nc : Nat) (NR : Nat → Int) (nq nd : Int) (nok : Bool), e = .returned (.agg #[.slice na nm nc, .int .i64 nq, .int .i64 nd, .bool nok]) ∧ Hid (FoundIs g r w2.heap.size (fun b => b = w2.heap.size) w7 na nm nc NR nok) := by
                rcases h7 with rfl | ⟨rfl, rfl⟩
                · refine ⟨_, _, _, bR, _, _, true, rfl, Lib.hid ?_⟩
                  have hq := HBF6.out.off (Off.of_below (X := fun _ => False) b7) (fun _ _ h => h)
                  have h9 := HB94.out
                  exact ⟨hq.1, hq.2.1, hq.2.2.1, fun gb e => by have := (hq.2.2.2 gb e).1; exact ⟨by omega, by omega⟩⟩
                · exact ⟨_, _, _, FR, _, _, true, rfl, Lib.hid (HF6.out.off (Off.of_below (X := fun _ => False) b7) (fun _ _ h => h))⟩
              have XF7 := Lib.hid ((b7.block _ (block_lt XF6.out)).trans XF6.out)
              have BR7 := Lib.hid (BR6.out.trans (b7.mono BR6.out.size))
              have q0 := cell_at XF7.out 0
              have q1 := cell_at XF7.out 1
              have q2 := cell_at XF7.out 2
              have q3 := cell_at XF7.out 3
              have qf := fun j => free_at XF7.out j
              have zq := szs (block_lt XF7.out)
              have hlt7 := Lib.hid (block_lt XF7.out)
              clear h7 b7 f0 f1 f2 f3 zf BT XF5
              go_wp2_with fail
              rw [setCell_at XF7.out, setAt_setCell hlt7.out, setAt_setCell hlt7.out, setAt_setCell hlt7.out]
              have os : Off (fun q => q = w2.heap.size) w7 (setAt w7 w2.heap.size (.cells #[.slice na nm nc, .int .i64 nq, .int .i64 nd, .bool nok] 188)) := ⟨rfl, rfl, rfl, by simp [setAt], fun i hi hx => by
                show (w7.heap.setIfInBounds _ _)[i]? = _
                rw [Array.getElem?_setIfInBounds_ne (fun e => hx e.symm)]⟩
              have BR8 := Lib.hid (below_setAt (o := .cells #[.slice na nm nc, .int .i64 nq, .int .i64 nd, .bool nok] 188) (Nat.le_refl _) BR7.out)
              have X8 := Lib.hid (setAt_same (w := w7) (o := .cells #[.slice na nm nc, .int .i64 nq, .int .i64 nd, .bool nok] 188) hlt7.out)
              have HF8 := Lib.hid (HN.out.off os (fun gb e h => (HN.out.2.2.2 gb e).2 h))
              clear os
              exact ⟨⟨i + 1, na, nm, nc, NR, nq, nd, nok, by go_num, by omega, BR8, X8, HF8⟩, by simp [intOf]; omega⟩
      · have tnn : decide ((i : Int) < (N : Int)) = false := decide_eq_false (by omega)
        have XR3 := Lib.hid ((BR.out.block _ (block_lt XR2.out)).trans XR2.out)
        have B9 := Lib.hid (B2.out.trans (BR.out.mono B2.out.size))
        have f0 := cell_at XF.out 0
        have zf := szs (block_lt XF.out)
        have r0 := cell_at XR3.out 0
        have r1 := cell_at XR3.out 1
        have rf := fun j => free_at XR3.out j
        have zr := szs (block_lt XR3.out)
        go_wp2_with fail
        have hlt' := block_lt XR3.out
        rw [setCell_at XR3.out, setAt_setCell hlt']
        have E4 : (setAt wr (w.heap.size + 1) (.cells #[.int .i64 r, .slice fa fn fc] 51)).heap[w.heap.size + 1]? = some (.cells #[.int .i64 r, .slice fa fn fc] 51) := setAt_same hlt'
        have e0 := cell_at E4 0
        have e1 := cell_at E4 1
        have os : Off (fun q => q = w.heap.size + 1) wr (setAt wr (w.heap.size + 1) (.cells #[.int .i64 r, .slice fa fn fc] 51)) := ⟨rfl, rfl, rfl, by simp [setAt], fun i hi hx => by
          show (wr.heap.setIfInBounds _ _)[i]? = _
          rw [Array.getElem?_setIfInBounds_ne (fun e => hx e.symm)]⟩
        refine bodyPost_ret (v := .tuple #[.agg #[.int .i64 r, .slice fa fn fc], .int .i64 0]) (by simp [results, Tryz.results79, go_sem, e0, e1]) rfl ⟨below_setAt (by omega) B9.out, fa, fn, fc, FR, r, 0, rfl, HFI.out.1.off os (fun gb e h => ?_), fun gb e => Nat.le_trans (by have := HB9.out; omega) (HFI.out.2.2.2 gb e).1, fun _ => rfl, fun hp => ⟨rfl, ?_⟩⟩
        · have h : gb.block = w.heap.size + 1 := h
          have h1 := (HFI.out.2.2.2 gb e).1
          have h2 := HB9.out
          omega
        · cases ok with
          | true => exact HFI.out.2.1 rfl
          | false => have := (HFI.out.2.2.1 rfl).2.1; omega
  · have te : (x != 0) = true := by simpa using hx0
    have HX0 := Lib.hid hx0
    have r0 := cell_at XR2.out 0
    have r1 := cell_at XR2.out 1
    have rf := fun j => free_at XR2.out j
    have zr := szs (block_lt XR2.out)
    clear hx hx0
    go_wp2_with fail
    have hlt' := block_lt XR2.out
    rw [setCell_at XR2.out, setAt_setCell hlt']
    have E4 : (setAt w2 (w.heap.size + 1) (.cells #[.int .i64 0, .slice none 0 0] 51)).heap[w.heap.size + 1]? = some (.cells #[.int .i64 0, .slice none 0 0] 51) := setAt_same hlt'
    have e0 := cell_at E4 0
    have e1 := cell_at E4 1
    exact bodyPost_ret (v := .tuple #[.agg #[.int .i64 0, .slice none 0 0], .int .i64 x]) (by simp [results, Tryz.results79, go_sem, e0, e1]) rfl ⟨below_setAt (by omega) B2.out, none, 0, 0, fun _ => 0, 0, x, rfl, Sl.none (nf_len _), fun gb e => (by cases e), fun h => absurd h HX0.out, fun h => absurd h (by omega)⟩
end Go.Proofs.YtlnfhlmgnppcbaaGreat
