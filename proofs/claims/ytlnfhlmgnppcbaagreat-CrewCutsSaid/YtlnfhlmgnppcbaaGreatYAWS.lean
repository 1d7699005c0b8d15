/- Part of a bundle. -/
import Derived.Test.YtlnfhlmgnppcbaaGreatCTA
import Derived.BigQuiet
import Derived.BigRegion
import Derived.Test.YtlnfhlmgnppcbaaGreatYCMZ
namespace Go.Proofs.YtlnfhlmgnppcbaaGreat
open Go.RowKit Go.ChangeShapes Go.WideShapes Go.Deep
set_option linter.unusedVariables false
set_option linter.unusedSimpArgs false
set_option maxRecDepth 8000
open Rd
set_option maxHeartbeats 4000000 in
theorem same22 (a1 a2 : Option Addr) (n c1 c2 : Nat) (V1 V2 : Nat → Vi) (w : World) (h1 : Sl w 4 a1 n c1 (vif V1)) (h2 : Sl w 4 a2 n c2 (vif V2)) (he : ∀ i, i < n → V1 i = V2 i) :
    Calls Tryz.prog 22 #[.slice a1 n c1, .slice a2 n c2] w fun e w' => e = .returned (.bool true) ∧ Below w.heap.size w w' := by
  have m1 := h1.hm
  have m2 := h2.hm
  have k1 := h1.hc
  have k2 := h2.hc
  have H1 := Lib.hid h1
  have H2 := Lib.hid h2
  have HE := Lib.hid he
  clear h1 h2 he
  have tn : ((n : Int) != (n : Int)) = false := by simp
  go_enter Tryz.func22, Tryz.ntmps22
  go_wp2_with fail
  go_loopw [5] (fun s5 wr => ∃ j : Nat, s5 = .int .i64 j ∧ j ≤ n ∧ Hid (Below w.heap.size w wr)) (fun s5 _ => n - (intOf s5).toNat)
  case atStart => exact ⟨0, rfl, by omega, Lib.hid (Below.refl _ _)⟩
  case round =>
    obtain ⟨j, rfl, hj, hrel⟩ := hrel
    have HR := hrel
    clear hrel
    by_cases hlt : j < n
    · have tj : (j : Int) < (n : Int) := by omega
      obtain ⟨g, o, rfl, hg, x0, x1, x2, x3⟩ := (H1.out.below HR.out).vi hlt
      obtain ⟨g2, o2, rfl, hg2, y0, y1, y2, y3⟩ := (H2.out.below HR.out).vi hlt
      have zg := szs hg
      have zg2 := szs hg2
      rw [← HE.out j hlt] at y0 y1 y2 y3
      generalize V1 j = x at *
      obtain ⟨v1, v2, v3, v4⟩ := x
      dsimp only at x0 x1 x2 x3 y0 y1 y2 y3
      go_wp2_with fail
      (refine region_all (fun i : Nat => World.drewN _ i) mixed (by kernel_rfl) ⟨1, rfl⟩ ?_; (repeat (any_goals (first | go_big_quiet_step (fail) | quiet_step (fail) | (refine wpQuiet_step (fun K hK => ?_); go_simp; split <;> (refine hK _ ?_; clear hK K))))); (all_goals (refine wpQuiet_nil (fun nq => ?_))))
      go_wp2_with fail
      go_roundw
      case rel => exact ⟨j + 1, by go_num, by omega, Lib.hid (below_drewN HR.out _)⟩
      case measure => simp [intOf]; omega
    · obtain rfl : j = n := by omega
      go_wp2_with fail
      go_returns
      exact ⟨rfl, HR.out⟩
set_option maxHeartbeats 4000000 in
theorem same29 (a1 a2 : Option Addr) (n c1 c2 : Nat) (V1 V2 : Nat → Int) (w : World) (h1 : Sl w 1 a1 n c1 (nf V1)) (h2 : Sl w 1 a2 n c2 (nf V2)) (he : ∀ i, i < n → V1 i = V2 i) :
    Calls Tryz.prog 29 #[.slice a1 n c1, .slice a2 n c2] w fun e w' => e = .returned (.bool true) ∧ Below w.heap.size w w' := by
  have m1 := h1.hm
  have m2 := h2.hm
  have k1 := h1.hc
  have k2 := h2.hc
  have H1 := Lib.hid h1
  have H2 := Lib.hid h2
  have HE := Lib.hid he
  clear h1 h2 he
  have tn : ((n : Int) != (n : Int)) = false := by simp
  go_enter Tryz.func29, Tryz.ntmps29
  go_wp2_with fail
  go_loopw [5] (fun s5 wr => ∃ j : Nat, s5 = .int .i64 j ∧ j ≤ n ∧ Hid (Below w.heap.size w wr)) (fun s5 _ => n - (intOf s5).toNat)
  case atStart => exact ⟨0, rfl, by omega, Lib.hid (Below.refl _ _)⟩
  case round =>
    obtain ⟨j, rfl, hj, hrel⟩ := hrel
    have HR := hrel
    clear hrel
    by_cases hlt : j < n
    · have tj : (j : Int) < (n : Int) := by omega
      obtain ⟨g, o, rfl, hg, x0⟩ := (H1.out.below HR.out).num hlt
      obtain ⟨g2, o2, rfl, hg2, y0⟩ := (H2.out.below HR.out).num hlt
      have zg := szs hg
      have zg2 := szs hg2
      rw [← HE.out j hlt] at y0
      generalize V1 j = x at *
      have tx : (x != x) = false := by simp
      go_wp2_with fail
      (refine region_all (fun i : Nat => World.drewN _ i) mixed (by kernel_rfl) ⟨1, rfl⟩ ?_; (repeat (any_goals (first | go_big_quiet_step (fail) | quiet_step (fail) | (refine wpQuiet_step (fun K hK => ?_); go_simp; split <;> (refine hK _ ?_; clear hK K))))); (all_goals (refine wpQuiet_nil (fun nq => ?_))))
      go_wp2_with fail
      go_roundw
      case rel => exact ⟨j + 1, by go_num, by omega, Lib.hid (below_drewN HR.out _)⟩
      case measure => simp [intOf]; omega
    · obtain rfl : j = n := by omega
      go_wp2_with fail
      go_returns
      exact ⟨rfl, HR.out⟩
theorem Sl.of_block {w : World} {b s n : Nat} {e : TypeId} {cs : Array Value} {f : Nat → List Value} (h : w.heap[b]? = some (.cells cs e (0, 0))) (hf : ∀ i, (f i).length = s) (hc : cs.toList = flat f n) (hn : n ≤ maxLen) : Sl w s (some ⟨b, 0, none⟩) n n f := by
  obtain ⟨ao, c, e, h⟩ := (Row.of_block (base := 0) h (Nat.zero_le _) hf hc hn).toSl hf
  cases e
  exact h
set_option maxHeartbeats 4000000 in
theorem sample48 (w : World) : Calls Tryz.prog 48 #[] w fun e w' => ∃ b1 b2 b3 : Nat, e = .returned (.agg (smG (some ⟨b1, 0, none⟩) (some ⟨b2, 0, none⟩) (some ⟨b3, 0, none⟩)).cells) ∧ (smG (some ⟨b1, 0, none⟩) (some ⟨b2, 0, none⟩) (some ⟨b3, 0, none⟩)).In w' ∧ Below w.heap.size w w' := by
  have X0 := (al_keep (al_keep (al_keep (al_keep (al_at w (.cells #[.int .i64 3, .slice (some ⟨w.heap.size + 1, 0, none⟩) 6 6, .slice (some ⟨w.heap.size + 1 + 1 + 1, 0, none⟩) 1 1, .slice (some ⟨w.heap.size + 1 + 1 + 1 + 1, 0, none⟩) 2 2, .int .i64 10] 32) rfl) (.cells #[.int .i64 0, .int .i64 1, .int .i64 100, .int .i64 1, .int .i64 0, .int .i64 100, .int .i64 1, .int .i64 2, .int .i64 60, .int .i64 2, .int .i64 1, .int .i64 60, .int .i64 0, .int .i64 2, .int .i64 200, .int .i64 2, .int .i64 0, .int .i64 200] 130)) (.cells #[.int .i64 3, .slice (some ⟨w.heap.size + 1, 0, none⟩) 6 6] 28)) (.cells #[.int .i64 0, .int .i64 10, .int .i64 1000, .int .i64 2000] 62)) (.cells #[.int .i64 1, .int .i64 8, .int .i64 2, .int .i64 (-5)] 58))
  have X1 := (al_keep (al_keep (al_keep (al_at (w.alloc (.cells #[.int .i64 3, .slice (some ⟨w.heap.size + 1, 0, none⟩) 6 6, .slice (some ⟨w.heap.size + 1 + 1 + 1, 0, none⟩) 1 1, .slice (some ⟨w.heap.size + 1 + 1 + 1 + 1, 0, none⟩) 2 2, .int .i64 10] 32)) (.cells #[.int .i64 0, .int .i64 1, .int .i64 100, .int .i64 1, .int .i64 0, .int .i64 100, .int .i64 1, .int .i64 2, .int .i64 60, .int .i64 2, .int .i64 1, .int .i64 60, .int .i64 0, .int .i64 2, .int .i64 200, .int .i64 2, .int .i64 0, .int .i64 200] 130) (k := w.heap.size + 1) (by simp)) (.cells #[.int .i64 3, .slice (some ⟨w.heap.size + 1, 0, none⟩) 6 6] 28)) (.cells #[.int .i64 0, .int .i64 10, .int .i64 1000, .int .i64 2000] 62)) (.cells #[.int .i64 1, .int .i64 8, .int .i64 2, .int .i64 (-5)] 58))
  have X3 := (al_keep (al_at (((w.alloc (.cells #[.int .i64 3, .slice (some ⟨w.heap.size + 1, 0, none⟩) 6 6, .slice (some ⟨w.heap.size + 1 + 1 + 1, 0, none⟩) 1 1, .slice (some ⟨w.heap.size + 1 + 1 + 1 + 1, 0, none⟩) 2 2, .int .i64 10] 32)).alloc (.cells #[.int .i64 0, .int .i64 1, .int .i64 100, .int .i64 1, .int .i64 0, .int .i64 100, .int .i64 1, .int .i64 2, .int .i64 60, .int .i64 2, .int .i64 1, .int .i64 60, .int .i64 0, .int .i64 2, .int .i64 200, .int .i64 2, .int .i64 0, .int .i64 200] 130)).alloc (.cells #[.int .i64 3, .slice (some ⟨w.heap.size + 1, 0, none⟩) 6 6] 28)) (.cells #[.int .i64 0, .int .i64 10, .int .i64 1000, .int .i64 2000] 62) (k := w.heap.size + 1 + 1 + 1) (by simp)) (.cells #[.int .i64 1, .int .i64 8, .int .i64 2, .int .i64 (-5)] 58))
  have X4 := (al_at ((((w.alloc (.cells #[.int .i64 3, .slice (some ⟨w.heap.size + 1, 0, none⟩) 6 6, .slice (some ⟨w.heap.size + 1 + 1 + 1, 0, none⟩) 1 1, .slice (some ⟨w.heap.size + 1 + 1 + 1 + 1, 0, none⟩) 2 2, .int .i64 10] 32)).alloc (.cells #[.int .i64 0, .int .i64 1, .int .i64 100, .int .i64 1, .int .i64 0, .int .i64 100, .int .i64 1, .int .i64 2, .int .i64 60, .int .i64 2, .int .i64 1, .int .i64 60, .int .i64 0, .int .i64 2, .int .i64 200, .int .i64 2, .int .i64 0, .int .i64 200] 130)).alloc (.cells #[.int .i64 3, .slice (some ⟨w.heap.size + 1, 0, none⟩) 6 6] 28)).alloc (.cells #[.int .i64 0, .int .i64 10, .int .i64 1000, .int .i64 2000] 62)) (.cells #[.int .i64 1, .int .i64 8, .int .i64 2, .int .i64 (-5)] 58) (k := w.heap.size + 1 + 1 + 1 + 1) (by simp))
  have BB : Below w.heap.size w (((((w.alloc (.cells #[.int .i64 3, .slice (some ⟨w.heap.size + 1, 0, none⟩) 6 6, .slice (some ⟨w.heap.size + 1 + 1 + 1, 0, none⟩) 1 1, .slice (some ⟨w.heap.size + 1 + 1 + 1 + 1, 0, none⟩) 2 2, .int .i64 10] 32)).alloc (.cells #[.int .i64 0, .int .i64 1, .int .i64 100, .int .i64 1, .int .i64 0, .int .i64 100, .int .i64 1, .int .i64 2, .int .i64 60, .int .i64 2, .int .i64 1, .int .i64 60, .int .i64 0, .int .i64 2, .int .i64 200, .int .i64 2, .int .i64 0, .int .i64 200] 130)).alloc (.cells #[.int .i64 3, .slice (some ⟨w.heap.size + 1, 0, none⟩) 6 6] 28)).alloc (.cells #[.int .i64 0, .int .i64 10, .int .i64 1000, .int .i64 2000] 62)).alloc (.cells #[.int .i64 1, .int .i64 8, .int .i64 2, .int .i64 (-5)] 58)) := by (repeat' (first | (with_reducible exact Below.refl _ _) | (with_reducible assumption) | (with_reducible refine Below.drew ?_) | (with_reducible refine below_drewN ?_ _) | (with_reducible refine Below.alloc ?_ ?_ _) | (with_reducible refine Below.setCell ?_ ?_ _) | go_size))
  go_enter Tryz.func48, Tryz.ntmps48
  go_wp2_with fail
  generalize World.alloc (World.alloc (World.alloc (World.alloc (World.alloc w _) _) _) _) _ = w5 at *
  have k0 := cell_at X0 0
  have k1 := cell_at X0 1
  have k2 := cell_at X0 2
  have k3 := cell_at X0 3
  have k4 := cell_at X0 4
  have zk := szs (block_lt X0)
  have HX := Lib.hid (And.intro X1 (And.intro X3 X4))
  clear X0 X1 X3 X4
  refine bodyPost_ret (v := .agg #[.int .i64 3, .slice (some ⟨w.heap.size + 1, 0, none⟩) 6 6, .slice (some ⟨w.heap.size + 1 + 1 + 1, 0, none⟩) 1 1, .slice (some ⟨w.heap.size + 1 + 1 + 1 + 1, 0, none⟩) 2 2, .int .i64 10]) (by simp [results, Tryz.results48, go_sem, k0, k1, k2, k3, k4]) rfl ⟨w.heap.size + 1, w.heap.size + 1 + 1 + 1, w.heap.size + 1 + 1 + 1 + 1, rfl, ?_, BB⟩
  have n := Sl.of_block (n := 6) (s := 3) (f := ef smE) HX.out.1 (ef_len _) rfl (by decide)
  exact ⟨⟨n.hm, n.hc, n.sl⟩, Sl.of_block (n := 1) (s := 4) (f := tkf smT) HX.out.2.1 (fun _ => rfl) rfl (by decide), Sl.of_block (n := 2) (s := 2) (f := ndf smD) HX.out.2.2 (fun _ => rfl) rfl (by decide)⟩
end Go.Proofs.YtlnfhlmgnppcbaaGreat
namespace Go.Proofs.YtlnfhlmgnppcbaaGreat
open Go.RowKit Go.ChangeShapes Go.WideShapes Go.Deep
set_option linter.unusedVariables false
set_option linter.unusedSimpArgs false
set_option maxRecDepth 8000
open Rd
def awF (a : Option Addr) : Fl := ⟨1, 1, 1, none, 0, 0, fun _ => 0, a, 1, 1, fun _ => 1⟩
def awL : List Ev := [⟨0, 1, 5, 5, 7, 0, 0, 0, 0⟩, ⟨0, 2, 9, 9, 2, 0, 3, 0, 0⟩]
def awE : Nat → Ev := fun i => awL.getD i ⟨0, 0, 0, 0, 0, 0, 0, 0, 0⟩
theorem aw_moved0 : movedV (awF none) awL 0 9 = (1, 1, 0) := by decide
theorem aw_movedV (a : Option Addr) : movedV (awF a) (ents awE 2) 0 9 = (1, 1, 0) := aw_moved0
def awV : Nat → Int × Int := fun i => [((0 : Int), (0 : Int)), (5, 2), (9, 1)].getD i (0, 0)
theorem aw_car2 : carB 2 3 awV = true := carB_yes ⟨by decide, rfl, fun i hi => by
  rcases (by omega : i = 0 ∨ i = 1 ∨ i = 2) with rfl | rfl | rfl <;> (unfold lvI awV; decide)⟩
theorem aw_car1 : carB 1 3 awV = false := carB_no (fun h => by
  have := (h.2.2 1 (by decide)).2.1
  revert this; unfold awV; decide)
section
variable (b1 b2 b3 b : Nat) (w : World)
abbrev awG (b1 b2 b3 : Nat) : Ng := smG (some ⟨b1, 0, none⟩) (some ⟨b2, 0, none⟩) (some ⟨b3, 0, none⟩)
def awC (b1 b2 b3 : Nat) : Value := .agg #[.int .i64 3, .slice (some ⟨b1, 0, none⟩) 6 6, .slice (some ⟨b2, 0, none⟩) 1 1, .slice (some ⟨b3, 0, none⟩) 2 2, .int .i64 10]
def awR (b : Nat) : Value := .agg #[.int .i64 0, .slice (some ⟨b, 0, none⟩) 2 2]
theorem aw_rest1 (hg : (awG b1 b2 b3).In w) (hs : Sl w 1 (some ⟨b, 0, none⟩) 2 2 (nf smR)) : Calls Tryz.prog 20 #[awC b1 b2 b3, awR b, .int .i64 1, .int .i64 1200] w fun e w' =>
    ∃ a c, e = .returned (.tuple #[.slice a 1 c, .int .i64 1500, .int .i64 0]) ∧ Sl w' 4 a 1 c (vif (fun _ => ⟨1, 1260, 1310, 3⟩)) ∧ Below w.heap.size w w' := by
  refine (rest20 (awG b1 b2 b3) 0 smR 2 (some ⟨b, 0, none⟩) 2 1 1200 w hg hs (by decide)).mono ?_
  rintro e w' ⟨bb, ⟨h, _⟩ | ⟨_, v, rfl, hv⟩⟩
  · exact absurd (sm_rest1 _ _ _) h
  · have e1 : backK (awG b1 b2 b3) ((awG b1 b2 b3).T (0 : Int).toNat) smR 2 + delayK (awG b1 b2 b3) 0 smR 1 1200 = 1500 := by
      rw [show backK (awG b1 b2 b3) ((awG b1 b2 b3).T (0 : Int).toNat) smR 2 = 1480 from sm_back _ _ _, sm_delay1]; rfl
    have hv2 : ViRow w' w.heap.size v 1 (fun _ => ⟨1, 1260, 1310, 3⟩) := Row.congr hv (fun i hi => by
      obtain rfl : i = 0 := by have : i < 2 - 1 := hi; omega
      show vif _ 0 = vif _ 0
      have e2 : lateV (delayK (awG b1 b2 b3) 0 smR 1 1200) (visK (awG b1 b2 b3) ((awG b1 b2 b3).T (0 : Int).toNat) smR ((1 : Int).toNat + 0)) = ⟨1, 1260, 1310, 3⟩ := by
        rw [sm_delay1, show visK (awG b1 b2 b3) ((awG b1 b2 b3).T (0 : Int).toNat) smR ((1 : Int).toNat + 0) = ⟨1, 1240, 1290, 3⟩ from sm_vis1 _ _ _]; rfl
      exact congrArg (fun x : Vi => ([Value.int .i64 x.need, .int .i64 x.arr, .int .i64 x.lea, .int .i64 x.load] : List Value)) e2)
    obtain ⟨a, c, rfl, hs⟩ := hv2.toSl
    exact ⟨a, c, by rw [e1], hs, bb⟩
theorem aw_rest2 (hg : (awG b1 b2 b3).In w) (hs : Sl w 1 (some ⟨b, 0, none⟩) 2 2 (nf smR)) : Calls Tryz.prog 20 #[awC b1 b2 b3, awR b, .int .i64 1, .int .i64 1179] w fun e w' =>
    e = .returned (.tuple #[.slice none 0 0, .int .i64 0, .int .i64 18]) ∧ Below w.heap.size w w' := by
  refine (rest20 (awG b1 b2 b3) 0 smR 2 (some ⟨b, 0, none⟩) 2 1 1179 w hg hs (by decide)).mono ?_
  rintro e w' ⟨bb, ⟨_, rfl⟩ | ⟨h, _⟩⟩
  · exact ⟨by rw [sm_rest2], bb⟩
  · rw [sm_rest2] at h; cases h
theorem aw_cut1 (hg : (awG b1 b2 b3).In w) (hs : Sl w 1 (some ⟨b, 0, none⟩) 2 2 (nf smR)) : Calls Tryz.prog 23 #[awC b1 b2 b3, awR b, .int .i64 1, .int .i64 1700] w fun e w' =>
    ∃ a c, e = .returned (.tuple #[.agg #[.int .i64 0, .slice a 2 c], .int .i64 0]) ∧ Sl w' 1 a 2 c (nf smR) ∧ Below w.heap.size w w' := by
  refine (cut23 (awG b1 b2 b3) 0 smR 2 (some ⟨b, 0, none⟩) 2 1 1700 w hg hs (by decide)).mono ?_
  have hE : cutE (awG b1 b2 b3) 0 smR 2 1 1700 = 0 := by rw [sm_cutE _ _ _ (by decide) (by decide)]; rfl
  rintro e w' ⟨bb, ⟨h, _⟩ | ⟨_, v, rfl, hv⟩⟩
  · exact absurd hE h
  · rw [sm_cut1] at hv
    have hv2 : IntRow w' w.heap.size v 2 smR := Row.congr hv (fun i hi => rfl)
    obtain ⟨a, c, rfl, hs⟩ := Row.toSl hv2 (fun _ => rfl)
    exact ⟨a, c, rfl, hs, bb⟩
theorem aw_cut2 (hg : (awG b1 b2 b3).In w) (hs : Sl w 1 (some ⟨b, 0, none⟩) 2 2 (nf smR)) : Calls Tryz.prog 23 #[awC b1 b2 b3, awR b, .int .i64 1, .int .i64 1701] w fun e w' =>
    ∃ a c, e = .returned (.tuple #[.agg #[.int .i64 0, .slice a 1 c], .int .i64 0]) ∧ Sl w' 1 a 1 c (nf smR) ∧ Below w.heap.size w w' := by
  refine (cut23 (awG b1 b2 b3) 0 smR 2 (some ⟨b, 0, none⟩) 2 1 1701 w hg hs (by decide)).mono ?_
  have hE : cutE (awG b1 b2 b3) 0 smR 2 1 1701 = 0 := by rw [sm_cutE _ _ _ (by decide) (by decide)]; rfl
  rintro e w' ⟨bb, ⟨h, _⟩ | ⟨_, v, rfl, hv⟩⟩
  · exact absurd hE h
  · rw [sm_cut2] at hv
    have hv2 : IntRow w' w.heap.size v 1 smR := Row.congr hv (fun i hi => by
      obtain rfl : i = 0 := by have : i < 1 := hi; omega
      rfl)
    obtain ⟨a, c, rfl, hs⟩ := Row.toSl hv2 (fun _ => rfl)
    exact ⟨a, c, rfl, hs, bb⟩
theorem aw_cut3 (hg : (awG b1 b2 b3).In w) (hs : Sl w 1 (some ⟨b, 0, none⟩) 2 2 (nf smR)) : Calls Tryz.prog 23 #[awC b1 b2 b3, awR b, .int .i64 1, .int .i64 1821] w fun e w' =>
    e = .returned (.tuple #[.agg #[.int .i64 0, .slice none 0 0], .int .i64 25]) ∧ Below w.heap.size w w' := by
  refine (cut23 (awG b1 b2 b3) 0 smR 2 (some ⟨b, 0, none⟩) 2 1 1821 w hg hs (by decide)).mono ?_
  have hE : cutE (awG b1 b2 b3) 0 smR 2 1 1821 = 25 := by rw [sm_cutE _ _ _ (by decide) (by decide)]; rfl
  rintro e w' ⟨bb, ⟨_, rfl⟩ | ⟨h, _⟩⟩
  · exact ⟨by rw [hE], bb⟩
  · rw [hE] at h; cases h
theorem aw_moved (bt be : Nat) (ht : w.heap[bt]? = some (.cells #[.int .i64 1] 3 (0, 0))) (he : w.heap[be]? = some (.cells #[.int .i64 0, .int .i64 1, .int .i64 5, .int .i64 5, .int .i64 7, .int .i64 0, .int .i64 0, .int .i64 0, .int .i64 0, .int .i64 0, .int .i64 2, .int .i64 9, .int .i64 9, .int .i64 2, .int .i64 0, .int .i64 3, .int .i64 0, .int .i64 0] 81 (0, 0))) :
    Calls Tryz.prog 13 #[.agg #[.int .i64 1, .int .i64 1, .int .i64 1, .slice none 0 0, .slice (some ⟨bt, 0, none⟩) 1 1], .slice (some ⟨be, 0, none⟩) 2 2, .int .i64 0, .int .i64 9] w fun e w' => e = .returned (.tuple #[.int .i64 1, .int .i64 1, .int .i64 0]) ∧ Below w.heap.size w w' := by
  have s1 : Sl w 1 none 0 0 (nf (fun _ => 0)) := ⟨Nat.le_refl _, by decide, fun _ => ⟨rfl, rfl⟩, fun _ => rfl, fun i hi => absurd hi (by omega)⟩
  have s2 := Sl.of_block (n := 1) (s := 1) (f := nf (fun _ => 1)) ht (fun _ => rfl) rfl (by decide)
  have s3 := Sl.of_block (n := 2) (s := 9) (f := fun i => evs (awE i)) he (fun _ => rfl) rfl (by decide)
  refine (moved13 (awF (some ⟨bt, 0, none⟩)) (some ⟨be, 0, none⟩) 2 2 awE 0 9 w ⟨s1, s2⟩ s3 (by decide) (fun e he => ?_)).mono ?_
  · obtain ⟨i, hi, rfl⟩ := mem_ents.1 he
    rcases (by omega : i = 0 ∨ i = 1) with rfl | rfl <;> (intro x hx; revert x; decide)
  · rintro e w' ⟨rfl, bb⟩
    rw [aw_movedV]
    exact ⟨rfl, bb⟩
end
end Go.Proofs.YtlnfhlmgnppcbaaGreat
namespace Go.Proofs.YtlnfhlmgnppcbaaGreat
open Go.RowKit Go.ChangeShapes Go.WideShapes Go.Deep
set_option linter.unusedVariables false
set_option linter.unusedSimpArgs false
set_option maxRecDepth 8000
open Rd
set_option maxHeartbeats 16000000 in
theorem awakeC19 (w : World) : Calls Tryz.prog 19 #[] w fun e w' => e = .returned (.bool true) ∧ Below w.heap.size w w' := by
  go_enter Tryz.func19, Tryz.ntmps19
  go_wp2_with fail
  refine (sample48 w).mono ?_
  rintro e w1 ⟨b1, b2, b3, rfl, hg, bb⟩
  have eC : (smG (some ⟨b1, 0, none⟩) (some ⟨b2, 0, none⟩) (some ⟨b3, 0, none⟩)).cells = #[.int .i64 3, .slice (some ⟨b1, 0, none⟩) 6 6, .slice (some ⟨b2, 0, none⟩) 1 1, .slice (some ⟨b3, 0, none⟩) 2 2, .int .i64 10] := rfl
  rw [eC]
  have X0 := al_keep (al_keep (al_at w1 (.cells #[.int .i64 0, .int .i64 1] 3) rfl) (.cells #[.int .i64 3, .slice (some ⟨b1, 0, none⟩) 6 6, .slice (some ⟨b2, 0, none⟩) 1 1, .slice (some ⟨b3, 0, none⟩) 2 2, .int .i64 10] 32)) (.cells #[.int .i64 0, .slice (some ⟨w1.heap.size, 0, none⟩) 2 2] 51)
  have XN := Lib.hid (al_keep (al_at (w1.alloc (.cells #[.int .i64 0, .int .i64 1] 3)) (.cells #[.int .i64 3, .slice (some ⟨b1, 0, none⟩) 6 6, .slice (some ⟨b2, 0, none⟩) 1 1, .slice (some ⟨b3, 0, none⟩) 2 2, .int .i64 10] 32) (k := w1.heap.size + 1) (by simp)) (.cells #[.int .i64 0, .slice (some ⟨w1.heap.size, 0, none⟩) 2 2] 51))
  have XR := Lib.hid (al_at ((w1.alloc (.cells #[.int .i64 0, .int .i64 1] 3)).alloc (.cells #[.int .i64 3, .slice (some ⟨b1, 0, none⟩) 6 6, .slice (some ⟨b2, 0, none⟩) 1 1, .slice (some ⟨b3, 0, none⟩) 2 2, .int .i64 10] 32)) (.cells #[.int .i64 0, .slice (some ⟨w1.heap.size, 0, none⟩) 2 2] 51) (k := w1.heap.size + 1 + 1) (by simp))
  have b2' : Below w1.heap.size w1 (((w1.alloc (.cells #[.int .i64 0, .int .i64 1] 3)).alloc (.cells #[.int .i64 3, .slice (some ⟨b1, 0, none⟩) 6 6, .slice (some ⟨b2, 0, none⟩) 1 1, .slice (some ⟨b3, 0, none⟩) 2 2, .int .i64 10] 32)).alloc (.cells #[.int .i64 0, .slice (some ⟨w1.heap.size, 0, none⟩) 2 2] 51)) := by (repeat' (first | (with_reducible exact Below.refl _ _) | (with_reducible assumption) | (with_reducible refine Below.drew ?_) | (with_reducible refine below_drewN ?_ _) | (with_reducible refine Below.alloc ?_ ?_ _) | (with_reducible refine Below.setCell ?_ ?_ _) | go_size))
  obtain ⟨w2, hw2⟩ : ∃ w2, w2 = ((w1.alloc (.cells #[.int .i64 0, .int .i64 1] 3)).alloc (.cells #[.int .i64 3, .slice (some ⟨b1, 0, none⟩) 6 6, .slice (some ⟨b2, 0, none⟩) 1 1, .slice (some ⟨b3, 0, none⟩) 2 2, .int .i64 10] 32)).alloc (.cells #[.int .i64 0, .slice (some ⟨w1.heap.size, 0, none⟩) 2 2] 51) := ⟨_, rfl⟩
  rw [← hw2] at X0 XN XR b2'
  have HW2 := Lib.hid hw2
  have HS := Lib.hid (Sl.of_block (n := 2) (s := 1) (f := nf smR) X0 (fun _ => rfl) rfl (by decide))
  have HG := Lib.hid (hg.below b2')
  have BW := Lib.hid (bb.trans (b2'.mono bb.size))
  clear hg bb eC X0 b2' hw2
  go_wp2_with fail
  rw [← HW2.out]
  clear HW2
  generalize w1.heap.size = b0 at *
  have C1 := Lib.hid (aw_rest1 b1 b2 b3 b0 w2 HG.out HS.out)
  unfold awC awR at C1
  refine C1.out.mono ?_
  rintro e w3 ⟨va, vc, rfl, sv, b3'⟩
  have SV := Lib.hid sv
  replace XN := Lib.hid ((b3'.block _ (block_lt XN.out)).trans XN.out)
  replace XR := Lib.hid ((b3'.block _ (block_lt XR.out)).trans XR.out)
  replace HG := Lib.hid (HG.out.below b3')
  replace HS := Lib.hid (HS.out.below b3')
  replace BW := Lib.hid (BW.out.trans (b3'.mono BW.out.size))
  clear C1 sv b3'
  have C2 := Lib.hid (aw_rest2 b1 b2 b3 b0 w3 HG.out HS.out)
  unfold awC awR at C2
  have n0 := cell_at XN.out 0
  have n1 := cell_at XN.out 1
  have n2 := cell_at XN.out 2
  have n3 := cell_at XN.out 3
  have n4 := cell_at XN.out 4
  have r0 := cell_at XR.out 0
  have r1 := cell_at XR.out 1
  have zn := szs (block_lt XN.out)
  have zr := szs (block_lt XR.out)
  go_wp2_with fail
  refine C2.out.mono ?_
  rintro e w4 ⟨rfl, b4'⟩
  replace SV := Lib.hid (SV.out.below b4')
  replace XN := Lib.hid ((b4'.block _ (block_lt XN.out)).trans XN.out)
  replace XR := Lib.hid ((b4'.block _ (block_lt XR.out)).trans XR.out)
  replace HG := Lib.hid (HG.out.below b4')
  replace HS := Lib.hid (HS.out.below b4')
  replace BW := Lib.hid (BW.out.trans (b4'.mono BW.out.size))
  clear n0 n1 n2 n3 n4 r0 r1 zn zr
  clear C2 b4'
  have C3 := Lib.hid (aw_cut1 b1 b2 b3 b0 w4 HG.out HS.out)
  unfold awC awR at C3
  have n0 := cell_at XN.out 0
  have n1 := cell_at XN.out 1
  have n2 := cell_at XN.out 2
  have n3 := cell_at XN.out 3
  have n4 := cell_at XN.out 4
  have r0 := cell_at XR.out 0
  have r1 := cell_at XR.out 1
  have zn := szs (block_lt XN.out)
  have zr := szs (block_lt XR.out)
  go_wp2_with fail
  refine C3.out.mono ?_
  rintro e w5 ⟨ra, rc, rfl, sr, b5'⟩
  replace SV := Lib.hid (SV.out.below b5')
  replace XN := Lib.hid ((b5'.block _ (block_lt XN.out)).trans XN.out)
  replace XR := Lib.hid ((b5'.block _ (block_lt XR.out)).trans XR.out)
  replace HG := Lib.hid (HG.out.below b5')
  replace HS := Lib.hid (HS.out.below b5')
  replace BW := Lib.hid (BW.out.trans (b5'.mono BW.out.size))
  clear n0 n1 n2 n3 n4 r0 r1 zn zr
  clear C3 b5'
  have n0 := cell_at XN.out 0
  have n1 := cell_at XN.out 1
  have n2 := cell_at XN.out 2
  have n3 := cell_at XN.out 3
  have n4 := cell_at XN.out 4
  have r0 := cell_at XR.out 0
  have r1 := cell_at XR.out 1
  have zn := szs (block_lt XN.out)
  have zr := szs (block_lt XR.out)
  go_wp2_with fail
  have b6' : Below w5.heap.size w5 (w5.alloc (.cells #[.int .i64 0, .slice ra 2 rc] 51)) := by (repeat' (first | (with_reducible exact Below.refl _ _) | (with_reducible assumption) | (with_reducible refine Below.drew ?_) | (with_reducible refine below_drewN ?_ _) | (with_reducible refine Below.alloc ?_ ?_ _) | (with_reducible refine Below.setCell ?_ ?_ _) | go_size))
  have X9 := Lib.hid (al_at w5 (.cells #[.int .i64 0, .slice ra 2 rc] 51) rfl)
  have SR := Lib.hid (sr.below b6')
  replace SV := Lib.hid (SV.out.below b6')
  replace XN := Lib.hid ((b6'.block _ (block_lt XN.out)).trans XN.out)
  replace XR := Lib.hid ((b6'.block _ (block_lt XR.out)).trans XR.out)
  replace HG := Lib.hid (HG.out.below b6')
  replace HS := Lib.hid (HS.out.below b6')
  replace BW := Lib.hid (BW.out.trans (b6'.mono BW.out.size))
  clear n0 n1 n2 n3 n4 r0 r1 zn zr
  clear b6' sr
  generalize w5.alloc (.cells #[.int .i64 0, .slice ra 2 rc] 51) = w6 at *
  generalize w5.heap.size = k9 at *
  have C4 := Lib.hid (aw_cut2 b1 b2 b3 b0 w6 HG.out HS.out)
  unfold awC awR at C4
  refine C4.out.mono ?_
  rintro e w7 ⟨qa, qc, rfl, sq, b5'⟩
  replace SV := Lib.hid (SV.out.below b5')
  replace SR := Lib.hid (SR.out.below b5')
  replace X9 := Lib.hid ((b5'.block _ (block_lt X9.out)).trans X9.out)
  replace XN := Lib.hid ((b5'.block _ (block_lt XN.out)).trans XN.out)
  replace XR := Lib.hid ((b5'.block _ (block_lt XR.out)).trans XR.out)
  replace HG := Lib.hid (HG.out.below b5')
  replace HS := Lib.hid (HS.out.below b5')
  replace BW := Lib.hid (BW.out.trans (b5'.mono BW.out.size))
  clear C4 b5'
  have n0 := cell_at XN.out 0
  have n1 := cell_at XN.out 1
  have n2 := cell_at XN.out 2
  have n3 := cell_at XN.out 3
  have n4 := cell_at XN.out 4
  have r0 := cell_at XR.out 0
  have r1 := cell_at XR.out 1
  have zn := szs (block_lt XN.out)
  have zr := szs (block_lt XR.out)
  go_wp2_with fail
  have b6' : Below w7.heap.size w7 (w7.alloc (.cells #[.int .i64 0, .slice qa 1 qc] 51)) := by (repeat' (first | (with_reducible exact Below.refl _ _) | (with_reducible assumption) | (with_reducible refine Below.drew ?_) | (with_reducible refine below_drewN ?_ _) | (with_reducible refine Below.alloc ?_ ?_ _) | (with_reducible refine Below.setCell ?_ ?_ _) | go_size))
  have X11 := Lib.hid (al_at w7 (.cells #[.int .i64 0, .slice qa 1 qc] 51) rfl)
  have SQ := Lib.hid (sq.below b6')
  replace SV := Lib.hid (SV.out.below b6')
  replace SR := Lib.hid (SR.out.below b6')
  replace X9 := Lib.hid ((b6'.block _ (block_lt X9.out)).trans X9.out)
  replace XN := Lib.hid ((b6'.block _ (block_lt XN.out)).trans XN.out)
  replace XR := Lib.hid ((b6'.block _ (block_lt XR.out)).trans XR.out)
  replace HG := Lib.hid (HG.out.below b6')
  replace HS := Lib.hid (HS.out.below b6')
  replace BW := Lib.hid (BW.out.trans (b6'.mono BW.out.size))
  clear n0 n1 n2 n3 n4 r0 r1 zn zr
  clear b6' sq
  generalize w7.alloc (.cells #[.int .i64 0, .slice qa 1 qc] 51) = w8 at *
  generalize w7.heap.size = k11 at *
  have C5 := Lib.hid (aw_cut3  b1 b2 b3 b0 w8 HG.out HS.out)
  unfold awC awR at C5
  refine C5.out.mono ?_
  rintro e w9 ⟨rfl, b5'⟩
  replace SV := Lib.hid (SV.out.below b5')
  replace SR := Lib.hid (SR.out.below b5')
  replace SQ := Lib.hid (SQ.out.below b5')
  replace X9 := Lib.hid ((b5'.block _ (block_lt X9.out)).trans X9.out)
  replace X11 := Lib.hid ((b5'.block _ (block_lt X11.out)).trans X11.out)
  replace BW := Lib.hid (BW.out.trans (b5'.mono BW.out.size))
  clear C5 b5' XN XR HG HS
  go_wp2_with fail
  have XT := (al_keep (al_keep (al_at (w9.alloc (.cells #[.int .i64 0, .slice none 0 0] 51)) (.cells #[.int .i64 1] 3) (k := w9.heap.size + 1) (by simp)) (.cells #[.int .i64 1, .int .i64 1, .int .i64 1, .slice none 0 0, .slice (some ⟨w9.heap.size + 1, 0, none⟩) 1 1] 24)) (.cells #[.int .i64 0, .int .i64 1, .int .i64 5, .int .i64 5, .int .i64 7, .int .i64 0, .int .i64 0, .int .i64 0, .int .i64 0, .int .i64 0, .int .i64 2, .int .i64 9, .int .i64 9, .int .i64 2, .int .i64 0, .int .i64 3, .int .i64 0, .int .i64 0] 81))
  have XE := (al_at (((w9.alloc (.cells #[.int .i64 0, .slice none 0 0] 51)).alloc (.cells #[.int .i64 1] 3)).alloc (.cells #[.int .i64 1, .int .i64 1, .int .i64 1, .slice none 0 0, .slice (some ⟨w9.heap.size + 1, 0, none⟩) 1 1] 24)) (.cells #[.int .i64 0, .int .i64 1, .int .i64 5, .int .i64 5, .int .i64 7, .int .i64 0, .int .i64 0, .int .i64 0, .int .i64 0, .int .i64 0, .int .i64 2, .int .i64 9, .int .i64 9, .int .i64 2, .int .i64 0, .int .i64 3, .int .i64 0, .int .i64 0] 81) (k := w9.heap.size + 1 + 1 + 1) (by simp))
  have b10 : Below w9.heap.size w9 ((((w9.alloc (.cells #[.int .i64 0, .slice none 0 0] 51)).alloc (.cells #[.int .i64 1] 3)).alloc (.cells #[.int .i64 1, .int .i64 1, .int .i64 1, .slice none 0 0, .slice (some ⟨w9.heap.size + 1, 0, none⟩) 1 1] 24)).alloc (.cells #[.int .i64 0, .int .i64 1, .int .i64 5, .int .i64 5, .int .i64 7, .int .i64 0, .int .i64 0, .int .i64 0, .int .i64 0, .int .i64 0, .int .i64 2, .int .i64 9, .int .i64 9, .int .i64 2, .int .i64 0, .int .i64 3, .int .i64 0, .int .i64 0] 81)) := by (repeat' (first | (with_reducible exact Below.refl _ _) | (with_reducible assumption) | (with_reducible refine Below.drew ?_) | (with_reducible refine below_drewN ?_ _) | (with_reducible refine Below.alloc ?_ ?_ _) | (with_reducible refine Below.setCell ?_ ?_ _) | go_size))
  replace SV := Lib.hid (SV.out.below b10)
  replace SR := Lib.hid (SR.out.below b10)
  replace SQ := Lib.hid (SQ.out.below b10)
  replace X9 := Lib.hid ((b10.block _ (block_lt X9.out)).trans X9.out)
  replace X11 := Lib.hid ((b10.block _ (block_lt X11.out)).trans X11.out)
  replace BW := Lib.hid (BW.out.trans (b10.mono BW.out.size))
  generalize World.alloc (World.alloc (World.alloc (World.alloc w9 _) _) _) _ = w10 at *
  have C6 := Lib.hid (aw_moved w10 (w9.heap.size + 1) (w9.heap.size + 1 + 1 + 1) XT XE)
  refine C6.out.mono ?_
  rintro e w11 ⟨rfl, b11⟩
  replace SV := Lib.hid (SV.out.below b11)
  replace SR := Lib.hid (SR.out.below b11)
  replace SQ := Lib.hid (SQ.out.below b11)
  replace X9 := Lib.hid ((b11.block _ (block_lt X9.out)).trans X9.out)
  replace X11 := Lib.hid ((b11.block _ (block_lt X11.out)).trans X11.out)
  replace BW := Lib.hid (BW.out.trans (b11.mono BW.out.size))
  clear C6 XT XE b10 b11
  have XV := al_at w11 (.cells #[.int .i64 1, .int .i64 1260, .int .i64 1310, .int .i64 3] 56) rfl
  have b12 : Below w11.heap.size w11 (w11.alloc (.cells #[.int .i64 1, .int .i64 1260, .int .i64 1310, .int .i64 3] 56)) := by (repeat' (first | (with_reducible exact Below.refl _ _) | (with_reducible assumption) | (with_reducible refine Below.drew ?_) | (with_reducible refine below_drewN ?_ _) | (with_reducible refine Below.alloc ?_ ?_ _) | (with_reducible refine Below.setCell ?_ ?_ _) | go_size))
  have C7 := Lib.hid (same22 va (some ⟨w11.heap.size, 0, none⟩) 1 vc 1 _ (fun _ => ⟨1, 1260, 1310, 3⟩) _ (SV.out.below b12) (Sl.of_block (n := 1) (s := 4) XV (fun _ => rfl) rfl (by decide)) (fun _ _ => rfl))
  go_wp2_with fail
  replace SV := Lib.hid (SV.out.below b12)
  replace SR := Lib.hid (SR.out.below b12)
  replace SQ := Lib.hid (SQ.out.below b12)
  replace X9 := Lib.hid ((b12.block _ (block_lt X9.out)).trans X9.out)
  replace X11 := Lib.hid ((b12.block _ (block_lt X11.out)).trans X11.out)
  replace BW := Lib.hid (BW.out.trans (b12.mono BW.out.size))
  generalize World.alloc w11 _ = w12 at *
  refine C7.out.mono ?_
  rintro e w13 ⟨rfl, b13⟩
  replace SV := Lib.hid (SV.out.below b13)
  replace SR := Lib.hid (SR.out.below b13)
  replace SQ := Lib.hid (SQ.out.below b13)
  replace X9 := Lib.hid ((b13.block _ (block_lt X9.out)).trans X9.out)
  replace X11 := Lib.hid ((b13.block _ (block_lt X11.out)).trans X11.out)
  replace BW := Lib.hid (BW.out.trans (b13.mono BW.out.size))
  clear C7 XV b12 b13
  have XV := al_at w13 (.cells #[.int .i64 0, .int .i64 1] 3) rfl
  have b12 : Below w13.heap.size w13 (w13.alloc (.cells #[.int .i64 0, .int .i64 1] 3)) := by (repeat' (first | (with_reducible exact Below.refl _ _) | (with_reducible assumption) | (with_reducible refine Below.drew ?_) | (with_reducible refine below_drewN ?_ _) | (with_reducible refine Below.alloc ?_ ?_ _) | (with_reducible refine Below.setCell ?_ ?_ _) | go_size))
  have C7 := Lib.hid (same29 ra (some ⟨w13.heap.size, 0, none⟩) 2 rc 2 smR smR _ (SR.out.below b12) (Sl.of_block (n := 2) (s := 1) XV (fun _ => rfl) rfl (by decide)) (fun _ _ => rfl))
  have x1 := cell_at X9.out 1
  have y1 := cell_at X11.out 1
  have zx := szs (block_lt X9.out)
  have zy := szs (block_lt X11.out)
  go_wp2_with fail
  clear x1 y1 zx zy
  replace SV := Lib.hid (SV.out.below b12)
  replace SR := Lib.hid (SR.out.below b12)
  replace SQ := Lib.hid (SQ.out.below b12)
  replace X9 := Lib.hid ((b12.block _ (block_lt X9.out)).trans X9.out)
  replace X11 := Lib.hid ((b12.block _ (block_lt X11.out)).trans X11.out)
  replace BW := Lib.hid (BW.out.trans (b12.mono BW.out.size))
  generalize World.alloc w13 _ = w14 at *
  refine C7.out.mono ?_
  rintro e w15 ⟨rfl, b13⟩
  replace SV := Lib.hid (SV.out.below b13)
  replace SR := Lib.hid (SR.out.below b13)
  replace SQ := Lib.hid (SQ.out.below b13)
  replace X9 := Lib.hid ((b13.block _ (block_lt X9.out)).trans X9.out)
  replace X11 := Lib.hid ((b13.block _ (block_lt X11.out)).trans X11.out)
  replace BW := Lib.hid (BW.out.trans (b13.mono BW.out.size))
  clear C7 XV b12 b13
  have XV := al_at w15 (.cells #[.int .i64 0] 3) rfl
  have b12 : Below w15.heap.size w15 (w15.alloc (.cells #[.int .i64 0] 3)) := by (repeat' (first | (with_reducible exact Below.refl _ _) | (with_reducible assumption) | (with_reducible refine Below.drew ?_) | (with_reducible refine below_drewN ?_ _) | (with_reducible refine Below.alloc ?_ ?_ _) | (with_reducible refine Below.setCell ?_ ?_ _) | go_size))
  have C7 := Lib.hid (same29 qa (some ⟨w15.heap.size, 0, none⟩) 1 qc 1 smR smR _ (SQ.out.below b12) (Sl.of_block (n := 1) (s := 1) XV (fun _ => rfl) rfl (by decide)) (fun _ _ => rfl))
  have x1 := cell_at X9.out 1
  have y1 := cell_at X11.out 1
  have zx := szs (block_lt X9.out)
  have zy := szs (block_lt X11.out)
  go_wp2_with fail
  clear x1 y1 zx zy
  replace SV := Lib.hid (SV.out.below b12)
  replace SR := Lib.hid (SR.out.below b12)
  replace SQ := Lib.hid (SQ.out.below b12)
  replace X9 := Lib.hid ((b12.block _ (block_lt X9.out)).trans X9.out)
  replace X11 := Lib.hid ((b12.block _ (block_lt X11.out)).trans X11.out)
  replace BW := Lib.hid (BW.out.trans (b12.mono BW.out.size))
  generalize World.alloc w15 _ = w16 at *
  refine C7.out.mono ?_
  rintro e w17 ⟨rfl, b13⟩
  replace BW := Lib.hid (BW.out.trans (b13.mono BW.out.size))
  clear C7 XV b12 b13 SV SR SQ X9 X11
  have XV := al_at w17 (.cells #[.int .i64 0, .int .i64 0, .int .i64 5, .int .i64 2, .int .i64 9, .int .i64 1] 46) rfl
  have b12 : Below w17.heap.size w17 (w17.alloc (.cells #[.int .i64 0, .int .i64 0, .int .i64 5, .int .i64 2, .int .i64 9, .int .i64 1] 46)) := by (repeat' (first | (with_reducible exact Below.refl _ _) | (with_reducible assumption) | (with_reducible refine Below.drew ?_) | (with_reducible refine below_drewN ?_ _) | (with_reducible refine Below.alloc ?_ ?_ _) | (with_reducible refine Below.setCell ?_ ?_ _) | go_size))
  have SV := Lib.hid (Sl.of_block (n := 3) (s := 2) (f := lvf awV) XV (fun _ => rfl) rfl (by decide))
  have C8 := Lib.hid (carried15 (some ⟨w17.heap.size, 0, none⟩) 3 3 awV 2 _ SV.out)
  rw [aw_car2] at C8
  go_wp2_with fail
  replace BW := Lib.hid (BW.out.trans (b12.mono BW.out.size))
  generalize World.alloc w17 _ = w18 at *
  generalize w17.heap.size = kv at *
  refine C8.out.mono ?_
  rintro e w19 ⟨rfl, b13⟩
  replace BW := Lib.hid (BW.out.trans (b13.mono BW.out.size))
  replace SV := Lib.hid (SV.out.below b13)
  have C9 := Lib.hid (carried15 (some ⟨kv, 0, none⟩) 3 3 awV 1 _ SV.out)
  rw [aw_car1] at C9
  clear C8 XV b12 b13
  go_wp2_with fail
  refine C9.out.mono ?_
  rintro e w20 ⟨rfl, b13⟩
  replace BW := Lib.hid (BW.out.trans (b13.mono BW.out.size))
  clear C9 b13
  go_wp2_with fail
  go_returns
  exact ⟨rfl, BW.out⟩
end Go.Proofs.YtlnfhlmgnppcbaaGreat
