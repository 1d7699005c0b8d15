/- Levels: can they be the loads of a truck? The program's answer and the reference's. -/
import Derived.Test.YtlnfhlmgnppcbaaA
import Derived.Test.YtlnfhlmgnppcbaaCUR
import Derived.BigQuiet
namespace Go.Proofs.Ytlnfhlmgnppcbaa
open Go.RowKit Go.ChangeShapes Go.WideShapes Go.Deep
set_option linter.unusedVariables false
set_option linter.unusedSimpArgs false
def lvf (F : Nat → Int × Int) : Nat → List Value := fun i => [.int .i64 (F i).1, .int .i64 (F i).2]
theorem lvf_len (F : Nat → Int × Int) (i : Nat) : (lvf F i).length = 2 := rfl
theorem Sl.lv {w : World} {ao : Option Addr} {n c : Nat} {F : Nat → Int × Int} (h : Sl w 2 ao n c (lvf F)) {i : Nat} (hi : i < n) : ∃ g o, ao = some ⟨g, o, none⟩ ∧ g < w.heap.size ∧ w.cell? ⟨g, o + i * 2, none⟩ = some (.int .i64 (F i).1) ∧ w.cell? ⟨g, o + i * 2 + 1, none⟩ = some (.int .i64 (F i).2) := by
  obtain ⟨g, o, e, hc⟩ := h.cell hi
  have h0 : w.cell? ⟨g, o + i * 2, none⟩ = some (.int .i64 (F i).1) := hc 0 (by decide)
  exact ⟨g, o, e, cell_lt h0, h0, hc 1 (by decide)⟩
/-- Is this level right behind the one before it? -/
def lvI (cap : Int) (F : Nat → Int × Int) (i : Nat) : Prop := 0 ≤ (F i).2 ∧ (F i).2 ≤ cap ∧ (0 < i → (F (i - 1)).1 < (F i).1 ∧ (F i).2 ≠ (F (i - 1)).2)
def carP (cap : Int) (n : Nat) (F : Nat → Int × Int) : Prop := n ≠ 0 ∧ F 0 = (0, 0) ∧ ∀ i, i < n → lvI cap F i
noncomputable def carB (cap : Int) (n : Nat) (F : Nat → Int × Int) : Bool := @decide (carP cap n F) (Classical.propDecidable _)
theorem carB_yes {cap : Int} {n : Nat} {F : Nat → Int × Int} (h : carP cap n F) : carB cap n F = true := @decide_eq_true _ (Classical.propDecidable _) h
theorem carB_no {cap : Int} {n : Nat} {F : Nat → Int × Int} (h : ¬ carP cap n F) : carB cap n F = false := @decide_eq_false _ (Classical.propDecidable _) h
set_option maxRecDepth 8000 in
set_option maxHeartbeats 8000000 in
theorem carried29 (ao : Option Addr) (n c : Nat) (F : Nat → Int × Int) (cap : Int) (w : World) (h : Sl w 2 ao n c (lvf F)) : Calls Try.prog 29 #[.slice ao n c, .int .i64 cap] w fun e w' => e = .returned (.bool (carB cap n F)) ∧ Below w.heap.size w w' := by
  have hmc := h.hm
  have hcc := h.hc
  by_cases hn : n = 0
  · subst hn
    rw [carB_no (fun h => h.1 rfl)]
    clear h
    go_enter Try.func29, Try.ntmps29
    go_wp2_with fail
    go_returns
    exact ⟨rfl, by (repeat' (first | (with_reducible exact Below.refl _ _) | (with_reducible assumption) | (with_reducible refine Below.drew ?_) | (with_reducible refine below_drewN ?_ _) | (with_reducible refine Below.alloc ?_ ?_ _) | (with_reducible refine Below.setCell ?_ ?_ _) | go_size))⟩
  obtain ⟨g, o, rfl, hg, e0, e1⟩ := h.lv (i := 0) (by omega)
  have tn : decide (n = 0) = false := decide_eq_false hn
  have tn2 : ((n : Int) == 0) = false := by simp; omega
  have tn3 : (0 : Int) < (n : Int) := by omega
  simp only [Nat.zero_mul, Nat.add_zero] at e0 e1
  have zg := szs hg
  have HS := Lib.hid h
  obtain ⟨r, hr⟩ : ∃ r, r = carB cap n F := ⟨_, rfl⟩
  rw [← hr]
  have HR0 := Lib.hid hr
  clear hr h
  generalize hf0 : F 0 = f0 at *
  have HF0 := Lib.hid hf0
  clear hf0
  obtain ⟨a0, c0⟩ := f0
  dsimp only at e0 e1
  by_cases h0 : a0 = 0 ∧ c0 = 0
  · obtain ⟨rfl, rfl⟩ := h0
    go_enter Try.func29, Try.ntmps29
    go_wp2_with fail
    go_loopw [19] (fun s19 wr => ∃ k : Nat, s19 = .int .i64 k ∧ k ≤ n ∧ Hid (∀ i, i < k → lvI cap F i) ∧ Hid (Below w.heap.size w wr)) (fun s19 _ => n - (intOf s19).toNat)
    case atStart => exact ⟨0, rfl, by omega, Lib.hid (fun i hi => absurd hi (by omega)), Lib.hid (Below.refl _ _)⟩
    case round =>
      obtain ⟨k, rfl, hk, hv, hb⟩ := hrel
      have HV := hv
      have BW := hb
      clear hv hb
      by_cases hlt : k < n
      · have tk : (k : Int) < (n : Int) := by omega
        obtain ⟨_, _, e', _, p0, p1⟩ := (HS.out.below BW.out).lv hlt
        cases e'
        have zb := szs (show g < wr.heap.size from cell_lt p0)
        generalize hfk : F k = fk at *
        have HFK := Lib.hid hfk
        clear hfk
        obtain ⟨ak, ck⟩ := fk
        dsimp only at p0 p1
        have BB : Hid (Below w.heap.size w (wr.alloc (.cells #[.int .i64 ak, .int .i64 ck] 95))) := Lib.hid (BW.out.alloc BW.out.size _)
        by_cases h1 : ck < 0
        · have t1 : decide (ck < 0) = true := decide_eq_true h1
          have HFP := 0
          obtain rfl : r = false := by rw [HR0.out]; exact carB_no (fun h => by have := h.2.2 k hlt; unfold lvI at this; rw [HFK.out] at this; dsimp only at this; omega)
          clear HR0 HFK HFP
          go_wp2_with fail
          (refine region_all (fun i : Nat => World.drewN _ i) mixed (by kernel_rfl) ⟨1, rfl⟩ ?_; (repeat (any_goals (first | go_big_quiet_step (fail) | quiet_step (fail) | (refine wpQuiet_step (fun K hK => ?_); go_simp; split <;> (refine hK _ ?_; clear hK K))))); (all_goals (refine wpQuiet_nil (fun nq => ?_))))
          go_wp2_with fail
          go_returns
          exact ⟨rfl, below_drewN BB.out _⟩
        have t1 : decide (ck < 0) = false := decide_eq_false h1
        by_cases h2 : cap < ck
        · have t2 : decide (cap < ck) = true := decide_eq_true h2
          have HFP := 0
          obtain rfl : r = false := by rw [HR0.out]; exact carB_no (fun h => by have := h.2.2 k hlt; unfold lvI at this; rw [HFK.out] at this; dsimp only at this; omega)
          clear HR0 HFK HFP
          go_wp2_with fail
          (refine region_all (fun i : Nat => World.drewN _ i) mixed (by kernel_rfl) ⟨1, rfl⟩ ?_; (repeat (any_goals (first | go_big_quiet_step (fail) | quiet_step (fail) | (refine wpQuiet_step (fun K hK => ?_); go_simp; split <;> (refine hK _ ?_; clear hK K))))); (all_goals (refine wpQuiet_nil (fun nq => ?_))))
          go_wp2_with fail
          go_returns
          exact ⟨rfl, below_drewN BB.out _⟩
        have t2 : decide (cap < ck) = false := decide_eq_false h2
        by_cases h3 : k = 0
        · subst h3
          simp only [Nat.zero_mul, Nat.add_zero] at p0 p1
          have HG : Hid (lvI cap F 0) := Lib.hid (by unfold lvI; rw [HFK.out]; exact ⟨by omega, by omega, fun h => absurd h (by omega)⟩)
          go_wp2_with fail
          (refine region_all (fun i : Nat => World.drewN _ i) mixed (by kernel_rfl) ⟨1, rfl⟩ ?_; (repeat (any_goals (first | go_big_quiet_step (fail) | quiet_step (fail) | (refine wpQuiet_step (fun K hK => ?_); go_simp; split <;> (refine hK _ ?_; clear hK K))))); (all_goals (refine wpQuiet_nil (fun nq => ?_))))
          go_wp2_with fail
          go_roundw
          case rel => exact ⟨0 + 1, by go_num, by omega, Lib.hid (fun i hi => by
            rcases Nat.lt_or_ge i (0) with h | h
            · exact HV.out i h
            · obtain rfl : i = 0 := by omega
              exact HG.out), Lib.hid (below_drewN BB.out _)⟩
          case measure => simp [intOf]; omega
        · obtain ⟨j, rfl⟩ : ∃ j, k = j + 1 := ⟨k - 1, by omega⟩
          obtain ⟨_, _, e', _, q0, q1⟩ := (HS.out.below BW.out).lv (i := j) (by omega)
          cases e'
          generalize hfp : F j = fp at *
          have HFP := Lib.hid hfp
          clear hfp
          obtain ⟨aj, cj⟩ := fp
          dsimp only at q0 q1
          have ej : ((j + 1 : Nat) : Int) = (j : Int) + 1 := rfl
          rw [ej] at tk ⊢
          have tj0 : decide ((0 : Int) < (j : Int) + 1) = true := decide_eq_true (by omega)
          have tj2 : (j : Int) < (n : Int) := by omega
          by_cases h4 : ak ≤ aj
          · have t4 : decide (ak ≤ aj) = true := decide_eq_true h4
            obtain rfl : r = false := by rw [HR0.out]; exact carB_no (fun h => by have := h.2.2 (j + 1) hlt; unfold lvI at this; rw [show j + 1 - 1 = j from rfl, HFK.out, HFP.out] at this; dsimp only at this; omega)
            clear HR0 HFK HFP
            go_wp2_with fail
            (refine region_all (fun i : Nat => World.drewN _ i) mixed (by kernel_rfl) ⟨1, rfl⟩ ?_; (repeat (any_goals (first | go_big_quiet_step (fail) | quiet_step (fail) | (refine wpQuiet_step (fun K hK => ?_); go_simp; split <;> (refine hK _ ?_; clear hK K))))); (all_goals (refine wpQuiet_nil (fun nq => ?_))))
            go_wp2_with fail
            go_returns
            exact ⟨rfl, below_drewN BB.out _⟩
          have t4 : decide (ak ≤ aj) = false := decide_eq_false h4
          by_cases h5 : ck = cj
          · subst h5
            have t5 : (ck == ck) = true := by simp
            obtain rfl : r = false := by rw [HR0.out]; exact carB_no (fun h => by have := h.2.2 (j + 1) hlt; unfold lvI at this; rw [show j + 1 - 1 = j from rfl, HFK.out, HFP.out] at this; dsimp only at this; omega)
            clear HR0 HFK HFP
            go_wp2_with fail
            (refine region_all (fun i : Nat => World.drewN _ i) mixed (by kernel_rfl) ⟨1, rfl⟩ ?_; (repeat (any_goals (first | go_big_quiet_step (fail) | quiet_step (fail) | (refine wpQuiet_step (fun K hK => ?_); go_simp; split <;> (refine hK _ ?_; clear hK K))))); (all_goals (refine wpQuiet_nil (fun nq => ?_))))
            go_wp2_with fail
            go_returns
            exact ⟨rfl, below_drewN BB.out _⟩
          have t5 : (ck == cj) = false := by simpa using h5
          have HG : Hid (lvI cap F (j + 1)) := Lib.hid (by unfold lvI; rw [show j + 1 - 1 = j from rfl, HFK.out, HFP.out]; exact ⟨by omega, by omega, fun h => ⟨by show aj < ak; omega, h5⟩⟩)
          clear h4 h5
          go_wp2_with fail
          (refine region_all (fun i : Nat => World.drewN _ i) mixed (by kernel_rfl) ⟨1, rfl⟩ ?_; (repeat (any_goals (first | go_big_quiet_step (fail) | quiet_step (fail) | (refine wpQuiet_step (fun K hK => ?_); go_simp; split <;> (refine hK _ ?_; clear hK K))))); (all_goals (refine wpQuiet_nil (fun nq => ?_))))
          go_wp2_with fail
          go_roundw
          case rel => exact ⟨j + 1 + 1, by go_num, by omega, Lib.hid (fun i hi => by
            rcases Nat.lt_or_ge i (j + 1) with h | h
            · exact HV.out i h
            · obtain rfl : i = j + 1 := by omega
              exact HG.out), Lib.hid (below_drewN BB.out _)⟩
          case measure => simp [intOf]; omega
      · obtain rfl : k = n := by omega
        obtain rfl : r = true := by rw [HR0.out]; exact carB_yes ⟨hn, HF0.out, HV.out⟩
        go_wp2_with fail
        go_returns
        exact ⟨rfl, BW.out⟩
  · obtain rfl : r = false := by rw [HR0.out]; exact carB_no (fun h => by have := h.2.1; rw [HF0.out] at this; cases this; exact h0 ⟨rfl, rfl⟩)
    go_enter Try.func29, Try.ntmps29
    go_wp2_with fail
    all_goals (go_returns; exact ⟨rfl, Below.refl _ _⟩)
end Go.Proofs.Ytlnfhlmgnppcbaa
