/- The bound's inner function: a share of the seconds. -/
import Derived.Test.YtanpefjbmpohdaaBD0
import Derived.Test.YtanpefjbmpohdaaK5
namespace Go.Proofs.Ytanpefjbmpohdaa
open Go.RowKit Go.ChangeShapes Go.WideShapes Go.Deep
set_option linter.unusedVariables false
set_option linter.unusedSimpArgs false
set_option maxHeartbeats 1000000 in
theorem share30 (b : Nat) (most secs : Int) (many : Nat) (w : World) (hb : w.heap[b]? = some (.cells #[.int .i64 most] 3 (0, 0))) (hs0 : 0 ≤ secs) (hs1 : secs ≤ 3000000) (hm : many ≤ 100) :
    Calls Try.prog 30 #[.int .i64 secs, .int .i64 many, .pointer (some ⟨b, 0, none⟩)] w fun e w' => e = .returned (.tuple #[]) ∧ w'.heap[b]? = some (.cells #[.int .i64 (shr most secs many)] 3 (0, 0)) ∧ Off (fun i => i = b) w w' := by
  have c0 : w.cell? ⟨b, 0, none⟩ = some (.int .i64 most) := cell_at hb 0
  have cf : w.frozen? ⟨b, 0, none⟩ = false := free_at hb 0
  have zb := szs (block_lt hb)
  have HB := Lib.hid hb
  clear hb
  by_cases h0 : 0 < many
  · have e : shr most secs many = mx most (cei secs many) := by simp [shr, h0]
    have HE := Lib.hid e
    have t0 : (0 : Int) < (many : Int) := by omega
    have w1 : IntKind.i64.wrap (secs + many) = secs + many := IntWalk.i64_in _ (by omega)
    have w2 : IntKind.i64.wrap (secs + many - 1) = secs + many - 1 := IntWalk.i64_in _ (by omega)
    have w3 : Int.tdiv (secs + many - 1) many = cei secs many := Int.tdiv_eq_ediv_of_nonneg (by omega)
    have hcr := cei_range hs0 h0
    have w4 : IntKind.i64.wrap (cei secs many) = cei secs many := IntWalk.i64_in _ (by omega)
    have tz : ((many : Int) == 0) = false := by simp; omega
    have key : ∀ nq x, shr most secs many = x → ((w.drewN nq).setCell ⟨b, 0, none⟩ (.int .i64 x)).heap[b]? = some (.cells #[.int .i64 (shr most secs many)] 3 (0, 0)) ∧ Off (fun i => i = b) w ((w.drewN nq).setCell ⟨b, 0, none⟩ (.int .i64 x)) := fun nq x hx => by
      have hb2 : (w.drewN nq).heap[b]? = some (.cells #[.int .i64 most] 3 (0, 0)) := (below_drewN (Below.refl _ _) nq).block b (block_lt HB.out) ▸ HB.out
      refine ⟨?_, (Off.of_below (X := fun i => i = b) (below_drewN (Below.refl _ _) nq)).setCell (fun _ => rfl) _⟩
      rw [setCell_at hb2, setAt_same (block_lt hb2), hx]
      rfl
    have KEY := Lib.hid key
    clear hcr key e
    by_cases hlt : most < cei secs many
    · have hx : shr most secs many = cei secs many := by rw [HE.out]; simp [mx, hlt]
      have HX := Lib.hid hx
      clear hx HE
      go_enter Try.func30, Try.ntmps30
      go_wp2_with fail
      (refine region_order (fun i : Nat => World.drewN _ i) [] [0, 1, 2, 3, 4, 5, 6, 7] 8 [] mixed (by kernel_rfl) ⟨1, rfl⟩ ?_; simp only [List.map_cons, List.map_nil, Array.getD_eq_getD_getElem?, List.getElem?_toArray, List.getElem?_cons_zero, List.getElem?_cons_succ, Option.getD_some]; (repeat (refine wpPure_cons _ rfl (fun w' => by go_simp; try rfl) ?_; dsimp only [Act.put])); refine wpPure_nil ?_; (repeat (any_goals (first | go_big_quiet_step (fail) | quiet_step (fail) | (refine wpQuiet_step (fun K hK => ?_); go_simp; split <;> (refine hK _ ?_; clear hK K))))); (all_goals (refine wpQuiet_nil (fun nq => ?_))))
      go_wp2_with fail
      refine onlyN_intro ?_
      go_end0
      exact ⟨rfl, KEY.out _ _ HX.out⟩
    · have hx : shr most secs many = most := by rw [HE.out]; simp [mx, hlt]
      have HX := Lib.hid hx
      have hge : cei secs many ≤ most := by omega
      clear hx HE hlt
      go_enter Try.func30, Try.ntmps30
      go_wp2_with fail
      (refine region_order (fun i : Nat => World.drewN _ i) [] [0, 1, 2, 3, 4, 5, 6, 7] 8 [] mixed (by kernel_rfl) ⟨1, rfl⟩ ?_; simp only [List.map_cons, List.map_nil, Array.getD_eq_getD_getElem?, List.getElem?_toArray, List.getElem?_cons_zero, List.getElem?_cons_succ, Option.getD_some]; (repeat (refine wpPure_cons _ rfl (fun w' => by go_simp; try rfl) ?_; dsimp only [Act.put])); refine wpPure_nil ?_; (repeat (any_goals (first | go_big_quiet_step (fail) | quiet_step (fail) | (refine wpQuiet_step (fun K hK => ?_); go_simp; split <;> (refine hK _ ?_; clear hK K))))); (all_goals (refine wpQuiet_nil (fun nq => ?_))))
      go_wp2_with fail
      refine onlyN_intro ?_
      go_end0
      exact ⟨rfl, KEY.out _ _ HX.out⟩
  · have e : shr most secs many = most := by simp [shr, h0]
    have HE := Lib.hid e
    have t0 : (many : Int) ≤ 0 := by omega
    clear e h0
    go_enter Try.func30, Try.ntmps30
    go_wp2_with fail
    go_end0
    exact ⟨rfl, by rw [HE.out]; exact HB.out, Off.refl _ _⟩
end Go.Proofs.Ytanpefjbmpohdaa
