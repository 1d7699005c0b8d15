/- Two entries of a queue's heap exchanged. -/
import Derived.Test.YtlnfhlmgnppcbaaR8Q1
namespace Go.Proofs.Ytlnfhlmgnppcbaa
open Go.RowKit
namespace QT
set_option linter.unusedVariables false
set_option linter.unusedSimpArgs false
set_option maxRecDepth 8000
theorem RowE.put {w : World} {base g n cap : Nat} {G : Nat → T × Int} (h : RowE w base (.slice (some ⟨g, 0, none⟩) n cap) n G) {i : Nat} (hi : i < n) (x : T × Int) :
    RowE (putCells w g (i * 4) (ec x)) base (.slice (some ⟨g, 0, none⟩) n cap) n (upd G i x) :=
  Row.congr (Row.put h (fun i => ec_len (G i)) hi (ec x) (ec_len x)) fun j _ => by
    by_cases hj : j = i
    · subst hj; rw [upd_same, upd_same]
    · rw [upd_ne hj, upd_ne hj]
set_option maxHeartbeats 1000000 in
theorem swap (d : D) (w : World) (base q g n cap : Nat) (p : Int) (G : Nat → T × Int) (i k : Nat) (hq : QB w q d (.slice (some ⟨g, 0, none⟩) n cap) p) (hr : RowE w base (.slice (some ⟨g, 0, none⟩) n cap) n G)
    (hi : i < n) (hk : k < n) (hn : n ≤ cap) (hc : cap ≤ 9223372036854775807) (hne : q ≠ g) :
    Calls Try.prog 145 #[.pointer (some ⟨q, 0, none⟩), .int .i64 i, .int .i64 k] w fun e w' => e = .returned (.tuple #[]) ∧ RowE w' base (.slice (some ⟨g, 0, none⟩) n cap) n (swp G i k) ∧ Off (fun b => b = g) w w' := by
  have ai := RowE.at hr hi
  have ak := RowE.at hr hk
  have q1 : w.cell? ⟨q, 1, none⟩ = some (.slice (some ⟨g, 0, none⟩) n cap) := cell_at hq 1
  have fr : ∀ j, w.frozen? ⟨g, j, none⟩ = false := Row.free hr
  have i0 : (i : Int) < (n : Int) := by omega
  have k0 : (k : Int) < (n : Int) := by omega
  have zq := szs (block_lt hq)
  have HR := Lib.hid hr
  clear hq hr
  obtain ⟨⟨x, a⟩, hx⟩ : ∃ y, y = G i := ⟨_, rfl⟩
  obtain ⟨⟨y, b⟩, hy⟩ : ∃ y, y = G k := ⟨_, rfl⟩
  rw [← hx] at ai
  rw [← hy] at ak
  have HX := Lib.hid hx
  have HY := Lib.hid hy
  clear hx hy
  obtain ⟨xk, xt, xu⟩ := x; obtain ⟨yk, yt, yu⟩ := y
  have h0 := ai 0 (by decide); have h1 := ai 1 (by decide); have h2 := ai 2 (by decide); have h3 := ai 3 (by decide); have m0 := ak 0 (by decide); have m1 := ak 1 (by decide); have m2 := ak 2 (by decide); have m3 := ak 3 (by decide); simp only [ec, Nat.add_zero, List.getElem?_cons_zero, List.getElem?_cons_succ] at h0 h1 h2 h3 m0 m1 m2 m3
  clear ai ak
  go_enter Try.func145, Try.ntmps145
  go_wp2_with fail
  (refine region_order (fun i : Nat => World.drewN _ i) [9] [0, 1, 2, 3, 4, 5, 6, 7, 8, 10, 11, 12, 13, 14, 15, 16, 17, 18, 19, 20, 21, 22, 23, 24] 25 [26, 27] mixed (by kernel_rfl) ⟨1, rfl⟩ ?_; simp only [List.map_cons, List.map_nil, Array.getD_eq_getD_getElem?, List.getElem?_toArray, List.getElem?_cons_zero, List.getElem?_cons_succ, Option.getD_some]; (repeat (refine wpPure_cons _ rfl (fun w' => by go_simp; try rfl) ?_; dsimp only [Act.put])); refine wpPure_nil ?_; (repeat (any_goals (first | go_big_quiet_step (fail) | quiet_step (fail) | (refine wpQuiet_step (fun K hK => ?_); go_simp; split <;> (refine hK _ ?_; clear hK K))))); (all_goals (refine wpQuiet_nil (fun nq => ?_))))
  have H0 : RowE (w.drewN nq) base (.slice (some ⟨g, 0, none⟩) n cap) n G := Row.off (X := fun _ => False) HR.out (Off.of_below (below_drewN (Below.refl _ _) _)) (fun _ _ h => h)
  have H1 := Lib.hid (RowE.put (RowE.put H0 hi (⟨yk, yt, yu⟩, b)) hk (⟨xk, xt, xu⟩, a))
  have O0 : Off (fun b => b = g) w (putCells (putCells (w.drewN nq) g (i * 4) (ec (⟨yk, yt, yu⟩, b))) g (k * 4) (ec (⟨xk, xt, xu⟩, a))) := off_putCells (X := fun b => b = g) rfl _ _ _ (off_putCells (X := fun b => b = g) rfl _ _ _ (Off.of_below (below_drewN (Below.refl _ _) _)))
  have O1 := Lib.hid O0
  have ES : Hid (swp G i k = upd (upd G i (⟨yk, yt, yu⟩, b)) k (⟨xk, xt, xu⟩, a)) := by unfold swp; rw [← HX.out, ← HY.out]; exact rfl
  clear H0 O0
  rcases Nat.lt_trichotomy i k with hik | hik | hik
  · go_wp2_with fail
    refine onlyN_intro ?_
    go_returns
    exact ⟨rfl, by rw [ES.out]; exact H1.out, O1.out⟩
  · subst hik
    go_wp2_with fail
    refine onlyN_intro ?_
    go_returns
    exact ⟨rfl, by rw [ES.out]; exact H1.out, O1.out⟩
  · go_wp2_with fail
    refine onlyN_intro ?_
    go_returns
    exact ⟨rfl, by rw [ES.out]; exact H1.out, O1.out⟩
end QT
end Go.Proofs.Ytlnfhlmgnppcbaa
