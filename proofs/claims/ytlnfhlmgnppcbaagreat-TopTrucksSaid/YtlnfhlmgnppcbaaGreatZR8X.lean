/- General theorems of this seat, in one text. -/
import Derived.Test.YtlnfhlmgnppcbaaGreatZA
import Derived.Test.YtlnfhlmgnppcbaaGreatZBB
import Derived.BigQuiet
import Derived.WalkLawsBesides
import Derived.Test.YtlnfhlmgnppcbaaGreatZBA
import Derived.Outline
import Derived.Laws.EntriesVeiled
import Derived.WalkSpells
import Derived.Laws.CopyRow
namespace Go.Proofs.YtlnfhlmgnppcbaaGreat
open Go.RowKit
namespace QT
set_option linter.unusedVariables false
set_option linter.unusedSimpArgs false
set_option maxRecDepth 8000
structure T where
  node : Int
  secs : Int
  edges : Int
deriving DecidableEq
instance : Inhabited T := ⟨⟨0, 0, 0⟩⟩
def vv (x : T) : Value := .agg #[.int .i64 x.node, .int .i64 x.secs, .int .i64 x.edges]
def ec (x : T × Int) : List Value := [.int .i64 x.1.node, .int .i64 x.1.secs, .int .i64 x.1.edges, .int .i64 x.2]
abbrev D := Unit
def ltL (s e s' e' : Int) : Bool := decide (s < s') || (decide (s = s') && decide (e < e'))
def lt (d : D) (a b : T) : Bool := ltL a.secs a.edges b.secs b.edges
def F (d : D) : Value := .func (.func 156) #[] #[]
theorem lt_ord (d : D) : Ord (lt d) := by
  refine ⟨fun {a b} h => ?_, fun {a b c} h1 h2 => ?_⟩
  · simp [lt, ltL] at *; omega
  · simp [lt, ltL] at *; omega
theorem before157 (a0 a1 b0 b1 : Int) (w : World) : Calls Tryz.prog 157 #[.agg #[.int .i64 a0, .int .i64 a1], .agg #[.int .i64 b0, .int .i64 b1]] w fun e w' => e = .returned (.bool (ltL a0 a1 b0 b1)) ∧ Below w.heap.size w w' := by
  go_enter Tryz.func157, Tryz.ntmps157
  go_wp2
  all_goals go_returns
  all_goals exact ⟨by simp [ltL, *]; try omega, by (repeat' (first | (with_reducible exact Below.refl _ _) | (with_reducible assumption) | (with_reducible refine Below.drew ?_) | (with_reducible refine below_drewN ?_ _) | (with_reducible refine Below.alloc ?_ ?_ _) | (with_reducible refine Below.setCell ?_ ?_ _) | go_size))⟩
theorem less156 (x y : T) (w : World) : Calls Tryz.prog 156 #[vv x, vv y] w fun e w' => e = .returned (.bool (lt () x y)) ∧ Below w.heap.size w w' := by
  have C := fun w => before157 x.secs x.edges y.secs y.edges w
  unfold lt
  generalize ltL x.secs x.edges y.secs y.edges = r at *
  unfold vv at *
  go_enter Tryz.func156, Tryz.ntmps156
  go_wp2_with (go_at_call 157; refine (C _).mono ?_; rintro e w1 ⟨rfl, hb⟩)
  go_returns
  refine ⟨rfl, ?_⟩
  have hb2 := (((Below.refl w.heap.size w).alloc (Nat.le_refl _) _).alloc (by simp) _).trans (hb.mono (by go_size))
  (repeat' (first | (with_reducible exact Below.refl _ _) | (with_reducible assumption) | (with_reducible refine Below.drew ?_) | (with_reducible refine below_drewN ?_ _) | (with_reducible refine Below.alloc ?_ ?_ _) | (with_reducible refine Below.setCell ?_ ?_ _) | go_size))
def fn (d : D) : Nat := 156
theorem less (d : D) (x y : T) (w : World) : Calls Tryz.prog (fn d) #[vv x, vv y] w fun e w' => e = .returned (.bool (lt d x y)) ∧ Below w.heap.size w w' := less156 x y w
end QT
end Go.Proofs.YtlnfhlmgnppcbaaGreat
namespace Go.Proofs.YtlnfhlmgnppcbaaGreat
open Go.RowKit
namespace QT
set_option linter.unusedVariables false
set_option linter.unusedSimpArgs false
set_option maxRecDepth 8000
def QB (w : World) (q : Nat) (d : D) (v : Value) (p : Int) : Prop := w.heap[q]? = some (.cells #[F d, v, .int .i64 p] 246 (0, 0))
theorem QB.off {X : Nat → Prop} {w w' : World} {q : Nat} {d : D} {v : Value} {p : Int} (h : QB w q d v p) (ho : Off X w w') (hX : ¬ X q) : QB w' q d v p := (ho.block q (block_lt h) hX).trans h
theorem QB.set1 {w : World} {q : Nat} {d : D} {v v' : Value} {p : Int} (h : QB w q d v p) : QB (w.setCell ⟨q, 1, none⟩ v') q d v' p := by
  unfold QB at *
  rw [setCell_at h, setAt_same (block_lt h)]
  rfl
theorem QB.set2 {w : World} {q : Nat} {d : D} {v : Value} {p p' : Int} (h : QB w q d v p) : QB (w.setCell ⟨q, 2, none⟩ (.int .i64 p')) q d v p' := by
  unfold QB at *
  rw [setCell_at h, setAt_same (block_lt h)]
  rfl
theorem ec_len (x : T × Int) : (ec x).length = 4 := rfl
abbrev RowE (w : World) (base : Nat) (v : Value) (n : Nat) (G : Nat → T × Int) : Prop := Row w base 248 4 v n (fun j => ec (G j))
theorem RowE.at {w : World} {base g n cap : Nat} {G : Nat → T × Int} (h : RowE w base (.slice (some ⟨g, 0, none⟩) n cap) n G) {i : Nat} (hi : i < n) : ∀ j, j < 4 → w.cell? ⟨g, i * 4 + j, none⟩ = (ec (G i))[j]? :=
  fun j hj => Row.cell h (fun i => ec_len (G i)) hi hj
set_option maxHeartbeats 1000000 in
theorem before (d : D) (w : World) (base q g n cap : Nat) (p : Int) (G : Nat → T × Int) (i k : Nat) (hq : QB w q d (.slice (some ⟨g, 0, none⟩) n cap) p) (hr : RowE w base (.slice (some ⟨g, 0, none⟩) n cap) n G)
    (hi : i < n) (hk : k < n) (hn : n ≤ cap) (hc : cap ≤ 9223372036854775807) :
    Calls Tryz.prog 169 #[.pointer (some ⟨q, 0, none⟩), .int .i64 i, .int .i64 k] w fun e w' => e = .returned (.bool (befE (lt d) (G i) (G k))) ∧ Below w.heap.size w w' := by
  have ai := RowE.at hr hi
  have ak := RowE.at hr hk
  have q0 : w.cell? ⟨q, 0, none⟩ = some (F d) := cell_at hq 0
  have q1 : w.cell? ⟨q, 1, none⟩ = some (.slice (some ⟨g, 0, none⟩) n cap) := cell_at hq 1
  have i0 : (i : Int) < (n : Int) := by omega
  have k0 : (k : Int) < (n : Int) := by omega
  have zq := szs (block_lt hq)
  clear hq hr
  obtain ⟨⟨x, a⟩, hx⟩ : ∃ y, y = G i := ⟨_, rfl⟩
  obtain ⟨⟨y, b⟩, hy⟩ : ∃ y, y = G k := ⟨_, rfl⟩
  rw [← hx] at ai ⊢
  rw [← hy] at ak ⊢
  clear hx hy
  have L1 := fun w => less d x y w
  have L2 := fun w => less d y x w
  obtain ⟨r1, e1⟩ : ∃ r1, r1 = lt d x y := ⟨_, rfl⟩
  obtain ⟨r2, e2⟩ : ∃ r2, r2 = lt d y x := ⟨_, rfl⟩
  rw [← e1] at L1
  rw [← e2] at L2
  rw [show befE (lt d) (x, a) (y, b) = (r1 || (!r2 && decide (a < b))) by rw [e1, e2]; rfl]
  clear e1 e2
  obtain ⟨xk, xt, xu⟩ := x; obtain ⟨yk, yt, yu⟩ := y
  have h0 := ai 0 (by decide); have h1 := ai 1 (by decide); have h2 := ai 2 (by decide); have h3 := ai 3 (by decide); have m0 := ak 0 (by decide); have m1 := ak 1 (by decide); have m2 := ak 2 (by decide); have m3 := ak 3 (by decide); simp only [ec, Nat.add_zero, List.getElem?_cons_zero, List.getElem?_cons_succ] at h0 h1 h2 h3 m0 m1 m2 m3
  clear ai ak
  have zx := szs (cell_lt h0)
  dsimp only at zx
  cases d
  all_goals
    simp only [F, fn, vv, if_true, if_false, Bool.false_eq_true] at *
    go_enter Tryz.func169, Tryz.ntmps169
    go_wp2
    obtain ⟨ι, hne, Fw, fb, hF⟩ := grow_family w
    have hF : ∀ w', (gPlan w (fun _ => undef) [] [] []).D () w' → ∃ i, w' = Fw i := hF
    have fq0 := fun i => cell_kept (fb i) q0
    have fq1 := fun i => cell_kept (fb i) q1
    have fh0 := fun i => cell_kept (fb i) h0; have fh1 := fun i => cell_kept (fb i) h1; have fh2 := fun i => cell_kept (fb i) h2; have fh3 := fun i => cell_kept (fb i) h3; have fm0 := fun i => cell_kept (fb i) m0; have fm1 := fun i => cell_kept (fb i) m1; have fm2 := fun i => cell_kept (fb i) m2; have fm3 := fun i => cell_kept (fb i) m3
    (refine region_chain (gPlan w (fun _ => undef) [] [(14, fun b => .pointer (some ⟨b, 0, none⟩), .cells #[.int .i64 0, .int .i64 0, .int .i64 0, .int .i64 0] 248), (15, fun b => .pointer (some ⟨b, 0, none⟩), .cells #[.int .i64 0, .int .i64 0, .int .i64 0, .int .i64 0] 248)] [(16, 14), (17, 15)]) () [] [0, 1, 2, 3, 4, 5, 6, 7, 8, 9, 10, 11, 12, 13, 14, 15, 16, 17] [] mixed (by kernel_rfl) (by kernel_rfl) (gPlan_ok (by simp) (by simp)) (gPlan_start _ _ _ _ _) ?_; refine wpPure_nil ?_; simp only [List.map_cons, List.map_nil, Array.getD_eq_getD_getElem?, List.getElem?_toArray, List.getElem?_cons_zero, List.getElem?_cons_succ, Option.getD_some])
    (repeat (refine wpChain_quiet hF rfl rfl rfl ?_; intro K hK; go_big_quiet_op; go_big_quiet_on))
    (refine wpChain_alloc _ _ rfl (List.mem_cons_self ..) rfl (fun w' => by go_simp) (fun b1 hb1 => ?_); simp only [Act.put, List.setIfInBounds_toArray, List.set_cons_succ, List.set_cons_zero])
    (refine wpChain_alloc _ _ rfl (List.mem_cons_of_mem _ (List.mem_cons_self ..)) rfl (fun w' => by go_simp) (fun b2 hb2 => ?_); simp only [Act.put, List.setIfInBounds_toArray, List.set_cons_succ, List.set_cons_zero])
    (refine wpChain_store 14 b1 (.cells #[.int .i64 0, .int .i64 0, .int .i64 0, .int .i64 0] 248) (.cells #[.int .i64 xk, .int .i64 xt, .int .i64 xu, .int .i64 a] 248) rfl (by simp [gPlan]) (by simp [setB]) (by simp [setB]) rfl (fun w' hw' => by have c0 := cell_at hw' 0; have c1 := cell_at hw' 1; have c2 := cell_at hw' 2; have c3 := cell_at hw' 3; have g0 := free_at hw'; have hlt := block_lt hw'; go_simp; rw [setCell_at hw', setAt_setCell hlt, setAt_setCell hlt, setAt_setCell hlt]; rfl) ?_; simp only [Act.put, List.setIfInBounds_toArray, List.set_cons_succ, List.set_cons_zero])
    (refine wpChain_store 15 b2 (.cells #[.int .i64 0, .int .i64 0, .int .i64 0, .int .i64 0] 248) (.cells #[.int .i64 yk, .int .i64 yt, .int .i64 yu, .int .i64 b] 248) rfl (by simp [gPlan]) (by simp [setB]) (by simp [setB]) rfl (fun w' hw' => by have c0 := cell_at hw' 0; have c1 := cell_at hw' 1; have c2 := cell_at hw' 2; have c3 := cell_at hw' 3; have g0 := free_at hw'; have hlt := block_lt hw'; go_simp; rw [setCell_at hw', setAt_setCell hlt, setAt_setCell hlt, setAt_setCell hlt]; rfl) ?_; simp only [Act.put, List.setIfInBounds_toArray, List.set_cons_succ, List.set_cons_zero])
    refine wpChain_nil (fun w4 hb4 hl4 => ?_)
    have hx1 : w4.heap[b1]? = some (.cells #[.int .i64 xk, .int .i64 xt, .int .i64 xu, .int .i64 a] 248) := (hl4.2 (14, b1, .cells #[.int .i64 xk, .int .i64 xt, .int .i64 xu, .int .i64 a] 248) (by simp [setB])).2
    have hx2 : w4.heap[b2]? = some (.cells #[.int .i64 yk, .int .i64 yt, .int .i64 yu, .int .i64 b] 248) := (hl4.2 (15, b2, .cells #[.int .i64 yk, .int .i64 yt, .int .i64 yu, .int .i64 b] 248) (by simp [setB])).2
    have hB4 : Hid (Below w.heap.size w w4) := hb4
    have p0 := cell_kept hb4 q0
    have c10 : w4.cell? ⟨b1, 0, none⟩ = some (.int .i64 xk) := cell_at hx1 0; have c11 : w4.cell? ⟨b1, 1, none⟩ = some (.int .i64 xt) := cell_at hx1 1; have c12 : w4.cell? ⟨b1, 2, none⟩ = some (.int .i64 xu) := cell_at hx1 2; have c13 : w4.cell? ⟨b1, 3, none⟩ = some (.int .i64 a) := cell_at hx1 3; have c20 : w4.cell? ⟨b2, 0, none⟩ = some (.int .i64 yk) := cell_at hx2 0; have c21 : w4.cell? ⟨b2, 1, none⟩ = some (.int .i64 yt) := cell_at hx2 1; have c22 : w4.cell? ⟨b2, 2, none⟩ = some (.int .i64 yu) := cell_at hx2 2; have c23 : w4.cell? ⟨b2, 3, none⟩ = some (.int .i64 b) := cell_at hx2 3
    have zb1 := szs (block_lt hx1)
    have zb2 := szs (block_lt hx2)
    clear hb4 hl4 hx1 hx2 h0 h1 h2 h3 m0 m1 m2 m3 hF fb fq0 fq1
    refine onlyN_intro ?_
    go_wp2_with fail
    (refine region_drawn 8 mixed (by kernel_rfl) ?_; simp only [List.take_succ_cons, List.take_zero, List.drop_succ_cons, List.drop_zero]; (repeat (any_goals (first | go_big_quiet_step (fail) | quiet_step (fail) | (refine wpQuiet_step (fun K hK => ?_); go_simp; split <;> (refine hK _ ?_; clear hK K))))); (all_goals (refine wpQuiet_nil (fun nq => ?_))))
    go_wp2_with ((with_reducible refine (L1 _).mono ?_); rintro e w5 ⟨rfl, hb5⟩; have hb6 : Below w4.heap.size w4 w5 := (below_drewN (Below.refl _ _) _).trans hb5; have hB5 : Hid (Below w.heap.size w w5) := hB4.out.trans (hb6.mono hB4.out.size); have hb7 := Lib.hid hb6; clear hb5 hb6; have p1 := cell_kept hb7.out p0; have d10 := cell_kept hb7.out c10; have d11 := cell_kept hb7.out c11; have d12 := cell_kept hb7.out c12; have d13 := cell_kept hb7.out c13; have d20 := cell_kept hb7.out c20; have d21 := cell_kept hb7.out c21; have d22 := cell_kept hb7.out c22; have d23 := cell_kept hb7.out c23)
    all_goals (first | (go_returns; exact ⟨by simp [*], hB5.out⟩) | skip)
    all_goals clear c10 c11 c12 c13 c20 c21 c22 c23 p0
    all_goals (refine region_drawn 8 mixed (by kernel_rfl) ?_; simp only [List.take_succ_cons, List.take_zero, List.drop_succ_cons, List.drop_zero]; (repeat (any_goals (first | go_big_quiet_step (fail) | quiet_step (fail) | (refine wpQuiet_step (fun K hK => ?_); go_simp; split <;> (refine hK _ ?_; clear hK K))))); (all_goals (refine wpQuiet_nil (fun nq => ?_))))
    all_goals go_wp2_with ((with_reducible refine (L2 _).mono ?_); rintro e w6 ⟨rfl, hb8⟩; have hb9 : Below w5.heap.size w5 w6 := (below_drewN (Below.refl _ _) _).trans hb8; have hB6 : Hid (Below w.heap.size w w6) := hB5.out.trans (hb9.mono hB5.out.size); have u12 := cell_kept hb9 d13; have u22 := cell_kept hb9 d23)
    all_goals go_returns
    all_goals exact ⟨by simp [*], hB6.out⟩
end QT
end Go.Proofs.YtlnfhlmgnppcbaaGreat
namespace Go.Proofs.YtlnfhlmgnppcbaaGreat
open Go.RowKit
namespace QT
set_option linter.unusedVariables false
set_option linter.unusedSimpArgs false
set_option maxRecDepth 8000
theorem RowE.put {w : World} {base g n cap : Nat} {G : Nat → T × Int} (h : RowE w base (.slice (some ⟨g, 0, none⟩) n cap) n G) {i : Nat} (hi : i < n) (x : T × Int) :
    RowE (putCells w g (i * 4) (ec x)) base (.slice (some ⟨g, 0, none⟩) n cap) n (upd G i x) :=
  Row.congr (Row.put h (fun i => ec_len (G i)) hi (ec x) (ec_len x)) fun j _ => by
    by_cases hj : j = i
    · subst hj; rw [upd_same, upd_same]
    · rw [upd_ne hj, upd_ne hj]
set_option maxHeartbeats 1000000 in
theorem swap (d : D) (w : World) (base q g n cap : Nat) (p : Int) (G : Nat → T × Int) (i k : Nat) (hq : QB w q d (.slice (some ⟨g, 0, none⟩) n cap) p) (hr : RowE w base (.slice (some ⟨g, 0, none⟩) n cap) n G)
    (hi : i < n) (hk : k < n) (hn : n ≤ cap) (hc : cap ≤ 9223372036854775807) (hne : q ≠ g) :
    Calls Tryz.prog 170 #[.pointer (some ⟨q, 0, none⟩), .int .i64 i, .int .i64 k] w fun e w' => e = .returned (.tuple #[]) ∧ RowE w' base (.slice (some ⟨g, 0, none⟩) n cap) n (swp G i k) ∧ Off (fun b => b = g) w w' := by
  have ai := RowE.at hr hi
  have ak := RowE.at hr hk
  have q1 : w.cell? ⟨q, 1, none⟩ = some (.slice (some ⟨g, 0, none⟩) n cap) := cell_at hq 1
  have fr : ∀ j, w.frozen? ⟨g, j, none⟩ = false := Row.free hr
  have i0 : (i : Int) < (n : Int) := by omega
  have k0 : (k : Int) < (n : Int) := by omega
  have zq := szs (block_lt hq)
  have HR := Lib.hid hr
  clear hq hr
  obtain ⟨⟨x, a⟩, hx⟩ : ∃ y, y = G i := ⟨_, rfl⟩
  obtain ⟨⟨y, b⟩, hy⟩ : ∃ y, y = G k := ⟨_, rfl⟩
  rw [← hx] at ai
  rw [← hy] at ak
  have HX := Lib.hid hx
  have HY := Lib.hid hy
  clear hx hy
  obtain ⟨xk, xt, xu⟩ := x; obtain ⟨yk, yt, yu⟩ := y
  have h0 := ai 0 (by decide); have h1 := ai 1 (by decide); have h2 := ai 2 (by decide); have h3 := ai 3 (by decide); have m0 := ak 0 (by decide); have m1 := ak 1 (by decide); have m2 := ak 2 (by decide); have m3 := ak 3 (by decide); simp only [ec, Nat.add_zero, List.getElem?_cons_zero, List.getElem?_cons_succ] at h0 h1 h2 h3 m0 m1 m2 m3
  clear ai ak
  go_enter Tryz.func170, Tryz.ntmps170
  go_wp2_with fail
  (refine region_order (fun i : Nat => World.drewN _ i) [9] [0, 1, 2, 3, 4, 5, 6, 7, 8, 10, 11, 12, 13, 14, 15, 16, 17, 18, 19, 20, 21, 22, 23, 24] 25 [26, 27] mixed (by kernel_rfl) ⟨1, rfl⟩ ?_; simp only [List.map_cons, List.map_nil, Array.getD_eq_getD_getElem?, List.getElem?_toArray, List.getElem?_cons_zero, List.getElem?_cons_succ, Option.getD_some]; (repeat (refine wpPure_cons _ rfl (fun w' => by go_simp; try rfl) ?_; dsimp only [Act.put])); refine wpPure_nil ?_; (repeat (any_goals (first | go_big_quiet_step (fail) | quiet_step (fail) | (refine wpQuiet_step (fun K hK => ?_); go_simp; split <;> (refine hK _ ?_; clear hK K))))); (all_goals (refine wpQuiet_nil (fun nq => ?_))))
  have H0 : RowE (w.drewN nq) base (.slice (some ⟨g, 0, none⟩) n cap) n G := Row.off (X := fun _ => False) HR.out (Off.of_below (below_drewN (Below.refl _ _) _)) (fun _ _ h => h)
  have H1 := Lib.hid (RowE.put (RowE.put H0 hi (⟨yk, yt, yu⟩, b)) hk (⟨xk, xt, xu⟩, a))
  have O0 : Off (fun b => b = g) w (putCells (putCells (w.drewN nq) g (i * 4) (ec (⟨yk, yt, yu⟩, b))) g (k * 4) (ec (⟨xk, xt, xu⟩, a))) := off_putCells (X := fun b => b = g) rfl _ _ _ (off_putCells (X := fun b => b = g) rfl _ _ _ (Off.of_below (below_drewN (Below.refl _ _) _)))
  have O1 := Lib.hid O0
  have ES : Hid (swp G i k = upd (upd G i (⟨yk, yt, yu⟩, b)) k (⟨xk, xt, xu⟩, a)) := by unfold swp; rw [← HX.out, ← HY.out]; exact rfl
  clear H0 O0
  rcases Nat.lt_trichotomy i k with hik | hik | hik
  · go_wp2_with fail
    refine onlyN_intro ?_
    go_returns
    exact ⟨rfl, by rw [ES.out]; exact H1.out, O1.out⟩
  · subst hik
    go_wp2_with fail
    refine onlyN_intro ?_
    go_returns
    exact ⟨rfl, by rw [ES.out]; exact H1.out, O1.out⟩
  · go_wp2_with fail
    refine onlyN_intro ?_
    go_returns
    exact ⟨rfl, by rw [ES.out]; exact H1.out, O1.out⟩
end QT
end Go.Proofs.YtlnfhlmgnppcbaaGreat
namespace Go.Proofs.YtlnfhlmgnppcbaaGreat
open Go.RowKit
namespace QT
set_option linter.unusedVariables false
set_option linter.unusedSimpArgs false
set_option maxRecDepth 8000
theorem infoE : (Tryz.prog.info? 248).map (fun i => (i.zero, i.size, i.bytes)) = some (some (.agg #[.int .i64 0, .int .i64 0, .int .i64 0, .int .i64 0]), 4, 32) := by kernel_rfl
theorem ec_one (x : T × Int) : ∀ u ∈ ec x, u.oneCell' = true := by
  intro u hu
  simp [ec] at hu
  rcases hu with rfl | rfl | rfl | rfl <;> rfl
theorem ec_upd (G : Nat → T × Int) (n : Nat) (x : T × Int) (j : Nat) : upd (fun j => ec (G j)) n (ec x) j = ec (upd G n x j) := by
  by_cases hj : j = n
  · subst hj; rw [upd_same, upd_same]
  · rw [upd_ne hj, upd_ne hj]
def Pushed (w : World) (base q : Nat) (d : D) (v : Value) (n : Nat) (p : Int) (G : Nat → T × Int) (x : T) (w' : World) : Prop :=
  ∃ v' G', QB w' q d v' (p + 1) ∧ RowE w' base v' (n + 1) G' ∧ Heap (befE (lt d)) G' (n + 1) ∧ (ents G' (n + 1)).Perm (ents G n ++ [(x, p)]) ∧ v'.ownBlock ≠ some q ∧
    Off (fun b => b = q ∨ some b = v.ownBlock) w w' ∧ ∀ g, v'.ownBlock = some g → v.ownBlock = some g ∨ w.heap.size ≤ g
def Rising (w : World) (base q g cap : Nat) (d : D) (v : Value) (n : Nat) (p : Int) (G : Nat → T × Int) (x : T) (k : Nat) (wr : World) : Prop :=
  ∃ G', QB wr q d (.slice (some ⟨g, 0, none⟩) (n + 1) cap) (p + 1) ∧ RowE wr base (.slice (some ⟨g, 0, none⟩) (n + 1) cap) (n + 1) G' ∧ UpInv (befE (lt d)) G' (n + 1) k ∧ (ents G' (n + 1)).Perm (ents G n ++ [(x, p)]) ∧
    Off (fun b => b = q ∨ some b = v.ownBlock) w wr
theorem pushed_of {w wr : World} {base q g cap : Nat} {d : D} {v : Value} {n : Nat} {p : Int} {G G' : Nat → T × Int} {x : T} {k : Nat} (hq : QB wr q d (.slice (some ⟨g, 0, none⟩) (n + 1) cap) (p + 1)) (hr : RowE wr base (.slice (some ⟨g, 0, none⟩) (n + 1) cap) (n + 1) G')
    (hu : UpInv (befE (lt d)) G' (n + 1) k) (hp : (ents G' (n + 1)).Perm (ents G n ++ [(x, p)])) (ho : Off (fun b => b = q ∨ some b = v.ownBlock) w wr) (hgq : g ≠ q) (hgf : v.ownBlock = some g ∨ w.heap.size ≤ g)
    (hb : k = 0 ∨ befE (lt d) (G' k) (G' ((k - 1) / 2)) = false) {w' : World} (hw : Below wr.heap.size wr w') : Pushed w base q d v n p G x w' :=
  ⟨_, G', hq.off (X := fun _ => False) (Off.of_below hw) (fun h => h), Row.off (X := fun _ => False) hr (Off.of_below hw) (fun _ _ h => h), up_done hu hb, hp, by simp [Value.ownBlock]; exact hgq, ho.trans (Off.of_below (X := fun _ => False) hw) (fun _ _ h => h.elim), fun g' hg' => by
    simp [Value.ownBlock] at hg'; subst hg'; exact hgf⟩
set_option maxHeartbeats 2000000 in
theorem push (d : D) (w : World) (base q n : Nat) (v : Value) (p : Int) (G : Nat → T × Int) (x : T) (hq : QB w q d v p) (hr : RowE w base v n G) (hh : Heap (befE (lt d)) G n) (hne : v.ownBlock ≠ some q)
    (hb : base ≤ w.heap.size) (hn : n < 1000000) (hp : 0 ≤ p ∧ p < 1000000) :
    Calls Tryz.prog 158 #[.pointer (some ⟨q, 0, none⟩), vv x] w fun e w' => e = .returned (.tuple #[]) ∧ Pushed w base q d v n p G x w' := by
  have oE := befE_ord (lt_ord d)
  obtain ⟨i0, hi, hz0, hz1, hz2⟩ := info_parts infoE
  have ho : ∃ (o : Obj), o = .cells #[.int .i64 x.node, .int .i64 x.secs, .int .i64 x.edges] 231 := ⟨_, rfl⟩
  obtain ⟨o, ho⟩ := ho
  have b0 : Below w.heap.size w (w.alloc o) := (Below.refl _ _).alloc (Nat.le_refl _) o
  have x0 : (w.alloc o).heap[w.heap.size]? = some o := heap_alloc_new w o
  have z0 : (w.alloc o).heap.size = w.heap.size + 1 := by simp
  have q0 : QB (w.alloc o) q d v p := hq.off (X := fun _ => False) (Off.of_below b0) (fun h => h)
  have r0 : RowE (w.alloc o) base v n G := Row.off (X := fun _ => False) hr (Off.of_below b0) (fun _ _ h => h)
  have x1 : (w.alloc o).cell? ⟨w.heap.size, 0, none⟩ = some (.int .i64 x.node) := by rw [ho] at x0 ⊢; exact cell_at x0 0
  have x2 : (w.alloc o).cell? ⟨w.heap.size, 1, none⟩ = some (.int .i64 x.secs) := by rw [ho] at x0 ⊢; exact cell_at x0 1
  have x3 : (w.alloc o).cell? ⟨w.heap.size, 2, none⟩ = some (.int .i64 x.edges) := by rw [ho] at x0 ⊢; exact cell_at x0 2
  have hxx : x = x := rfl
  obtain ⟨xk, xt, xu⟩ := x
  clear hxx
  unfold vv
  dsimp only at *
  have HB := Lib.hid hb
  have HR := Lib.hid r0
  have HH := Lib.hid hh
  have q1 : (w.alloc o).cell? ⟨q, 1, none⟩ = some v := cell_at q0 1
  have q2 : (w.alloc o).cell? ⟨q, 2, none⟩ = some (.int .i64 p) := cell_at q0 2
  have HQ := Lib.hid q0
  have HX0 := Lib.hid x0
  have HZ := Lib.hid z0
  have HB0 := Lib.hid b0
  have HNE := Lib.hid hne
  clear hb r0 hh q0 hq hr x0 z0 b0 hne
  go_enter Tryz.func158, Tryz.ntmps158
  go_wp2_with fail
  rw [← ho]
  generalize w.alloc o = w0 at *
  obtain ⟨ι, hne, Fw, fb, hF⟩ := grow_family w0
  have hF : ∀ w', (gPlan w0 (fun _ => undef) [] [] []).D () w' → ∃ i, w' = Fw i := hF
  have fq1 := fun i => cell_kept (fb i) q1
  have fq2 := fun i => cell_kept (fb i) q2
  have fx1 := fun i => cell_kept (fb i) x1; have fx2 := fun i => cell_kept (fb i) x2; have fx3 := fun i => cell_kept (fb i) x3
  refine region_chain (gPlan w0 (fun _ => undef) [] [(11, fun b => .slice (some ⟨b, 0, none⟩) 1 1, .cells #[.int .i64 xk, .int .i64 xt, .int .i64 xu, .int .i64 p] 248)] []) () [0] [1, 2, 3, 4, 5, 6, 7, 8, 9, 10, 11] [12, 13, 14, 15] mixed (by kernel_rfl) (by kernel_rfl) (gPlan_ok (by simp) (by simp)) (gPlan_start _ _ _ _ _) ?_
  simp only [List.map_cons, List.map_nil, Array.getD_eq_getD_getElem?, List.getElem?_toArray, List.getElem?_cons_zero, List.getElem?_cons_succ, Option.getD_some]
  refine wpPure_cons _ rfl (fun w' => by go_simp; rfl) ?_
  simp only [Act.put, List.setIfInBounds_toArray, List.set_cons_succ, List.set_cons_zero]
  refine wpPure_nil ?_
  (repeat (refine wpChain_quiet hF rfl rfl rfl ?_; intro K hK; go_big_quiet_op; go_big_quiet_on))
  (refine wpChain_alloc _ _ rfl (List.mem_cons_self ..) rfl (fun w' => by go_simp) (fun b1 hb1 => ?_); simp only [Act.put, List.setIfInBounds_toArray, List.set_cons_succ, List.set_cons_zero])
  refine wpChain_nil (fun w4 hb4 hl4 => ?_)
  have hx1 : w4.heap[b1]? = some (.cells #[.int .i64 xk, .int .i64 xt, .int .i64 xu, .int .i64 p] 248) := (hl4.2 (11, b1, .cells #[.int .i64 xk, .int .i64 xt, .int .i64 xu, .int .i64 p] 248) (by simp)).2
  have O4 : Off (fun _ => False) w0 w4 := Off.of_below hb4
  have r4 := Row.off HR.out O4 (fun _ _ h => h)
  have q4 : QB w4 q d v p := HQ.out.off O4 (fun h => h)
  have HX1 := Lib.hid hx1
  have HO4 := Lib.hid O4
  have hbs : base ≤ w4.heap.size := by have := hb4.size; have := HB.out; have := HZ.out; omega
  clear hb4 hl4 hF fb fq1 fq2 hx1 O4 q1 q2 x1 x2 x3 fx1 fx2 fx3
  have Q4 := Lib.hid q4
  clear q4
  go_wp2_with (at_builtin; refine wpList_append_row _ rfl _ _ 244 rfl base 248 i0 _ 4 32 Tryz.underlying244 hi hz0 hz1 hz2 rfl (by decide) _ _ _ rfl r4 (fun j => ec_len (G j)) b1 1 [.int .i64 xk, .int .i64 xt, .int .i64 xu, .int .i64 p] rfl rfl 248 (0, 0) HX1.out (ec_one ((⟨xk, xt, xu⟩ : T), p)) (by omega) (by unfold maxLen; omega) hbs ?_)
  intro g cap wA hcap hcap2 hbg hgl hown hrA hgr
  have OA : Off (fun k => some k = v.ownBlock) w4 wA := Off.of_grown hgr
  have qA : QB wA q d v p := Q4.out.off OA (fun h => HNE.out h.symm)
  have hgq : g ≠ q := by
    intro e
    subst e
    rcases hrA.2 with ⟨h, _⟩ | ⟨g', _, cur, h, _, hg, _⟩
    · cases h
    · cases h
      unfold QB at qA
      rw [hg] at qA
      simp at qA
  have a0 : wA.frozen? ⟨q, 1, none⟩ = false := free_at qA 1
  have a1 : wA.cell? ⟨q, 1, none⟩ = some v := cell_at qA 1
  have a2 : wA.cell? ⟨q, 2, none⟩ = some (.int .i64 p) := cell_at qA 2
  have a3 : wA.frozen? ⟨q, 2, none⟩ = false := free_at qA 2
  have qB := Lib.hid (QB.set2 (p' := p + 1) (QB.set1 (v' := .slice (some ⟨g, 0, none⟩) (n + 1) cap) qA))
  have oB : Off (fun b => b = q) wA ((wA.setCell ⟨q, 1, none⟩ (.slice (some ⟨g, 0, none⟩) (n + 1) cap)).setCell ⟨q, 2, none⟩ (.int .i64 (p + 1))) := ((Off.refl (fun b => b = q) wA).setCell (fun _ => rfl) _).setCell (fun _ => rfl) _
  have rB0 : RowE _ base (.slice (some ⟨g, 0, none⟩) (n + 1) cap) (n + 1) (upd G n ((⟨xk, xt, xu⟩ : T), p)) := Row.congr (Row.off (X := fun b => b = q) hrA oB (fun g' hg' h => by cases hg'; exact hgq h)) (fun j _ => ec_upd G n ((⟨xk, xt, xu⟩ : T), p) j)
  have rB := Lib.hid rB0
  have OB : Off (fun b => b = q ∨ some b = v.ownBlock) w ((wA.setCell ⟨q, 1, none⟩ (.slice (some ⟨g, 0, none⟩) (n + 1) cap)).setCell ⟨q, 2, none⟩ (.int .i64 (p + 1))) :=
    ((Off.trans (Off.of_below HB0.out) HO4.out (fun _ _ h => h.elim)).trans OA (fun _ _ h => .inr h)).trans oB (fun _ _ h => .inl h)
  have OB' := Lib.hid OB
  have hgf : v.ownBlock = some g ∨ w.heap.size ≤ g := by
    rcases hown with h | h
    · exact .inl h
    · right; have := HO4.out.size; have := HZ.out; omega
  have HGF := Lib.hid hgf
  have HGQ := Lib.hid hgq
  clear OA qA oB OB hgr hrA hgf hown hgq rB0
  go_wp2_with fail
  refine onlyN_intro ?_
  go_wp2_with fail
  go_loopw [4] (fun i wr => ∃ k : Nat, k ≤ n ∧ i = .int .i64 k ∧ Rising w base q g cap d v n p G (⟨xk, xt, xu⟩ : T) k wr) (fun i _ => (intOf i).toNat)
  case atStart => exact ⟨n, Nat.le_refl _, rfl, _, qB.out, rB.out, up_start _ HH.out, List.Perm.of_eq (ents_push _ _ _), OB'.out⟩
  case round =>
    obtain ⟨k, hk, rfl, G', hq, hr, hu, hpm, hoff⟩ := hrel
    clear qB rB OB' HH HR HQ HX0 HX1 HO4 r4 a0 a1 a2 a3 Q4 hbs
    by_cases hk0 : k = 0
    · subst hk0
      go_wp2_with fail
      go_returns
      exact ⟨rfl, pushed_of hq hr hu hpm hoff HGQ.out HGF.out (.inl rfl) (Below.refl _ _)⟩
    · have e2 : (((k - 1) / 2 : Nat) : Int) = ((k : Int) - 1) / 2 := by omega
      have k1 : (0 : Int) < (k : Int) := by omega
      obtain ⟨r, hrr⟩ : ∃ r, r = befE (lt d) (G' k) (G' ((k - 1) / 2)) := ⟨_, rfl⟩
      have C := before d wr base q g (n + 1) cap (p + 1) G' k ((k - 1) / 2) hq hr (by omega) (by omega) hcap hcap2
      rw [← hrr, e2] at C
      have S := fun w5 (h5 : Below wr.heap.size wr w5) => swap d w5 base q g (n + 1) cap (p + 1) G' k ((k - 1) / 2) (hq.off (X := fun _ => False) (Off.of_below h5) (fun h => h)) (Row.off (X := fun _ => False) hr (Off.of_below h5) (fun _ _ h => h)) (by omega) (by omega) hcap hcap2 (fun e => HGQ.out e.symm)
      rw [e2] at S
      have HRR := Lib.hid hrr
      have E2 := Lib.hid e2
      have HC := Lib.hid C
      have HS := Lib.hid S
      have H1 := Lib.hid hq
      have H2 := Lib.hid hr
      have H3 := Lib.hid hu
      have H4 := Lib.hid hpm
      have H5 := Lib.hid hoff
      clear hrr e2 C S hq hr hu hpm hoff
      cases r
      · go_wp2_with (go_at_call 169; refine HC.out.mono ?_; rintro e w5 ⟨rfl, hb5⟩)
        go_returns
        exact ⟨rfl, pushed_of H1.out H2.out H3.out H4.out H5.out HGQ.out HGF.out (.inr HRR.out.symm) hb5⟩
      · go_wp2_with (first | (go_at_call 169; refine HC.out.mono ?_; rintro e w5 ⟨rfl, hb5⟩) | (go_at_call 170; refine (HS.out _ hb5).mono ?_; rintro e w6 ⟨rfl, hr6, ho6⟩))
        go_roundw
        case rel =>
          refine ⟨(k - 1) / 2, by omega, by rw [E2.out], swp G' k ((k - 1) / 2), ?_, hr6, up_step oE H3.out (by omega) (by omega) HRR.out.symm, (swp_perm (by omega) (by omega)).trans H4.out, ?_⟩
          · exact (H1.out.off (X := fun _ => False) (Off.of_below hb5) (fun h => h)).off ho6 (fun e => HGQ.out e.symm)
          · refine (H5.out.trans (Off.of_below (X := fun _ => False) hb5) (fun _ _ h => h.elim)).trans ho6 (fun b hb h => ?_)
            subst h
            rcases HGF.out with h | h
            · exact .inr h.symm
            · omega
        case measure => simp [intOf]; omega
end QT
end Go.Proofs.YtlnfhlmgnppcbaaGreat
namespace Go.Proofs.YtlnfhlmgnppcbaaGreat
open Go.RowKit
namespace QT
set_option linter.unusedVariables false
set_option linter.unusedSimpArgs false
set_option maxRecDepth 8000
def Seen (d : D) (G : Nat → T × Int) (i n k f : Nat) : Prop :=
  (f = i ∨ (2 * i + 1 ≤ f ∧ f < k ∧ f < n ∧ befE (lt d) (G f) (G i) = true)) ∧ (∀ j, 2 * i + 1 ≤ j → j < k → j < n → befE (lt d) (G j) (G f) = false) ∧ befE (lt d) (G i) (G f) = false
theorem Seen.start (d : D) (G : Nat → T × Int) (i n : Nat) : Seen d G i n (2 * i + 1) i := ⟨.inl rfl, fun j h1 h2 => by omega, (befE_ord (lt_ord d)).irr _⟩
theorem Seen.yes {d : D} {G : Nat → T × Int} {i n k f : Nat} (h : Seen d G i n k f) (h1 : 2 * i + 1 ≤ k) (hk : k < n) (hb : befE (lt d) (G k) (G f) = true) : Seen d G i n (k + 1) k := by
  have o := befE_ord (lt_ord d)
  obtain ⟨ha, hc, hd⟩ := h
  have hki : befE (lt d) (G k) (G i) = true := by
    cases hx : befE (lt d) (G k) (G i)
    · have := o.trans hd hx; rw [hb] at this; cases this
    · rfl
  refine ⟨.inr ⟨h1, by omega, hk, hki⟩, fun j j1 j2 j3 => ?_, o.asym hki⟩
  by_cases hj : j = k
  · subst hj; exact o.irr _
  · exact o.trans (o.asym hb) (hc j j1 (by omega) j3)
theorem Seen.no {d : D} {G : Nat → T × Int} {i n k f : Nat} (h : Seen d G i n k f) (hb : befE (lt d) (G k) (G f) = false) : Seen d G i n (k + 1) f := by
  obtain ⟨ha, hc, hd⟩ := h
  refine ⟨ha.imp id (fun ⟨a, b, c, e⟩ => ⟨a, by omega, c, e⟩), fun j j1 j2 j3 => ?_, hd⟩
  by_cases hj : j = k
  · subst hj; exact hb
  · exact hc j j1 (by omega) j3
theorem Seen.all {d : D} {G : Nat → T × Int} {i n k f : Nat} (h : Seen d G i n k f) (hk : k = 2 * i + 3 ∨ n ≤ k) : ∀ j, 0 < j → j < n → (j - 1) / 2 = i → befE (lt d) (G j) (G f) = false :=
  fun j j0 j1 j2 => h.2.1 j (by omega) (by omega) j1
def Sinking (w : World) (base q g n cap : Nat) (d : D) (p : Int) (G : Nat → T × Int) (i : Nat) (wr : World) : Prop :=
  ∃ G', QB wr q d (.slice (some ⟨g, 0, none⟩) n cap) p ∧ RowE wr base (.slice (some ⟨g, 0, none⟩) n cap) n G' ∧ DownInv (befE (lt d)) G' n i ∧ (ents G' n).Perm (ents G n) ∧ Off (fun b => b = g) w wr
def Sunk (w : World) (base g n cap : Nat) (d : D) (G : Nat → T × Int) (w' : World) : Prop :=
  ∃ G', RowE w' base (.slice (some ⟨g, 0, none⟩) n cap) n G' ∧ Heap (befE (lt d)) G' n ∧ (ents G' n).Perm (ents G n) ∧ Off (fun b => b = g) w w'
set_option maxHeartbeats 2000000 in
theorem sink (d : D) (w : World) (base q g n cap : Nat) (p : Int) (G : Nat → T × Int) (hq : QB w q d (.slice (some ⟨g, 0, none⟩) n cap) p) (hr : RowE w base (.slice (some ⟨g, 0, none⟩) n cap) n G)
    (hd : DownInv (befE (lt d)) G n 0) (hn : n ≤ cap) (hc : cap ≤ 9223372036854775807) (hne : q ≠ g) (hn2 : n ≤ 1000000) :
    Calls Tryz.prog 172 #[.pointer (some ⟨q, 0, none⟩)] w fun e w' => e = .returned (.tuple #[]) ∧ Sunk w base g n cap d G w' := by
  have oE := befE_ord (lt_ord d)
  have HQ := Lib.hid hq
  have HR := Lib.hid hr
  have HD := Lib.hid hd
  clear hq hr hd
  go_enter Tryz.func172, Tryz.ntmps172
  go_wp2_with fail
  go_loopw [2] (fun i wr => ∃ k : Nat, (k < n ∨ k = 0) ∧ i = .int .i64 k ∧ Sinking w base q g n cap d p G k wr) (fun i _ => n - (intOf i).toNat)
  case atStart => exact ⟨0, .inr rfl, rfl, _, HQ.out, HR.out, HD.out, List.Perm.refl _, Off.refl _ _⟩
  case round =>
    obtain ⟨i, hi, rfl, G', hq, hr, hu, hpm, hoff⟩ := hrel
    clear HQ HR HD
    obtain ⟨wo, rfl⟩ : ∃ wo : World, wo = wr := ⟨_, rfl⟩
    have H1 := Lib.hid hq
    have H2 := Lib.hid hr
    have H3 := Lib.hid hu
    have H4 := Lib.hid hpm
    have H5 := Lib.hid hoff
    have q1 : wo.cell? ⟨q, 1, none⟩ = some (.slice (some ⟨g, 0, none⟩) n cap) := cell_at hq 1
    have zq := szs (block_lt hq)
    clear hq hr hu hpm hoff
    go_wp2_with fail
    go_loopw [3, 4] (fun f k wr => ∃ kn fn : Nat, k = .int .i64 kn ∧ f = .int .i64 fn ∧ 2 * i + 1 ≤ kn ∧ kn ≤ 2 * i + 3 ∧ (fn = i ∨ fn < n) ∧ Hid (Seen d G' i n kn fn) ∧ Below wo.heap.size wo wr) (fun _ k _ => 2 * i + 3 - (intOf k).toNat)
    case atStart => exact ⟨2 * i + 1, i, by go_num, rfl, by omega, by omega, .inl rfl, Seen.start _ _ _ _, Below.refl _ _⟩
    case round =>
      obtain ⟨k, f, rfl, rfl, hk1, hk2, hf, hs, hb⟩ := hrel
      have q2 := cell_kept hb q1
      have HB := Lib.hid hb
      clear hb
      by_cases hc1 : k = 2 * i + 3 ∨ n ≤ k
      · have hall := Lib.hid (Seen.all hs.out hc1)
        have hs1 := hs.out.1
        have hq5 := H1.out.off (X := fun _ => False) (Off.of_below HB.out) (fun h => h)
        have hr5 : RowE wr base (.slice (some ⟨g, 0, none⟩) n cap) n G' := Row.off (X := fun _ => False) H2.out (Off.of_below HB.out) (fun _ _ h => h)
        have ho5 : Off (fun b => b = g) w wr := H5.out.trans (Off.of_below (X := fun _ => False) HB.out) (fun _ _ h => h.elim)
        have hex : (2 * (i : Int) + 2 < (k : Int)) ∨ ((k : Int) ≤ 2 * (i : Int) + 2 ∧ (n : Int) ≤ (k : Int)) := by omega
        clear hc1
        by_cases hfi : f = i
        · subst hfi
          have HQ5 := Lib.hid hq5
          have HR5 := Lib.hid hr5
          have HO5 := Lib.hid ho5
          clear hq5 hr5 ho5 hs1 hs
          rcases hex with t1 | ⟨t1, t2⟩
          all_goals
            go_wp2_with fail
            go_returns
            exact ⟨rfl, G', HR5.out, down_done H3.out hall.out, H4.out, HO5.out⟩
        · have hfn : f < n := by omega
          obtain ⟨g1, g2, _, g4⟩ := hs1.resolve_left hfi
          have hfi2 : ((f : Int) == (i : Int)) = false := by simp; omega
          have S := swap d wr base q g n cap p G' i f hq5 hr5 (by omega) hfn hn hc hne
          have HS := Lib.hid S
          have HQ5 := Lib.hid hq5
          have HO5 := Lib.hid ho5
          have HG4 := Lib.hid g4
          have HFI := Lib.hid hfi
          clear hq5 hr5 ho5 hs1 hs S g4 hfi
          rcases hex with t1 | ⟨t1, t2⟩
          all_goals
            go_wp2_with (go_at_call 170; refine HS.out.mono ?_; rintro e w6 ⟨rfl, hr6, ho6⟩)
            go_roundw
            case rel => exact ⟨f, .inl hfn, rfl, swp G' i f, HQ5.out.off ho6 hne, hr6, down_step oE H3.out (by omega) hfn (by omega) HG4.out hall.out, (swp_perm (by omega) hfn).trans H4.out, HO5.out.same ho6⟩
            case measure => simp [intOf]; omega
      · have t1 : (k : Int) ≤ 2 * (i : Int) + 2 := by omega
        have t2 : (k : Int) < (n : Int) := by omega
        obtain ⟨r, hrr⟩ : ∃ r, r = befE (lt d) (G' k) (G' f) := ⟨_, rfl⟩
        have C := before d wr base q g n cap p G' k f (H1.out.off (X := fun _ => False) (Off.of_below HB.out) (fun h => h)) (Row.off (X := fun _ => False) H2.out (Off.of_below HB.out) (fun _ _ h => h)) (by omega) (by omega) hn hc
        rw [← hrr] at C
        have HC := Lib.hid C
        have HRR := Lib.hid hrr
        clear C hrr
        cases r
        all_goals
          go_wp2_with (go_at_call 169; refine HC.out.mono ?_; rintro e w5 ⟨rfl, hb5⟩)
          go_roundw
          case rel =>
            first
              | exact ⟨k + 1, k, by go_num, by go_num, by omega, by omega, .inr (by omega), Seen.yes hs.out hk1 (by omega) HRR.out.symm, HB.out.trans (hb5.mono HB.out.size)⟩
              | exact ⟨k + 1, f, by go_num, by go_num, by omega, by omega, hf, Seen.no hs.out HRR.out.symm, HB.out.trans (hb5.mono HB.out.size)⟩
          case measure => simp [intOf]; omega
end QT
end Go.Proofs.YtlnfhlmgnppcbaaGreat
namespace Go.Proofs.YtlnfhlmgnppcbaaGreat
open Go.RowKit
namespace QT
set_option linter.unusedVariables false
set_option linter.unusedSimpArgs false
set_option maxRecDepth 8000
def FP (q : Nat) (ow : Option Nat) : Nat → Prop := fun b => b = q ∨ some b = ow
def Q (w : World) (base q : Nat) (ow : Option Nat) (d : D) (l : List T) (N : Int) : Prop :=
  ∃ (v : Value) (G : Nat → T × Int) (A : List (T × Int)), QB w q d v N ∧ RowE w base v l.length G ∧ Heap (befE (lt d)) G l.length ∧ (ents G l.length).Perm A ∧ Asc A ∧ (∀ x ∈ A, 0 ≤ x.2 ∧ x.2 < N) ∧ A.map (·.1) = l ∧ v.ownBlock = ow ∧ ow ≠ some q ∧ base ≤ q ∧ 0 ≤ N
theorem Q.len {w : World} {base q : Nat} {ow : Option Nat} {d : D} {l : List T} {N : Int} (h : Q w base q ow d l N) : (l.length : Int) ≤ N := by
  obtain ⟨v, G, A, _, _, _, hp, ha, hN, rfl, _, _, _, h0⟩ := h
  have := asc_len ha hN
  simp; omega
theorem Q.nonneg {w : World} {base q : Nat} {ow : Option Nat} {d : D} {l : List T} {N : Int} (h : Q w base q ow d l N) : 0 ≤ N := by
  obtain ⟨v, G, A, _, _, _, _, _, _, _, _, _, _, h0⟩ := h; exact h0
theorem Q.off {X : Nat → Prop} {w w' : World} {base q : Nat} {ow : Option Nat} {d : D} {l : List T} {N : Int} (h : Q w base q ow d l N) (ho : Off X w w') (hX : ∀ b, FP q ow b → ¬ X b) : Q w' base q ow d l N := by
  obtain ⟨v, G, A, h1, h2, h3, h4, h5, h6, h7, h8, h9⟩ := h
  exact ⟨v, G, A, h1.off ho (hX q (.inl rfl)), Row.off h2 ho (fun g hg => hX g (.inr (by rw [← h8]; exact hg.symm))), h3, h4, h5, h6, h7, h8, h9⟩
theorem Q.below {w w' : World} {base q : Nat} {ow : Option Nat} {d : D} {l : List T} {N : Int} (h : Q w base q ow d l N) (hb : Below w.heap.size w w') : Q w' base q ow d l N :=
  h.off (X := fun _ => False) (Off.of_below hb) (fun _ _ h => h)
theorem Q.within {w : World} {base q : Nat} {ow : Option Nat} {d : D} {l : List T} {N : Int} (h : Q w base q ow d l N) : ∀ b, FP q ow b → base ≤ b ∧ b < w.heap.size := by
  obtain ⟨v, G, A, h1, h2, _, _, _, _, _, rfl, _, hq, _⟩ := h
  intro b hb
  rcases hb with rfl | hb
  · exact ⟨hq, block_lt h1⟩
  · exact World.ownsRow.lt h2 b hb.symm
theorem Q.block {w : World} {base q : Nat} {ow : Option Nat} {d : D} {l : List T} {N : Int} (h : Q w base q ow d l N) : ∃ a cap, w.cell? ⟨q, 1, none⟩ = some (.slice a l.length cap) ∧ w.cell? ⟨q, 0, none⟩ = some (F d) ∧ q < w.heap.size := by
  obtain ⟨v, G, A, h1, h2, _⟩ := h
  rcases h2.shape with ⟨rfl, h0⟩ | ⟨g, cap, rfl, _⟩
  · rw [h0]; exact ⟨none, 0, cell_at h1 1, cell_at h1 0, block_lt h1⟩
  · exact ⟨_, cap, cell_at h1 1, cell_at h1 0, block_lt h1⟩
theorem new (d : D) (w : World) (base : Nat) (hb : base ≤ w.heap.size) :
    Calls Tryz.prog 155 #[F d] w fun e w' => e = .returned (.pointer (some ⟨w.heap.size, 0, none⟩)) ∧ Q w' base w.heap.size none d [] 0 ∧ Below w.heap.size w w' := by
  have fin : ∀ w', w.alloc (.cells #[F d, .slice none 0 0, .int .i64 0] 246) = w' → Q w' base w.heap.size none d [] 0 ∧ Below w.heap.size w w' := by
    rintro w' rfl
    refine ⟨⟨.slice none 0 0, fun _ => default, [], heap_alloc_new w _, World.ownsRow_nil _ _ _ _, fun i _ h => absurd h (by simp), by simp [ents], List.Pairwise.nil, by simp, rfl, rfl, by simp, hb, by omega⟩, (Below.refl _ _).alloc (Nat.le_refl _) _⟩
  have HF := Lib.hid fin
  clear fin
  have hnf : ∀ w, Sem.run Tryz.prog (binOp .eql 233 (F d) .nilFunc) w = .ok (.bool false) w := fun w => by cases d <;> kernel_rfl
  cases d
  all_goals
    simp only [F, fn, if_true, if_false, Bool.false_eq_true] at *
    go_enter Tryz.func155, Tryz.ntmps155
    go_wp2
    go_returns
    exact ⟨rfl, HF.out _ rfl⟩
theorem len (d : D) (w : World) (base q : Nat) (ow : Option Nat) (l : List T) (N : Int) (h : Q w base q ow d l N) :
    Calls Tryz.prog 176 #[.pointer (some ⟨q, 0, none⟩)] w fun e w' => e = .returned (.int .i64 l.length) ∧ w = w' := by
  obtain ⟨a, cap, h1, _, h3⟩ := h.block
  clear h
  go_enter Tryz.func176, Tryz.ntmps176
  go_wp2
  go_returns
  exact ⟨rfl, rfl⟩
theorem Q.first {w : World} {base q : Nat} {ow : Option Nat} {d : D} {l : List T} {N : Int} (h : Q w base q ow d l N) (hl : l ≠ []) :
    ∃ g cap n, l.length = n + 1 ∧ n + 1 ≤ cap ∧ w.cell? ⟨q, 1, none⟩ = some (.slice (some ⟨g, 0, none⟩) (n + 1) cap) ∧ (∀ j, j < 4 → w.cell? ⟨g, j, none⟩ = (ec (l.getD (minIx (lt d) l) default, 0))[j]? ∨ j = 4 - 1) := by
  obtain ⟨v, G, A, h1, h2, h3, h4, h5, h6, rfl, h8, h9, _⟩ := h
  have h0 : 0 < (A.map (·.1)).length := List.length_pos_iff.2 hl
  obtain ⟨n, hn⟩ : ∃ n, (A.map (·.1)).length = n + 1 := ⟨_, (Nat.succ_pred_eq_of_pos h0).symm⟩
  rcases h2.shape with ⟨_, hz⟩ | ⟨g, cap, rfl, _, _, hc, _⟩
  · omega
  · have hp := pop_spec (lt_ord d) h4 h5 h3 h0
    rw [hn] at h2 hc
    refine ⟨g, cap, n, hn, hc, by rw [← hn]; exact cell_at h1 1, fun j hj => ?_⟩
    have hcell := RowE.at h2 (i := 0) (by omega) j hj
    rw [Nat.zero_mul, Nat.zero_add] at hcell
    have e : (A.map (·.1)).getD (minIx (lt d) (A.map (·.1))) default = (G 0).1 := getD_of_some (by rw [List.getElem?_map, hp]; rfl)
    rw [hcell, e]
    by_cases hj2 : j = 4 - 1
    · exact .inr hj2
    · left
      obtain rfl | rfl | rfl : j = 0 ∨ j = 1 ∨ j = 2 := by omega
      · rfl
      · rfl
      · rfl
set_option maxHeartbeats 400000 in
theorem peek_some (d : D) (w : World) (base q : Nat) (ow : Option Nat) (l : List T) (N : Int) (h : Q w base q ow d l N) (hl : l ≠ []) :
    Calls Tryz.prog 171 #[.pointer (some ⟨q, 0, none⟩)] w fun e w' => e = .returned (.tuple #[vv (l.getD (minIx (lt d) l) default), .bool true]) ∧ Below w.heap.size w w' := by
  obtain ⟨g, cap, n, hn, hc, q1, hcell⟩ := h.first hl
  have L := fun w' (hb : Below w.heap.size w w') => len d w' base q ow l N (h.below hb)
  rw [hn] at L
  have HL := Lib.hid L
  have HN := Lib.hid hn
  generalize l.getD (minIx (lt d) l) default = x at *
  obtain ⟨xk, xt, xu⟩ := x
  have h0 := (hcell 0 (by decide)).resolve_right (by decide); have h1 := (hcell 1 (by decide)).resolve_right (by decide); have h2 := (hcell 2 (by decide)).resolve_right (by decide); simp only [ec, Nat.add_zero, List.getElem?_cons_zero, List.getElem?_cons_succ] at h0 h1 h2
  have zq := szs (cell_lt q1)
  have zg := szs (cell_lt h0)
  dsimp only at zq zg
  clear L hn hcell h hl
  unfold vv
  have hne : ((n : Int) + 1 == 0) = false := by simp; omega
  go_enter Tryz.func171, Tryz.ntmps171
  go_wp2_with (go_at_call 176; refine (HL.out _ (by (repeat' (first | (with_reducible exact Below.refl _ _) | (with_reducible assumption) | (with_reducible refine Below.drew ?_) | (with_reducible refine below_drewN ?_ _) | (with_reducible refine Below.alloc ?_ ?_ _) | (with_reducible refine Below.setCell ?_ ?_ _) | go_size)))).mono ?_; rintro e w1 ⟨rfl, rfl⟩)
  refine bodyPost_ret (v := .tuple #[.agg #[.int .i64 xk, .int .i64 xt, .int .i64 xu], .bool true]) (by simp [results, Tryz.results171, go_sem]) rfl ⟨rfl, ?_⟩
  (repeat' (first | (with_reducible exact Below.refl _ _) | (with_reducible assumption) | (with_reducible refine Below.drew ?_) | (with_reducible refine below_drewN ?_ _) | (with_reducible refine Below.alloc ?_ ?_ _) | (with_reducible refine Below.setCell ?_ ?_ _) | go_size))
theorem peek_none (d : D) (w : World) (base q : Nat) (ow : Option Nat) (N : Int) (h : Q w base q ow d [] N) :
    Calls Tryz.prog 171 #[.pointer (some ⟨q, 0, none⟩)] w fun e w' => e = .returned (.tuple #[.agg #[.int .i64 0, .int .i64 0, .int .i64 0], .bool false]) ∧ Below w.heap.size w w' := by
  have L := fun w' (hb : Below w.heap.size w w') => len d w' base q ow [] N (h.below hb)
  have HL := Lib.hid L
  clear L h
  go_enter Tryz.func171, Tryz.ntmps171
  go_wp2_with (go_at_call 176; refine (HL.out _ (by (repeat' (first | (with_reducible exact Below.refl _ _) | (with_reducible assumption) | (with_reducible refine Below.drew ?_) | (with_reducible refine below_drewN ?_ _) | (with_reducible refine Below.alloc ?_ ?_ _) | (with_reducible refine Below.setCell ?_ ?_ _) | go_size)))).mono ?_; rintro e w1 ⟨rfl, rfl⟩)
  refine bodyPost_ret (v := .tuple #[.agg #[.int .i64 0, .int .i64 0, .int .i64 0], .bool false]) (by simp [results, Tryz.results171, go_sem]) rfl ⟨rfl, ?_⟩
  (repeat' (first | (with_reducible exact Below.refl _ _) | (with_reducible assumption) | (with_reducible refine Below.drew ?_) | (with_reducible refine below_drewN ?_ _) | (with_reducible refine Below.alloc ?_ ?_ _) | (with_reducible refine Below.setCell ?_ ?_ _) | go_size))
end QT
end Go.Proofs.YtlnfhlmgnppcbaaGreat
namespace Go.Proofs.YtlnfhlmgnppcbaaGreat
open Go.RowKit
namespace QT
set_option linter.unusedVariables false
set_option linter.unusedSimpArgs false
set_option maxRecDepth 8000
theorem clear_last {w : World} {base g n cap : Nat} {G : Nat → T × Int} (hr : RowE w base (.slice (some ⟨g, 0, none⟩) (n + 1) cap) (n + 1) G) :
    ∃ w', (∀ ty, (Builtin.clear_ #[244] ty #[.slice (some ⟨g, n * 4, none⟩) 1 (cap - n)]).run Tryz.prog w = .ok (.tuple #[]) w') ∧ RowE w' base (.slice (some ⟨g, 0, none⟩) n cap) n G ∧ Off (fun b => b = g) w w' := by
  rcases hr.2 with ⟨h, _⟩ | ⟨g', cap', cur, he, hb, hg, hn, hc, hsz, ht⟩
  · cases h
  · cases he
    have hfit : n * 4 + 0 + ([.int .i64 0, .int .i64 0, .int .i64 0, .int .i64 0] : List Value).length ≤ cur.size := by
      have : (n + 1) * 4 ≤ cap * 4 := Nat.mul_le_mul_right 4 hn
      rw [hsz, Nat.succ_mul] at *; simp; omega
    have hrun := run_storeCells_at Tryz.prog g (n * 4) 248 ([.int .i64 0, .int .i64 0, .int .i64 0, .int .i64 0] : List Value) 0 cur w hg hfit (by intro v hv; simp at hv; simp [hv]; rfl)
    obtain ⟨i0, hi, hz0, hz1, hz2⟩ := info_parts infoE
    refine ⟨w.setRow g (cur.toList.take (n * 4 + 0) ++ ([.int .i64 0, .int .i64 0, .int .i64 0, .int .i64 0] : List Value) ++ cur.toList.drop (n * 4 + 0 + ([.int .i64 0, .int .i64 0, .int .i64 0, .int .i64 0] : List Value).length)).toArray, fun ty => ?_, ?_, ?_⟩
    · have hz : (zeroValue 248).run Tryz.prog w = .ok (.agg #[.int .i64 0, .int .i64 0, .int .i64 0, .int .i64 0]) w := by kernel_rfl
      have hzc : Builtin.zeroCells (Value.agg #[.int .i64 0, .int .i64 0, .int .i64 0, .int .i64 0]).cells 1 = #[.int .i64 0, .int .i64 0, .int .i64 0, .int .i64 0] := by kernel_rfl
      have hu := run_underlying (P := Tryz.prog) (w := w) Tryz.underlying244
      simp [Builtin.clear_, hu, hz, Result.andThen, hzc, hrun]
    · refine ⟨flat_len (fun i => ec_len (G i)) n, .inr ⟨g, cap, _, rfl, hb, setRow_heap _ _ _ _ _ _ hg, by omega, hc, ?_, ?_⟩⟩
      · simp at hfit ⊢; omega
      · simp only [Nat.add_zero]
        rw [List.append_assoc]
        rw [List.take_append_of_le_length (by simp at hfit ⊢; omega), List.take_take, Nat.min_self]
        have := congrArg (List.take (n * 4)) ht
        rw [List.take_take, Nat.min_eq_left (Nat.mul_le_mul_right 4 (by omega)), flat_take (fun i => ec_len (G i)) (by omega)] at this
        exact this
    · exact ⟨rfl, rfl, rfl, by simp, fun k _ hx => setRow_other _ _ _ _ hx⟩
set_option maxHeartbeats 1000000 in
theorem pop_some (d : D) (w : World) (base q : Nat) (ow : Option Nat) (l : List T) (N : Int) (h : Q w base q ow d l N) (hl : l ≠ []) (hN : N ≤ 1000000) :
    Calls Tryz.prog 159 #[.pointer (some ⟨q, 0, none⟩)] w fun e w' => e = .returned (.tuple #[vv (l.getD (minIx (lt d) l) default), .bool true]) ∧ Q w' base q ow d (l.eraseIdx (minIx (lt d) l)) N ∧ Off (FP q ow) w w' := by
  have hw := h.within
  have P := fun w' (hb : Below w.heap.size w w') => peek_some d w' base q ow l N (h.below hb) hl
  have hlen := h.len
  obtain ⟨v, G, A, h1, h2, h3, h4, h5, h6, h7, h8, h9, h10, h11⟩ := h
  obtain ⟨n, hn⟩ : ∃ n, l.length = n + 1 := ⟨l.length - 1, by have := List.length_pos_iff.2 hl; omega⟩
  have hp0 := pop_spec (lt_ord d) h4 h5 h3 (by omega)
  rw [h7] at hp0
  have hil : minIx (lt d) l < l.length := minIx_lt hl
  rw [hn] at h2 h3 h4 hil
  rcases h2.shape with ⟨_, hz⟩ | ⟨g, cap, rfl, hbg, hgl, hcap, hcm⟩
  · omega
  have hgo : ow = some g := by rw [← h8]; rfl
  have hqg : q ≠ g := fun e => h9 (by rw [hgo, e])
  have hql := block_lt h1
  have zq := szs hql
  have zg := szs hgl
  have hcm2 : cap ≤ 9223372036854775807 := by unfold maxLen at hcm; omega
  have H1 := Lib.hid h1
  have H2 := Lib.hid h2
  have HP := Lib.hid P
  have HHp := Lib.hid h3
  have HPm := Lib.hid h4
  have HP0 := Lib.hid hp0
  have HA := Lib.hid (And.intro h5 (And.intro h6 (And.intro h7 (And.intro h8 (And.intro h9 (And.intro h10 h11))))))
  have HGO := Lib.hid hgo
  have HN := Lib.hid hn
  clear P h1 h2 h3 h4 hp0 h5 h6 h7 h8 h9 h10 h11 hgo hw hn
  generalize hx : l.getD (minIx (lt d) l) default = x at *
  have HX := Lib.hid hx
  clear hx
  obtain ⟨xk, xt, xu⟩ := x
  unfold vv at *
  go_enter Tryz.func159, Tryz.ntmps159
  go_wp2_with fail
  refine (HP.out _ (by (repeat' (first | (with_reducible exact Below.refl _ _) | (with_reducible assumption) | (with_reducible refine Below.drew ?_) | (with_reducible refine below_drewN ?_ _) | (with_reducible refine Below.alloc ?_ ?_ _) | (with_reducible refine Below.setCell ?_ ?_ _) | go_size)))).mono ?_
  rintro e w1 ⟨rfl, hb1⟩
  have hb1' : Below w.heap.size w w1 := ((Below.refl _ _).alloc (Nat.le_refl _) _).trans (hb1.mono (by simp))
  have hr1 : w.heap.size < w1.heap.size := by have := hb1.size; simp at this; omega
  have r0 : w1.heap[w.heap.size]? = some (.cells #[.int .i64 0, .int .i64 0, .int .i64 0] 231) := (hb1.block _ (by simp)).trans (heap_alloc_new w _)
  clear hb1
  have O1 : Off (fun _ => False) w w1 := Off.of_below hb1'
  have q1 : w1.cell? ⟨q, 1, none⟩ = some (.slice (some ⟨g, 0, none⟩) (n + 1) cap) := cell_at (H1.out.off O1 (fun h => h)) 1
  have zq1 := szs (show q < w1.heap.size by omega)
  obtain ⟨w2, hw2⟩ : ∃ w2, w2 = w1.alloc (.cells #[.int .i64 xk, .int .i64 xt, .int .i64 xu] 231) := ⟨_, rfl⟩
  have O2 : Off (fun _ => False) w w2 := by rw [hw2]; exact O1.alloc _
  have QB2 := Lib.hid (H1.out.off O2 (fun h => h))
  have R2 : RowE w2 base (.slice (some ⟨g, 0, none⟩) (n + 1) cap) (n + 1) G := Row.off H2.out O2 (fun _ _ h => h)
  have HR2 := Lib.hid R2
  have x2 : w2.heap[w1.heap.size]? = some (.cells #[.int .i64 xk, .int .i64 xt, .int .i64 xu] 231) := by rw [hw2]; exact heap_alloc_new w1 _
  have r2 : w2.heap[w.heap.size]? = some (.cells #[.int .i64 0, .int .i64 0, .int .i64 0] 231) := by rw [hw2]; exact (Below.heap_alloc w1 _ _ hr1).trans r0
  have HX2 := Lib.hid x2
  have HRR := Lib.hid r2
  have HO2 := Lib.hid O2
  clear r0 O1 O2 R2 x2 r2
  go_wp2_with fail
  rw [← hw2]
  have S := swap d w2 base q g (n + 1) cap N G 0 n QB2.out HR2.out (by omega) (by omega) hcap hcm2 hqg
  rw [show (((0 : Nat) : Int)) = 0 from rfl] at S
  refine S.mono ?_
  rintro e w3 ⟨rfl, hr3, ho3⟩
  obtain ⟨w4, hcl, hr4, ho4⟩ := clear_last hr3
  have ho34 := ho3.same ho4
  have q3 : w3.cell? ⟨q, 1, none⟩ = some (.slice (some ⟨g, 0, none⟩) (n + 1) cap) := cell_at (QB2.out.off ho3 hqg) 1
  have qb4 := QB2.out.off ho34 hqg
  have q4 : w4.cell? ⟨q, 1, none⟩ = some (.slice (some ⟨g, 0, none⟩) (n + 1) cap) := cell_at qb4 1
  have f4 : w4.frozen? ⟨q, 1, none⟩ = false := free_at qb4 1
  have QB5 := Lib.hid (QB.set1 (v' := .slice (some ⟨g, 0, none⟩) n cap) qb4)
  have o5 : Off (fun b => b = q) w4 (w4.setCell ⟨q, 1, none⟩ (.slice (some ⟨g, 0, none⟩) n cap)) := (Off.refl (fun b => b = q) w4).setCell (fun _ => rfl) _
  have R5 := Lib.hid (show RowE (w4.setCell ⟨q, 1, none⟩ (.slice (some ⟨g, 0, none⟩) n cap)) base (.slice (some ⟨g, 0, none⟩) n cap) n (swp G 0 n) from Row.off hr4 o5 (fun g' hg' h => by cases hg'; exact hqg h.symm))
  have O5 := Lib.hid (show Off (fun b => b = q ∨ b = g) w2 (w4.setCell ⟨q, 1, none⟩ (.slice (some ⟨g, 0, none⟩) n cap)) from (ho34.mono (fun _ _ h => .inr h)).trans o5 (fun _ _ h => .inl h))
  clear S hr3 ho3 hr4 ho4 ho34 qb4 o5 hw2 q1
  go_wp2_with fail
  refine (sink d _ base q g n cap N (swp G 0 n) QB5.out R5.out (down_start HHp.out) (by omega) hcm2 hqg (by have := HN.out; omega)).mono ?_
  rintro e w6 ⟨rfl, G', hr6, hh6, hp6, ho6⟩
  have O6 : Off (fun b => b = q ∨ b = g) w2 w6 := O5.out.trans ho6 (fun _ _ h => .inr h)
  have ne1 : ¬ (w1.heap.size = q ∨ w1.heap.size = g) := by omega
  have ne0 : ¬ (w.heap.size = q ∨ w.heap.size = g) := by omega
  have x6 : w6.heap[w1.heap.size]? = some (.cells #[.int .i64 xk, .int .i64 xt, .int .i64 xu] 231) := (O6.block _ (block_lt HX2.out) ne1).trans HX2.out
  have r6 : w6.heap[w.heap.size]? = some (.cells #[.int .i64 0, .int .i64 0, .int .i64 0] 231) := (O6.block _ (block_lt HRR.out) ne0).trans HRR.out
  have c0 : w6.cell? ⟨w1.heap.size, 0, none⟩ = some (.int .i64 xk) := cell_at x6 0
  have c1 : w6.cell? ⟨w1.heap.size, 1, none⟩ = some (.int .i64 xt) := cell_at x6 1
  have c2 : w6.cell? ⟨w1.heap.size, 2, none⟩ = some (.int .i64 xu) := cell_at x6 2
  have s0 : w6.cell? ⟨w.heap.size, 0, none⟩ = some (.int .i64 0) := cell_at r6 0
  have s1 : w6.cell? ⟨w.heap.size, 1, none⟩ = some (.int .i64 0) := cell_at r6 1
  have s2 : w6.cell? ⟨w.heap.size, 2, none⟩ = some (.int .i64 0) := cell_at r6 2
  have fr6 : ∀ j, w6.frozen? ⟨w.heap.size, j, none⟩ = false := free_at r6
  have QB6 := Lib.hid (QB5.out.off ho6 hqg)
  have OE := Lib.hid (show Off (FP q ow) w (putCells w6 w.heap.size 0 [.int .i64 xk, .int .i64 xt, .int .i64 xu]) from by
    have a1 : Off (FP q ow) w w6 := Off.trans (X := FP q ow) (HO2.out.mono (fun _ _ h => h.elim)) O6 (fun b _ h => h.imp id (fun e => by rw [HGO.out, e]))
    exact a1.trans (off_putCells (X := fun b => b = w.heap.size) rfl _ _ _ (Off.refl _ _)) (fun b hb h => by omega))
  have OF := Lib.hid (show Off (fun b => b = w.heap.size) w6 (putCells w6 w.heap.size 0 [.int .i64 xk, .int .i64 xt, .int .i64 xu]) from off_putCells (X := fun b => b = w.heap.size) rfl _ _ _ (Off.refl _ _))
  have HR6 := Lib.hid hr6
  have HH6 := Lib.hid hh6
  have HP6 := Lib.hid (hp6.trans (pop_rest HPm.out HP0.out (swp_perm (by omega) (by omega)) (swp_right _ _ _)))
  have HNE := Lib.hid ne0
  have HQ7 := Lib.hid (show Q (putCells w6 w.heap.size 0 [.int .i64 xk, .int .i64 xt, .int .i64 xu]) base q ow d (l.eraseIdx (minIx (lt d) l)) N from by
    obtain ⟨h5, h6, h7, h8, h9, h10, h11⟩ := HA.out
    have hlen' : (l.eraseIdx (minIx (lt d) l)).length = n := by rw [List.length_eraseIdx_of_lt (by have := HN.out; omega), HN.out]; rfl
    refine ⟨_, G', A.eraseIdx (minIx (lt d) l), QB6.out.off OF.out (fun e => HNE.out (.inl e.symm)), ?_, ?_, ?_, asc_erase h5 _, fun x hx => h6 x (List.mem_of_mem_eraseIdx hx), ?_, h8, h9, h10, h11⟩
    · rw [hlen']; exact Row.off HR6.out OF.out (fun g' hg' h => by cases hg'; exact HNE.out (.inr h.symm))
    · rw [hlen']; exact HH6.out
    · rw [hlen']; exact HP6.out
    · rw [List.eraseIdx_eq_take_drop_succ, List.map_append, List.map_take, List.map_drop, h7, ← List.eraseIdx_eq_take_drop_succ])
  clear x6 r6 hr6 hh6 hp6 ho6 O6 hcl q3 q4 f4 ne0 ne1
  go_wp2_with fail
  refine bodyPost_ret (v := .tuple #[.agg #[.int .i64 xk, .int .i64 xt, .int .i64 xu], .bool true]) (by simp [results, Tryz.results159, go_sem, s0, s1, s2]) rfl ⟨rfl, HQ7.out, OE.out⟩
theorem pop_none (d : D) (w : World) (base q : Nat) (ow : Option Nat) (N : Int) (h : Q w base q ow d [] N) :
    Calls Tryz.prog 159 #[.pointer (some ⟨q, 0, none⟩)] w fun e w' => e = .returned (.tuple #[.agg #[.int .i64 0, .int .i64 0, .int .i64 0], .bool false]) ∧ Below w.heap.size w w' := by
  have P := fun w' (hb : Below w.heap.size w w') => peek_none d w' base q ow N (h.below hb)
  have HP := Lib.hid P
  clear P h
  go_enter Tryz.func159, Tryz.ntmps159
  go_wp2_with fail
  refine (HP.out _ (by (repeat' (first | (with_reducible exact Below.refl _ _) | (with_reducible assumption) | (with_reducible refine Below.drew ?_) | (with_reducible refine below_drewN ?_ _) | (with_reducible refine Below.alloc ?_ ?_ _) | (with_reducible refine Below.setCell ?_ ?_ _) | go_size)))).mono ?_
  rintro e w1 ⟨rfl, hb1⟩
  have hk := bcell hb1
  have z1 := szs (show w.heap.size < w1.heap.size by have := hb1.size; simp at this; omega)
  have hb2 : Below w.heap.size w w1 := ((Below.refl _ _).alloc (Nat.le_refl _) _).trans (hb1.mono (by simp))
  go_wp2_with fail
  refine bodyPost_ret (v := .tuple #[.agg #[.int .i64 0, .int .i64 0, .int .i64 0], .bool false]) (by simp [results, Tryz.results159, go_sem, hk, z1]) rfl ⟨rfl, ?_⟩
  (have hszz := (hb2).size; (repeat' (first | (with_reducible exact Below.refl _ _) | (with_reducible assumption) | (with_reducible refine Below.drew ?_) | (with_reducible refine below_drewN ?_ _) | (with_reducible refine Below.alloc ?_ ?_ _) | (with_reducible refine Below.setCell ?_ ?_ _) | go_size)))
theorem push_q (d : D) (w : World) (base q : Nat) (ow : Option Nat) (l : List T) (N : Int) (x : T) (h : Q w base q ow d l N) (hN : N < 1000000) (hb : base ≤ w.heap.size) :
    Calls Tryz.prog 158 #[.pointer (some ⟨q, 0, none⟩), vv x] w fun e w' => e = .returned (.tuple #[]) ∧ ∃ ow', Q w' base q ow' d (l ++ [x]) (N + 1) ∧ Off (FP q ow) w w' ∧ ∀ g, ow' = some g → ow = some g ∨ w.heap.size ≤ g := by
  have hlen := h.len
  have h0 := h.nonneg
  obtain ⟨v, G, A, h1, h2, h3, h4, h5, h6, h7, h8, h9, h10, h11⟩ := h
  subst h8
  refine (push d w base q l.length v N G x h1 h2 h3 h9 hb (by omega) ⟨h0, hN⟩).mono ?_
  rintro e w' ⟨rfl, v', G', a1, a2, a3, a4, a5, a6, a7⟩
  refine ⟨rfl, v'.ownBlock, ⟨v', G', A ++ [(x, N)], a1, ?_, ?_, ?_, asc_push h5 (fun y hy => (h6 y hy).2) x, ?_, ?_, rfl, a5, h10, by omega⟩, a6, a7⟩
  · rw [List.length_append]; exact a2
  · rw [List.length_append]; exact a3
  · rw [List.length_append]; exact a4.trans (h4.append_right _)
  · intro y hy
    rcases List.mem_append.1 hy with hy | hy
    · have := h6 y hy; omega
    · simp at hy; subst hy; exact ⟨h0, by omega⟩
  · rw [List.map_append, h7]; rfl
end QT
end Go.Proofs.YtlnfhlmgnppcbaaGreat
