/- Slices of numbers and tables compared; tables that the call owns. -/
import Derived.Test.YtbmlnjdfnjjjhaaY0
import Derived.BigQuiet
namespace Go.Proofs.Ytbmlnjdfnjjjhaa
open Go.RowKit
set_option linter.unusedVariables false
set_option linter.unusedSimpArgs false
open Rd
/-- The slice reads as these numbers. -/
def Ints (w : World) (ao : Option Addr) (n : Nat) (f : Nat → Int) : Prop := SlE w 1 ao n (fun i => [.int .i64 (f i)])
theorem Ints.below {w w' : World} {ao : Option Addr} {n : Nat} {f : Nat → Int} (h : Ints w ao n f) (hb : Below w.heap.size w w') : Ints w' ao n f := SlE.below (fun _ => rfl) h hb
theorem Ints.cell {w : World} {ao : Option Addr} {n : Nat} {f : Nat → Int} (h : Ints w ao n f) {i : Nat} (hi : i < n) : ∃ g o, ao = some ⟨g, o, none⟩ ∧ g < w.heap.size ∧ w.cell? ⟨g, o + i, none⟩ = some (.int .i64 (f i)) := by
  obtain ⟨g, o, e, hc⟩ := h i hi
  have h0 := hc 0 (by decide)
  rw [Nat.mul_one, Nat.add_zero] at h0
  exact ⟨g, o, e, cell_lt h0, h0⟩
theorem Ints.nil (w : World) (f : Nat → Int) : Ints w none 0 f := fun i hi => absurd hi (by omega)
theorem Nums.ints {w : World} {base b n : Nat} {f : Int → Int} (h : Nums w base b n f) : Ints w (some ⟨b, 0, none⟩) n (fun i => f i) := fun i hi => ⟨b, 0, rfl, fun j hj => by
  obtain rfl : j = 0 := by omega
  rw [Nat.zero_add, Nat.mul_one, Nat.add_zero]; exact h.cell hi⟩
theorem IsL.ints {w : World} {base : Nat} {v : Value} {l : List Int} (h : IsL w base v l) : ∃ a c, v = .slice a l.length c ∧ l.length ≤ c ∧ c ≤ 9223372036854775807 ∧ Ints w a l.length (fun i => l.getD i 0) := by
  obtain ⟨a, c, e, h1, h2, h3, _⟩ := Row.sl h (fun _ => rfl)
  exact ⟨a, c, e, h1, h2, h3⟩
set_option maxHeartbeats 1000000 in
theorem same15 (w : World) (a1 a2 : Option Addr) (n c1 c2 : Nat) (f : Nat → Int) (h1 : Ints w a1 n f) (h2 : Ints w a2 n f) (hc1 : n ≤ c1) (hc2 : n ≤ c2) (hm1 : c1 ≤ 9223372036854775807) (hm2 : c2 ≤ 9223372036854775807) :
    Calls Try.prog 15 #[.slice a1 n c1, .slice a2 n c2] w fun e w' => e = .returned (.bool true) ∧ Below w.heap.size w w' := by
  have H1 := Lib.hid h1
  have H2 := Lib.hid h2
  clear h1 h2
  go_enter Try.func15, Try.ntmps15
  go_wp2_with fail
  go_loopw [5] (fun i wr => ∃ k : Nat, k ≤ n ∧ i = .int .i64 k ∧ Below w.heap.size w wr) (fun i _ => n - (intOf i).toNat)
  case atStart => exact ⟨0, by omega, rfl, Below.refl _ _⟩
  case round =>
    obtain ⟨k, hk, rfl, hrel⟩ := hrel
    have HB := Lib.hid hrel
    by_cases hlt : k < n
    · obtain ⟨g1, o1, rfl, z1, x1⟩ := (H1.out.below hrel).cell hlt
      obtain ⟨g2, o2, rfl, z2, x2⟩ := (H2.out.below hrel).cell hlt
      have zz1 := szs z1
      have zz2 := szs z2
      have tk : (k : Int) < (n : Int) := by omega
      generalize f k = fk at *
      clear hrel
      go_wp2_with fail
      (refine region_all (fun i : Nat => World.drewN _ i) mixed (by kernel_rfl) ⟨1, rfl⟩ ?_; (repeat (any_goals (first | go_big_quiet_step (fail) | quiet_step (fail) | (refine wpQuiet_step (fun K hK => ?_); go_simp; split <;> (refine hK _ ?_; clear hK K))))); (all_goals (refine wpQuiet_nil (fun nq => ?_))))
      all_goals go_wp2_with fail
      all_goals go_roundw
      case rel => exact ⟨k + 1, by omega, by go_num, by have := HB.out; (repeat' (first | (with_reducible exact Below.refl _ _) | (with_reducible assumption) | (with_reducible refine Below.drew ?_) | (with_reducible refine below_drewN ?_ _) | (with_reducible refine Below.alloc ?_ ?_ _) | (with_reducible refine Below.setCell ?_ ?_ _) | go_size))⟩
      case measure => simp [intOf]; omega
    · obtain rfl : k = n := by omega
      go_wp2_with fail
      go_returns
      exact ⟨rfl, HB.out⟩
/-- The block reads as these numbers. -/
def Nm (w : World) (b q : Nat) (f : Nat → Int) : Prop := ∀ j, j < q → w.cell? ⟨b, j, none⟩ = some (.int .i64 (f j))
theorem Nm.ints {w : World} {b q : Nat} {f : Nat → Int} (h : Nm w b q f) : Ints w (some ⟨b, 0, none⟩) q f := fun i hi => ⟨b, 0, rfl, fun j hj => by
  obtain rfl : j = 0 := by omega
  rw [Nat.zero_add, Nat.mul_one, Nat.add_zero]; exact h i hi⟩
theorem Nm.off {X : Nat → Prop} {w w' : World} {b q : Nat} {f : Nat → Int} (h : Nm w b q f) (ho : Off X w w') (hX : ¬ X b) : Nm w' b q f := fun j hj => ho.cell (h j hj) hX
/-- The slice owns a table of k rows of q numbers. -/
def Tab (w : World) (base : Nat) (v : Value) (k q : Nat) (T : Nat → Nat → Int) : Prop :=
  ∃ A : Nat → Nat × Nat, Row w base 27 1 v k (fun i => [.slice (some ⟨(A i).1, 0, none⟩) q (A i).2]) ∧ ∀ i, i < k → base ≤ (A i).1 ∧ v.ownBlock ≠ some (A i).1 ∧ q ≤ (A i).2 ∧ (A i).2 ≤ 9223372036854775807 ∧ Nm w (A i).1 q (T i)
theorem Tab.below {w w' : World} {base : Nat} {v : Value} {k q : Nat} {T : Nat → Nat → Int} (h : Tab w base v k q T) (hb : Below w.heap.size w w') : Tab w' base v k q T := by
  obtain ⟨A, h1, h2⟩ := h
  refine ⟨A, Row.off (X := fun _ => False) h1 (Off.of_below hb) (fun _ _ h => h), fun i hi => ?_⟩
  obtain ⟨a1, a2, a3, a4, a5⟩ := h2 i hi
  exact ⟨a1, a2, a3, a4, a5.off (X := fun _ => False) (Off.of_below hb) (fun h => h)⟩
theorem Tab.nil (w : World) (base q : Nat) (T : Nat → Nat → Int) : Tab w base (.slice none 0 0) 0 q T := ⟨fun _ => (0, 0), World.ownsRow_nil _ _ _ _, fun i hi => absurd hi (by omega)⟩
theorem Tab.own {w : World} {base : Nat} {v : Value} {k q : Nat} {T : Nat → Nat → Int} (h : Tab w base v k q T) : ∀ g, v.ownBlock = some g → base ≤ g ∧ g < w.heap.size := by
  obtain ⟨A, h1, _⟩ := h
  exact World.ownsRow.lt h1
theorem Tab.base_mono {w : World} {B base : Nat} {v : Value} {k q : Nat} {T : Nat → Nat → Int} (h : Tab w B v k q T) (hb : base ≤ B) : Tab w base v k q T := by
  obtain ⟨A, h1, h2⟩ := h
  exact ⟨A, Row.base_mono h1 hb, fun i hi => ⟨by have := (h2 i hi).1; omega, (h2 i hi).2⟩⟩
theorem Tab.congr {w : World} {base : Nat} {v : Value} {k q : Nat} {T T' : Nat → Nat → Int} (h : Tab w base v k q T) (hT : ∀ i j, i < k → j < q → T i j = T' i j) : Tab w base v k q T' := by
  obtain ⟨A, h1, h2⟩ := h
  refine ⟨A, h1, fun i hi => ?_⟩
  obtain ⟨a1, a2, a3, a4, a5⟩ := h2 i hi
  exact ⟨a1, a2, a3, a4, fun j hj => by rw [← hT i j hi hj]; exact a5 j hj⟩
/-- A row is appended. -/
theorem Tab.push {w w' : World} {base : Nat} {v v' : Value} {k q b c : Nat} {A : Nat → Nat × Nat} {T : Nat → Nat → Int} (h2 : ∀ i, i < k → base ≤ (A i).1 ∧ v.ownBlock ≠ some (A i).1 ∧ q ≤ (A i).2 ∧ (A i).2 ≤ 9223372036854775807 ∧ Nm w (A i).1 q (T i))
    (hr : Row w' base 27 1 v' (k + 1) (upd (fun i => [.slice (some ⟨(A i).1, 0, none⟩) q (A i).2]) k [.slice (some ⟨b, 0, none⟩) q c])) (ho : Off (fun x => some x = v.ownBlock) w w') (hown : v'.ownBlock = v.ownBlock ∨ ∀ g, v'.ownBlock = some g → w.heap.size ≤ g)
    (hb : base ≤ b) (hbv : v.ownBlock ≠ some b) (hbl : b < w.heap.size) (hqc : q ≤ c) (hc : c ≤ 9223372036854775807) (hn : Nm w b q (T k)) (h0 : 0 < q) : Tab w' base v' (k + 1) q T := by
  have ne : ∀ x, v.ownBlock ≠ some x → x < w.heap.size → v'.ownBlock ≠ some x := fun x hx hl e => by
    rcases hown with h | h
    · rw [h] at e; exact hx e
    · have := h x e; omega
  refine ⟨fun i => if i = k then (b, c) else A i, Row.congr hr fun i _ => ?_, fun i hi => ?_⟩
  · by_cases e : i = k
    · subst e; rw [upd_same]; simp
    · rw [upd_ne e]; simp [e]
  · by_cases e : i = k
    · subst e
      simp only [if_pos rfl, if_true]
      exact ⟨hb, ne b hbv hbl, hqc, hc, hn.off ho (fun h => hbv h.symm)⟩
    · simp only [if_neg e]
      obtain ⟨a1, a2, a3, a4, a5⟩ := h2 i (by omega)
      exact ⟨a1, ne _ a2 (cell_lt (a5 0 h0)), a3, a4, a5.off ho (fun h => a2 h.symm)⟩
set_option maxHeartbeats 1000000 in
theorem sameTable18 (w : World) (B1 B2 : Nat) (v1 v2 : Value) (k q : Nat) (T : Nat → Nat → Int) (h1 : Tab w B1 v1 k q T) (h2 : Tab w B2 v2 k q T) :
    Calls Try.prog 18 #[v1, v2] w fun e w' => e = .returned (.bool true) ∧ Below w.heap.size w w' := by
  have H1 := Lib.hid h1
  have H2 := Lib.hid h2
  obtain ⟨A1, r1, _⟩ := h1
  obtain ⟨A2, r2, _⟩ := h2
  obtain ⟨a1, c1, rfl, hc1, hm1, _, _⟩ := Row.sl r1 (fun _ => rfl)
  obtain ⟨a2, c2, rfl, hc2, hm2, _, _⟩ := Row.sl r2 (fun _ => rfl)
  clear r1 r2
  go_enter Try.func18, Try.ntmps18
  go_wp2_with fail
  go_loopw [5] (fun i wr => ∃ j : Nat, j ≤ k ∧ i = .int .i64 j ∧ Below w.heap.size w wr) (fun i _ => k - (intOf i).toNat)
  case atStart => exact ⟨0, by omega, rfl, Below.refl _ _⟩
  case round =>
    obtain ⟨j, hj, rfl, hrel⟩ := hrel
    have HB := Lib.hid hrel
    by_cases hlt : j < k
    · obtain ⟨A1, r1, g1⟩ := H1.out.below hrel
      obtain ⟨A2, r2, g2⟩ := H2.out.below hrel
      obtain ⟨a1', c1', e1, _, _, s1, _⟩ := Row.sl r1 (fun _ => rfl)
      obtain ⟨a2', c2', e2, _, _, s2, _⟩ := Row.sl r2 (fun _ => rfl)
      cases e1; cases e2
      obtain ⟨x1, o1, rfl, y1⟩ := s1 j hlt
      obtain ⟨x2, o2, rfl, y2⟩ := s2 j hlt
      have y1 := y1 0 (by decide)
      have y2 := y2 0 (by decide)
      simp at y1 y2
      obtain ⟨_, _, p1, p2, p3⟩ := g1 j hlt
      obtain ⟨_, _, p4, p5, p6⟩ := g2 j hlt
      have SM := Lib.hid (fun nq => same15 (wr.drewN nq) _ _ q _ _ (T j) ((p3.off (Off.of_below (below_drewN (Below.refl _ _) nq)) (fun h => h) (X := fun _ => False)).ints) ((p6.off (Off.of_below (below_drewN (Below.refl _ _) nq)) (fun h => h) (X := fun _ => False)).ints) p1 p4 p2 p5)
      have z1 := szs (cell_lt y1)
      have z2 := szs (cell_lt y2)
      dsimp only at z1 z2
      have tk : (j : Int) < (k : Int) := by omega
      clear hrel p3 p6 g1 g2 r1 r2 s1 s2
      generalize (A1 j).1 = bb1 at *
      generalize (A1 j).2 = cc1 at *
      generalize (A2 j).1 = bb2 at *
      generalize (A2 j).2 = cc2 at *
      go_wp2_with fail
      (refine region_drawn 8 mixed (by kernel_rfl) ?_; simp only [List.take_succ_cons, List.take_zero, List.drop_succ_cons, List.drop_zero]; (repeat (any_goals (first | go_big_quiet_step (fail) | quiet_step (fail) | (refine wpQuiet_step (fun K hK => ?_); go_simp; split <;> (refine hK _ ?_; clear hK K))))); (all_goals (refine wpQuiet_nil (fun nq => ?_))))
      go_wp2_with fail
      refine (SM.out nq).mono ?_
      rintro e w2 ⟨rfl, b2⟩
      have B2 := Lib.hid (HB.out.trans (((below_drewN (Below.refl _ _) nq).trans b2).mono HB.out.size))
      clear b2
      go_wp2_with fail
      go_roundw
      case rel => exact ⟨j + 1, by omega, by go_num, B2.out⟩
      case measure => simp [intOf]; omega
    · obtain rfl : j = k := by omega
      go_wp2_with fail
      go_returns
      exact ⟨rfl, HB.out⟩
end Go.Proofs.Ytbmlnjdfnjjjhaa
