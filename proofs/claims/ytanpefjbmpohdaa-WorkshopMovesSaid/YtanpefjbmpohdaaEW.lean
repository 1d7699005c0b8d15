/- Values of a queue: jobs' numbers, the longer jobs first. -/
import Derived.Test.YtanpefjbmpohdaaA
namespace Go.Proofs.Ytanpefjbmpohdaa
open Go.RowKit Go.ChangeShapes Go.WideShapes Go.Deep
theorem Sl.job' {w : World} {ao : Option Addr} {m c : Nat} {J : Nat → Jb} (h : Sl w 3 ao m c (jf J)) {i : Nat} (hi : i < m) : ∃ g o, ao = some ⟨g, o, none⟩ ∧ g < w.heap.size ∧ w.cell? ⟨g, o + i * 3 + 1, none⟩ = some (.int .i64 (J i).secs) := by
  obtain ⟨g, o, e, hc⟩ := h.cell hi
  have h0 : w.cell? ⟨g, o + i * 3, none⟩ = some (.int .i64 (J i).id) := hc 0 (by decide)
  exact ⟨g, o, e, cell_lt h0, hc 1 (by decide)⟩
namespace QJ
set_option linter.unusedVariables false
set_option linter.unusedSimpArgs false
abbrev T := Int
def vv (x : T) : Value := .int .i64 x
def ec (x : T × Int) : List Value := [.int .i64 x.1, .int .i64 x.2]
structure D where
  ao : Option Addr
  m : Nat
  c : Nat
  J : Nat → Jb
  g : Nat
def ltL (sa a sb b : Int) : Bool := decide (sb < sa) || (decide (sa = sb) && decide (a < b))
theorem ltL_as {sa a sb b : Int} (h : ltL sa a sb b = true) : ltL sb b sa a = false := by simp [ltL] at *; omega
theorem ltL_tr {sa a sb b sc c : Int} (h1 : ltL sb b sa a = false) (h2 : ltL sc c sb b = false) : ltL sc c sa a = false := by simp [ltL] at *; omega
def lt (d : D) (a b : T) : Bool := ltL (d.J (Int.toNat a)).secs a (d.J (Int.toNat b)).secs b
def F (d : D) : Value := .func (.func 25) #[.slice d.ao d.m d.c] #[]
theorem lt_ord (d : D) : Ord (lt d) := by
  exact ⟨fun {a b} h => ltL_as h, fun {a b c} h1 h2 => ltL_tr h1 h2⟩
def Good (d : D) (w : World) : Prop := Sl w 3 d.ao d.m d.c (jf d.J) ∧ ∀ a, d.ao = some a → a.block < d.g
def gb (d : D) : Nat := d.g
theorem Good.below {d : D} {w w' : World} (h : Good d w) (hb : Below w.heap.size w w') : Good d w' := ⟨h.1.below hb, h.2⟩
theorem Good.off {X : Nat → Prop} {d : D} {w w' : World} (h : Good d w) (ho : Off X w w') (hX : ∀ b, b < gb d → ¬ X b) : Good d w' := ⟨h.1.off ho (fun a ha => hX _ (h.2 a ha)), h.2⟩
def dom (d : D) (x : T) : Prop := 0 ≤ x ∧ x < d.m
def fn (d : D) : Nat := 25
set_option maxHeartbeats 1000000 in
theorem less (d : D) (x y : T) (w : World) (hg : Good d w) (dx : dom d x) (dy : dom d y) : Calls Try.prog (fn d) #[.slice d.ao d.m d.c, vv x, vv y] w fun e w' => e = .returned (.bool (lt d x y)) ∧ Below w.heap.size w w' := by
  obtain ⟨ao, m, c, J, g0⟩ := d
  obtain ⟨h1, h2⟩ := hg
  obtain ⟨dx0, dx1⟩ := dx
  obtain ⟨dy0, dy1⟩ := dy
  dsimp only at h1 h2 dx1 dy1
  obtain ⟨a, rfl⟩ : ∃ a : Nat, x = (a : Int) := ⟨Int.toNat x, (Int.toNat_of_nonneg dx0).symm⟩
  obtain ⟨b, rfl⟩ : ∃ b : Nat, y = (b : Int) := ⟨Int.toNat y, (Int.toNat_of_nonneg dy0).symm⟩
  have dx1 : (a : Int) < (m : Int) := dx1
  have dy1 : (b : Int) < (m : Int) := dy1
  have hmc := h1.hm
  have hcc := h1.hc
  obtain ⟨g, o, rfl, hgg, ea⟩ := h1.job' (show a < m by omega)
  obtain ⟨_, _, e', _, eb⟩ := h1.job' (show b < m by omega)
  cases e'
  have zg := szs hgg
  have hl : lt ⟨some ⟨g, o, none⟩, m, c, J, g0⟩ (a : Int) (b : Int) = (decide ((J b).secs < (J a).secs) || (decide ((J a).secs = (J b).secs) && decide ((a : Int) < (b : Int)))) := rfl
  have HLT := Lib.hid hl
  unfold vv fn
  clear hl h1 h2 hgg
  obtain ⟨sa, hsa⟩ : ∃ sa, sa = (J a).secs := ⟨_, rfl⟩
  obtain ⟨sb, hsb⟩ : ∃ sb, sb = (J b).secs := ⟨_, rfl⟩
  rw [← hsa] at ea
  rw [← hsb] at eb
  rw [← hsa, ← hsb] at HLT
  clear hsa hsb
  by_cases h1 : sb < sa
  · have d1 : decide (sb < sa) = true := decide_eq_true h1
    have HR : Hid (lt ⟨some ⟨g, o, none⟩, m, c, J, g0⟩ (a : Int) (b : Int) = true) := Lib.hid (by rw [HLT.out]; simp [h1])
    clear HLT h1
    go_enter Try.func25, Try.ntmps25
    go_wp2_with fail
    (refine region_all (fun i : Nat => World.drewN _ i) mixed (by kernel_rfl) ⟨1, rfl⟩ ?_; (repeat (any_goals (first | go_big_quiet_step (fail) | quiet_step (fail) | (refine wpQuiet_step (fun K hK => ?_); go_simp; split <;> (refine hK _ ?_; clear hK K))))); (all_goals (refine wpQuiet_nil (fun nq => ?_))))
    go_wp2_with fail
    go_returns
    exact ⟨by rw [HR.out]; rfl, by (repeat' (first | (with_reducible exact Below.refl _ _) | (with_reducible assumption) | (with_reducible refine Below.drew ?_) | (with_reducible refine below_drewN ?_ _) | (with_reducible refine Below.alloc ?_ ?_ _) | (with_reducible refine Below.setCell ?_ ?_ _) | go_size))⟩
  · have d1 : decide (sb < sa) = false := decide_eq_false h1
    by_cases h2 : sa = sb
    · have d2 : (sa == sb) = true := by simp [h2]
      have HR : Hid (lt ⟨some ⟨g, o, none⟩, m, c, J, g0⟩ (a : Int) (b : Int) = decide ((a : Int) < (b : Int))) := Lib.hid (by rw [HLT.out]; simp [h2])
      clear HLT h1 h2
      by_cases h3 : a < b
      · have d3 : decide ((a : Int) < (b : Int)) = true := decide_eq_true (by omega)
        have d4 : decide (a < b) = true := decide_eq_true h3
        rw [d3] at HR
        clear h3
        go_enter Try.func25, Try.ntmps25
        go_wp2_with fail
        (refine region_all (fun i : Nat => World.drewN _ i) mixed (by kernel_rfl) ⟨1, rfl⟩ ?_; (repeat (any_goals (first | go_big_quiet_step (fail) | quiet_step (fail) | (refine wpQuiet_step (fun K hK => ?_); go_simp; split <;> (refine hK _ ?_; clear hK K))))); (all_goals (refine wpQuiet_nil (fun nq => ?_))))
        go_wp2_with fail
        go_returns
        exact ⟨by rw [HR.out]; rfl, by (repeat' (first | (with_reducible exact Below.refl _ _) | (with_reducible assumption) | (with_reducible refine Below.drew ?_) | (with_reducible refine below_drewN ?_ _) | (with_reducible refine Below.alloc ?_ ?_ _) | (with_reducible refine Below.setCell ?_ ?_ _) | go_size))⟩
      · have d3 : decide ((a : Int) < (b : Int)) = false := decide_eq_false (by omega)
        have d4 : decide (a < b) = false := decide_eq_false h3
        rw [d3] at HR
        clear h3
        go_enter Try.func25, Try.ntmps25
        go_wp2_with fail
        (refine region_all (fun i : Nat => World.drewN _ i) mixed (by kernel_rfl) ⟨1, rfl⟩ ?_; (repeat (any_goals (first | go_big_quiet_step (fail) | quiet_step (fail) | (refine wpQuiet_step (fun K hK => ?_); go_simp; split <;> (refine hK _ ?_; clear hK K))))); (all_goals (refine wpQuiet_nil (fun nq => ?_))))
        go_wp2_with fail
        go_returns
        exact ⟨by rw [HR.out]; rfl, by (repeat' (first | (with_reducible exact Below.refl _ _) | (with_reducible assumption) | (with_reducible refine Below.drew ?_) | (with_reducible refine below_drewN ?_ _) | (with_reducible refine Below.alloc ?_ ?_ _) | (with_reducible refine Below.setCell ?_ ?_ _) | go_size))⟩
    · have d2 : (sa == sb) = false := by simp [h2]
      have HR : Hid (lt ⟨some ⟨g, o, none⟩, m, c, J, g0⟩ (a : Int) (b : Int) = false) := Lib.hid (by rw [HLT.out]; simp [h1, h2])
      clear HLT h1 h2
      go_enter Try.func25, Try.ntmps25
      go_wp2_with fail
      (refine region_all (fun i : Nat => World.drewN _ i) mixed (by kernel_rfl) ⟨1, rfl⟩ ?_; (repeat (any_goals (first | go_big_quiet_step (fail) | quiet_step (fail) | (refine wpQuiet_step (fun K hK => ?_); go_simp; split <;> (refine hK _ ?_; clear hK K))))); (all_goals (refine wpQuiet_nil (fun nq => ?_))))
      go_wp2_with fail
      go_returns
      exact ⟨by rw [HR.out]; rfl, by (repeat' (first | (with_reducible exact Below.refl _ _) | (with_reducible assumption) | (with_reducible refine Below.drew ?_) | (with_reducible refine below_drewN ?_ _) | (with_reducible refine Below.alloc ?_ ?_ _) | (with_reducible refine Below.setCell ?_ ?_ _) | go_size))⟩
end QJ
end Go.Proofs.Ytanpefjbmpohdaa
