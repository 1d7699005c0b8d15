/- Values of a queue: items with a key and a tag; the two orders and what the code makes of them. -/
import Derived.Test.YtknmmgijhlpedaaProg
import Derived.Test.YtknmmgijhlpedaaH2
import Derived.BigQuiet
import Derived.WalkLawsBesides
namespace Go.Proofs.Ytknmmgijhlpedaa
open Go.RowKit
theorem mixed : Try.prog.follows .mixedOrders = true := by kernel_rfl
namespace QI
set_option linter.unusedVariables false
set_option linter.unusedSimpArgs false
structure T where
  key : Int
  tag : Int
deriving DecidableEq
instance : Inhabited T := ⟨⟨0, 0⟩⟩
def vv (x : T) : Value := .agg #[.int .i64 x.key, .int .i64 x.tag]
def ec (x : T × Int) : List Value := [.int .i64 x.1.key, .int .i64 x.1.tag, .int .i64 x.2]
abbrev D := Bool
def lt (d : D) (a b : T) : Bool := if d = true then decide (b.key < a.key) else decide (a.key < b.key)
def F (d : D) : Value := .func (.func (if d = true then 15 else 11)) #[] #[]
theorem lt_ord (d : D) : Ord (lt d) := by
  cases d
  · refine ⟨fun {a b} h => ?_, fun {a b c} h1 h2 => ?_⟩
    · simp [lt] at *; omega
    · simp [lt] at *; omega
  · refine ⟨fun {a b} h => ?_, fun {a b c} h1 h2 => ?_⟩
    · simp [lt] at *; omega
    · simp [lt] at *; omega
theorem before30 (x y : T) (d : Bool) (w : World) : Calls Try.prog 30 #[vv x, vv y, .bool d] w fun e w' => e = .returned (.bool (lt d x y)) ∧ Below w.heap.size w w' := by
  obtain ⟨x0, x1⟩ := x
  obtain ⟨y0, y1⟩ := y
  unfold vv
  cases d
  · go_enter Try.func30, Try.ntmps30
    go_wp2
    go_returns
    exact ⟨by simp [lt], by (repeat' (first | (with_reducible exact Below.refl _ _) | (with_reducible assumption) | (with_reducible refine Below.drew ?_) | (with_reducible refine below_drewN ?_ _) | (with_reducible refine Below.alloc ?_ ?_ _) | (with_reducible refine Below.setCell ?_ ?_ _) | go_size))⟩
  · go_enter Try.func30, Try.ntmps30
    go_wp2
    go_returns
    exact ⟨by simp [lt], by (repeat' (first | (with_reducible exact Below.refl _ _) | (with_reducible assumption) | (with_reducible refine Below.drew ?_) | (with_reducible refine below_drewN ?_ _) | (with_reducible refine Below.alloc ?_ ?_ _) | (with_reducible refine Below.setCell ?_ ?_ _) | go_size))⟩
theorem up11 (x y : T) (w : World) : Calls Try.prog 11 #[vv x, vv y] w fun e w' => e = .returned (.bool (lt false x y)) ∧ Below w.heap.size w w' := by
  have C := fun w => before30 x y false w
  generalize lt false x y = r at *
  unfold vv at *
  go_enter Try.func11, Try.ntmps11
  go_wp2_with (go_at_call 30; refine (C _).mono ?_; rintro e w1 ⟨rfl, hb⟩)
  go_returns
  refine ⟨rfl, ?_⟩
  have hb2 := (((Below.refl w.heap.size w).alloc (Nat.le_refl _) _).alloc (by simp) _).trans (hb.mono (by go_size))
  (repeat' (first | (with_reducible exact Below.refl _ _) | (with_reducible assumption) | (with_reducible refine Below.drew ?_) | (with_reducible refine below_drewN ?_ _) | (with_reducible refine Below.alloc ?_ ?_ _) | (with_reducible refine Below.setCell ?_ ?_ _) | go_size))
theorem down15 (x y : T) (w : World) : Calls Try.prog 15 #[vv x, vv y] w fun e w' => e = .returned (.bool (lt true x y)) ∧ Below w.heap.size w w' := by
  have C := fun w => before30 x y true w
  generalize lt true x y = r at *
  unfold vv at *
  go_enter Try.func15, Try.ntmps15
  go_wp2_with (go_at_call 30; refine (C _).mono ?_; rintro e w1 ⟨rfl, hb⟩)
  go_returns
  refine ⟨rfl, ?_⟩
  have hb2 := (((Below.refl w.heap.size w).alloc (Nat.le_refl _) _).alloc (by simp) _).trans (hb.mono (by go_size))
  (repeat' (first | (with_reducible exact Below.refl _ _) | (with_reducible assumption) | (with_reducible refine Below.drew ?_) | (with_reducible refine below_drewN ?_ _) | (with_reducible refine Below.alloc ?_ ?_ _) | (with_reducible refine Below.setCell ?_ ?_ _) | go_size))
def fn (d : D) : Nat := if d = true then 15 else 11
theorem less (d : D) (x y : T) (w : World) : Calls Try.prog (fn d) #[vv x, vv y] w fun e w' => e = .returned (.bool (lt d x y)) ∧ Below w.heap.size w w' := by
  cases d
  · exact up11 x y w
  · exact down15 x y w
end QI
end Go.Proofs.Ytknmmgijhlpedaa
