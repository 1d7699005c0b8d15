/- Values of a queue: strings ordered by their lengths. -/
import Derived.Test.YtknmmgijhlpedaaS
namespace Go.Proofs.Ytknmmgijhlpedaa
open Go.RowKit
namespace QS
set_option linter.unusedVariables false
set_option linter.unusedSimpArgs false
abbrev T := ByteArray
def vv (x : T) : Value := .string x
def ec (x : T × Int) : List Value := [.string x.1, .int .i64 x.2]
abbrev D := Unit
def lt (d : D) (a b : T) : Bool := decide (a.size < b.size)
def F (d : D) : Value := .func (.func 25) #[] #[]
theorem lt_ord (d : D) : Ord (lt d) := by
  refine ⟨fun {a b} h => ?_, fun {a b c} h1 h2 => ?_⟩
  · simp [lt] at *; omega
  · simp [lt] at *; omega
def Good (d : D) (w : World) : Prop := True
def gb (d : D) : Nat := 0
theorem Good.below {d : D} {w w' : World} (h : Good d w) (hb : Below w.heap.size w w') : Good d w' := trivial
theorem Good.off {X : Nat → Prop} {d : D} {w w' : World} (h : Good d w) (ho : Off X w w') (hX : ∀ b, b < gb d → ¬ X b) : Good d w' := trivial
def dom (d : D) (x : T) : Prop := x.size ≤ 9223372036854775807
def fn (d : D) : Nat := 25
theorem less (d : D) (x y : T) (w : World) (hg : Good d w) (dx : dom d x) (dy : dom d y) : Calls Try.prog (fn d) #[vv x, vv y] w fun e w' => e = .returned (.bool (lt d x y)) ∧ Below w.heap.size w w' := by
  unfold dom at dx dy
  unfold vv fn
  go_enter Try.func25, Try.ntmps25
  go_wp2
  go_returns
  exact ⟨by simp [lt], by (repeat' (first | (with_reducible exact Below.refl _ _) | (with_reducible assumption) | (with_reducible refine Below.drew ?_) | (with_reducible refine below_drewN ?_ _) | (with_reducible refine Below.alloc ?_ ?_ _) | (with_reducible refine Below.setCell ?_ ?_ _) | go_size))⟩
end QS
end Go.Proofs.Ytknmmgijhlpedaa
