/- A whole array by value, out of and into a block. Plain theorems over any program. -/
import Derived.Test.YtlnfhlmgnppcbaaBA
import Derived.Deep.MidRow
namespace Go.Proofs.Ytlnfhlmgnppcbaa
open Go.RowKit
set_option linter.unusedVariables false
section
variable {P : Program} {ops : Array Oper} {rest : List Oper} {op : Oper} {a : Act} {w : World} {Q : Exit → Act → World → Prop}
theorem setRow_setAt {w : World} {b : Nat} {c c' : Array Value} {t : TypeId} (h : w.heap[b]? = some (.cells c t (0, 0))) : w.setRow b c' = setAt w b (.cells c' t (0, 0)) := by
  have hlt := (Array.getElem?_eq_some_iff.1 h).1
  have he := (Array.getElem?_eq_some_iff.1 h).2
  unfold World.setRow setAt
  congr 1
  apply Array.ext_getElem?
  intro i
  rw [Array.getElem?_modify]
  by_cases e : b = i
  · subst e
    rw [Array.getElem?_setIfInBounds_self_of_lt hlt, if_pos rfl, h]
    rfl
  · rw [Array.getElem?_setIfInBounds_ne e, if_neg e]
theorem range_at {b : Nat} {c : Array Value} {t : TypeId} {fz : Nat × Nat} (h : w.heap[b]? = some (.cells c t fz)) : w.rangeAt b 0 c.toList := fun j v hv => by
  rw [Nat.zero_add, cell_at h]
  simpa using hv
theorem wpList_load_row (hgd : op.guard = none) (ty : TypeId) (x : Operand) (ho : op.op = .load ty x) (b : Nat) (hx : a.eval x = .pointer (some ⟨b, 0, none⟩)) (c : Array Value) (n : Nat) (e : TypeId) (fz : Nat × Nat) (t : TypeId) (hh : w.heap[b]? = some (.cells c t fz))
    (hu : P.underlying ty = some (.array n e)) (hi : (P.info? ty).map (·.size) = some c.size) (h : wpList P ops Q rest (a.put op.dst (.agg c)) w) : wpList P ops Q (op :: rest) a w :=
  wpList_load_mid hgd ty x ho b 0 hx c.toList _ (range_at hh) hu rfl (by rw [hi]; simp) (by simpa using h)
theorem wpList_store_row (hgd : op.guard = none) (ty : TypeId) (x y : Operand) (ho : op.op = .store ty x y) (b : Nat) (c0 c1 : Array Value) (hx : a.eval x = .pointer (some ⟨b, 0, none⟩)) (hy : a.eval y = .agg c1)
    (hh : w.heap[b]? = some (.cells c0 ty (0, 0))) (hi : (P.info? ty).map (·.size) = some c1.size) (hs : c0.size = c1.size) (h1 : c1.all (·.oneCell') = true)
    (h : wpList P ops Q rest (a.put op.dst undef) (setAt w b (.cells c1 ty (0, 0)))) : wpList P ops Q (op :: rest) a w := by
  rw [← setRow_setAt hh] at h
  refine wpList_plain hgd fun _ hK => ?_
  unfold Oper.wp execOp
  simp only [ho, hx, hy, Instr.storeAt, Instr.sureAddr, Sem.run_bind, Sem.run_pure, Result.andThen_ok, run_storeVar_row w b ty ty c0 c1 hh hi hs h1]
  exact hK _ _ h
end
end Go.Proofs.Ytlnfhlmgnppcbaa
