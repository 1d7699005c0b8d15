/- A drawn region in which rows are made by 'append' to empty literal slices that the region has laid. Plain theorems over any program. -/
import Derived.Test.YtlnfhlmgnppcbaaGreatZBA
import Derived.Test.YtlnfhlmgnppcbaaGreatZBB
namespace Go.Proofs.YtlnfhlmgnppcbaaGreat
open Go.RowKit
set_option linter.unusedVariables false
section
variable {P : Program}
theorem row_empty {w : World} {base b0 : Nat} {e : TypeId} {sz : Nat} {f : Nat → List Value} (hb : base ≤ b0) (h : w.heap[b0]? = some (.cells #[] e (0, 0))) : Row w base e sz (.slice (some ⟨b0, 0, none⟩) 0 0) 0 f :=
  ⟨by simp [flat], .inr ⟨b0, 0, #[], rfl, hb, h, Nat.le_refl _, Nat.zero_le _, by simp, by simp [flat]⟩⟩
theorem wpList_append_new {ops : Array Oper} {rest : List Oper} {o : Oper} {a : Act} {Q : Exit → Act → World → Prop} (w : World) (hgd : o.guard = none) (x1 x2 : Operand) (t : TypeId) (ho : o.op = .call { callee := .builtin .append, args := #[x1, x2], argTypes := #[t, t] })
    (base : Nat) (e : TypeId) (i : TypeInfo) (z : Value) (size bytes : Nat) (ht : P.underlying t = some (.slice e)) (hi : P.info? e = some i) (hz : i.zero = some z)
    (hsize : i.size = size) (hby : i.bytes = bytes) (hzs : z.cells.size = size) (hsz : 0 < size)
    (b0 : Nat) (hs : a.eval x1 = .slice (some ⟨b0, 0, none⟩) 0 0) (hb0 : base ≤ b0) (h0 : w.heap[b0]? = some (.cells #[] e (0, 0)))
    (ao : Option Addr) (m c : Nat) (f : Nat → List Value) (hx : a.eval x2 = .slice ao m c) (hf : ∀ i, (f i).length = size) (hnone : ao = none → m = 0 ∧ c = 0) (hsl : SlE w size ao m f) (h1 : ∀ i, ∀ u ∈ f i, u.oneCell' = true)
    (hbytes : m * bytes ≤ 140737488355328) (h63 : m ≤ maxLen) (hbase : base ≤ w.heap.size)
    (h : ∀ v' w', Row w' base e size v' m f → Below w.heap.size w w' → wpList P ops Q rest (a.put o.dst v') w') : wpList P ops Q (o :: rest) a w := by
  by_cases hm : m = 0
  · subst hm
    refine wpList_plain hgd fun K hK' => ?_
    have hrun : (Builtin.append_ #[t, t] o.type #[.slice (some ⟨b0, 0, none⟩) 0 0, .slice ao 0 c]).run P w = .ok (.slice (some ⟨b0, 0, none⟩) 0 0) w := by
      cases ao with
      | none =>
        obtain ⟨_, rfl⟩ := hnone rfl
        simp [Builtin.append_, run_underlying ht, sizeOf, typeInfo, hi, storeCells, Builtin.lenOf, Builtin.firstCells]
      | some ad => simp [Builtin.append_, run_underlying ht, sizeOf, typeInfo, hi, storeCells, Builtin.lenOf, Builtin.firstCells, loadCells, loadCellsFrom]
    unfold Oper.wp
    simp [execOp, ho, resolve, invoke, builtin, hs, hx, hrun, Result.andThen]
    exact hK' _ _ (h _ _ (row_empty hb0 h0) (Below.refl _ _))
  · obtain ⟨g, o2, rfl, hcells⟩ := hsl.all (by omega)
    have hget : ∀ j u, (flat f m)[j]? = some u → w.cell? ((⟨g, o2, none⟩ : Addr).add j) = some u := fun j u hu => by
      obtain ⟨k1, k2, k3⟩ := flat_at hf hu
      have := hcells _ k1 _ k2
      rw [k3] at this
      rw [add_flat, show o2 + j = o2 + j / size * size + j % size by have := Nat.div_add_mod j size; rw [Nat.mul_comm] at this; omega]
      exact this
    refine wpList_append_grows w hgd x1 x2 t ho e i z size bytes ht hi hz hsize hby hzs hsz (some ⟨b0, 0, none⟩) 0 0 [] hs (fun h => nomatch h) (by simp) (fun b hb j u hu => by simp at hu) ⟨g, o2, none⟩ m c (flat f m) hx (flat_len hf m) hget (fun u hu => by
      obtain ⟨j, hj⟩ := List.getElem?_of_mem hu
      exact h1 _ u (List.mem_of_getElem? (flat_at hf hj).2.2)) (by omega) (by omega) (by rw [Nat.zero_add]; exact hbytes) ?_
    intro v' w' k1 k2
    have r : Row w' w.heap.size e size v' m f := by
      have k1 : w'.ownsRow w.heap.size e size v' (0 + m) (flat f m) := k1
      rw [Nat.zero_add] at k1; exact k1
    exact h v' w' (Row.base_mono r hbase) ((Off.of_grown k2).toBelow (Nat.le_refl _) (fun q hq hh => by simp at hh))
variable {ops : Array Oper} {w0 : World} {Good : List Value → World → Prop} {Shape : List Value → Prop} {mains : List Nat} {al : List (Nat × (Nat → Value) × Obj)} {uses : Nat → List Nat}
theorem vPlan_append_new {i : Nat} {o : Oper} {a : Act} {Us : List (Nat × Nat × Obj)} {s : List Value} {x1 x2 : Operand} {ty : TypeId} {t : Tmp} (ho : o.op = .call { callee := .builtin .append, args := #[x1, x2], argTypes := #[ty, ty] })
    (hgd : o.guard = none) (hd : o.dst = some t) (htt : t < a.tmps.size) (hw : Region.wanted o (yielded ops a.tmps) = true)
    (e : TypeId) (ti : TypeInfo) (z : Value) (size bytes : Nat) (ht : P.underlying ty = some (.slice e)) (hi : P.info? e = some ti) (hz : ti.zero = some z)
    (hsize : ti.size = size) (hby : ti.bytes = bytes) (hzs : z.cells.size = size) (hsz : 0 < size)
    (k0 b0 : Nat) (hs : a.eval x1 = .slice (some ⟨b0, 0, none⟩) 0 0) (hU : (k0, b0, Obj.cells #[] e) ∈ Us)
    (ao : Option Addr) (m c : Nat) (f : Nat → List Value) (hx : a.eval x2 = .slice ao m c) (hf : ∀ i, (f i).length = size) (hnone : ao = none → m = 0 ∧ c = 0) (h1 : ∀ i, ∀ u ∈ f i, u.oneCell' = true)
    (hsl : ∀ w, Below w0.heap.size w0 w → Good s w → SlE w size ao m f) (hbytes : m * bytes ≤ 140737488355328) (h63 : m ≤ maxLen)
    (hG : ∀ v w w', Good s w → Below w.heap.size w w' → Row w' w0.heap.size e size v m f → Good (v :: s) w') (hS : ∀ a' c', Shape (.slice a' m c' :: s)) :
    StepO P (vPlan w0 Good Shape mains al uses) i o a s Us := fun w hk hUs => by
  refine stepO_append ho hd htt hw ?_
  have hu := hUs _ hU
  refine wpList_append_new w hgd x1 x2 ty ho w0.heap.size e ti z size bytes ht hi hz hsize hby hzs hsz b0 hs hu.2.2 hu.1 ao m c f hx hf hnone (hsl w hk.1 hk.2) h1 hbytes h63 hk.1.size ?_
  intro v' w' hr hb
  refine ⟨rfl, v', by simp [Act.put, hd, htt], v' :: s, ⟨⟨v', rfl⟩, ?_⟩, .inr rfl, ⟨hk.1.trans (hb.mono hk.1.size), hG v' w w' hk.2 hb hr⟩, hb.size, fun b hb' => hb'.elim, fun b _ hlt _ => hb.block b hlt⟩
  rcases hr.shape with ⟨rfl, h0⟩ | ⟨g, cap, rfl, _⟩
  · subst h0; exact hS none 0
  · exact hS _ cap
variable {r : List (Nat × Oper)} {Bs : List (Nat × Nat × Obj)} {Fin : Act → List Value → List (Nat × Nat × Obj) → Prop}
theorem wpChainO_append_new {i : Nat} {o : Oper} {a : Act} {s : List Value} {x1 x2 : Operand} {ty : TypeId} {t : Tmp} (hk : (vPlan w0 Good Shape mains al uses).kind i = 2) (hw : Region.wanted o (yielded ops a.tmps) = true)
    (ho : o.op = .call { callee := .builtin .append, args := #[x1, x2], argTypes := #[ty, ty] }) (hgd : o.guard = none) (hd : o.dst = some t) (htt : t < a.tmps.size)
    (e : TypeId) (ti : TypeInfo) (z : Value) (size bytes : Nat) (ht : P.underlying ty = some (.slice e)) (hi : P.info? e = some ti) (hz : ti.zero = some z)
    (hsize : ti.size = size) (hby : ti.bytes = bytes) (hzs : z.cells.size = size) (hsz : 0 < size)
    (k0 b0 : Nat) (hs : a.eval x1 = .slice (some ⟨b0, 0, none⟩) 0 0) (hU : (k0, b0, Obj.cells #[] e) ∈ usedBy (vPlan w0 Good Shape mains al uses) i Bs)
    (ao : Option Addr) (m c : Nat) (f : Nat → List Value) (hx : a.eval x2 = .slice ao m c) (hf : ∀ i, (f i).length = size) (hnone : ao = none → m = 0 ∧ c = 0) (h1 : ∀ i, ∀ u ∈ f i, u.oneCell' = true)
    (hsl : ∀ w, Below w0.heap.size w0 w → Good s w → SlE w size ao m f) (hbytes : m * bytes ≤ 140737488355328) (h63 : m ≤ maxLen)
    (hG : ∀ v w w', Good s w → Below w.heap.size w w' → Row w' w0.heap.size e size v m f → Good (v :: s) w') (hS : ∀ a' c', Shape (.slice a' m c' :: s))
    (h : ∀ v, Shape (v :: s) → wpChainO P ops (vPlan w0 Good Shape mains al uses) Fin r (a.put o.dst v) (v :: s) Bs) : wpChainO P ops (vPlan w0 Good Shape mains al uses) Fin ((i, o) :: r) a s Bs := by
  refine wpChainO_main hk hw (vPlan_append_new ho hgd hd htt hw e ti z size bytes ht hi hz hsize hby hzs hsz k0 b0 hs hU ao m c f hx hf hnone h1 hsl hbytes h63 hG hS) (fun s' hs' => ?_)
  obtain ⟨⟨v, rfl⟩, hsh⟩ := hs'
  exact h v hsh
end
end Go.Proofs.YtlnfhlmgnppcbaaGreat
