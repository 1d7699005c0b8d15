/- Reading a journal: one more event behind a row; what opening hands back. -/
import Derived.Test.YtlnfhlmgnppcbaaCR10
import Derived.Test.YtlnfhlmgnppcbaaEC2
import Derived.Test.YtlnfhlmgnppcbaaEVA
namespace Go.Proofs.Ytlnfhlmgnppcbaa
open Go.RowKit Go.ChangeShapes Go.WideShapes Go.Deep
set_option linter.unusedVariables false
set_option linter.unusedSimpArgs false
/-- The call hands back these events, and this number. -/
def EventsE (w : World) (l : List Ev) (x : Int) (e : Ending) (w' : World) : Prop := ∃ (v : Value) (k : Nat) (R : Nat → Ev), e = .returned (.tuple #[v, .int .i64 x]) ∧ ents R k = l ∧ EvRow w' w.heap.size v k R ∧ Below w.heap.size w w'
theorem EvRow.none (w : World) (base : Nat) (R : Nat → Ev) : EvRow w base (.slice none 0 0) 0 R := ⟨rfl, .inl ⟨rfl, rfl⟩⟩
theorem EvRow.congr {w : World} {base : Nat} {v : Value} {n : Nat} {F G : Nat → Ev} (h : EvRow w base v n F) (hf : ∀ i, i < n → F i = G i) : EvRow w base v n G := Row.congr h (fun i hi => by rw [hf i hi])
theorem wpList_append_E {ops : Array Oper} {rest : List Oper} {o : Oper} {a : Act} {Q : Exit → Act → World → Prop} (w : World) (hgd : o.guard = none) (x1 x2 : Operand) (ho : o.op = .call { callee := .builtin .append, args := #[x1, x2], argTypes := #[30, 30] })
    (base : Nat) (v : Value) (n : Nat) (F : Nat → Ev) (hs : a.eval x1 = v) (h1 : EvRow w base v n F) (b1 : Nat) (x : Ev) (hx : a.eval x2 = .slice (some ⟨b1, 0, none⟩) 1 1) (ob : TypeId) (fz : Nat × Nat) (hb1 : w.heap[b1]? = some (.cells (eC x) ob fz)) (hn : n ≤ 1000000) (hb : base ≤ w.heap.size)
    (h : ∀ v' w', EvRow w' base v' (n + 1) (upd F n x) → Below base w w' → wpList Try.prog ops Q rest (a.put o.dst v') w') : wpList Try.prog ops Q (o :: rest) a w := by
  obtain ⟨i0, hi, hz0, hz1, hz2⟩ := info_parts infoEv
  refine wpList_append_app w hgd x1 x2 30 ho base 24 i0 _ 9 72 Try.underlying30 hi hz0 hz1 hz2 rfl (by decide) v n (fun i => evs (F i)) hs (.inl h1) (fun i => evs_len _) b1 1 (evs x) hx rfl ob fz hb1 (evs_one x) (by omega) (by unfold maxLen; omega) hb ?_
  intro g cap w' k1 k2 k3 k4 r b
  refine h _ w' (Row.congr r (fun i _ => ?_)) b
  unfold upd
  split <;> rfl
theorem open_next {L : List Nat} (hb : ∀ x ∈ L, x < 256) {p : Nat} (h : (openE L p).2.2 = 0) : ∃ q : Nat, (openE L p).2.1 = (q : Int) ∧ q ≤ L.length ∧ (∀ x ∈ (openE L p).1, x < 256) ∧ (openE L p).1.length ≤ 65536 := by
  obtain ⟨p', t, e1, e2, e3, e4, e5⟩ := open_form hb h
  obtain rfl : p = p' := by omega
  have hl := congrArg List.length e3
  rw [List.length_drop, List.length_append] at hl
  refine ⟨_, e4, by omega, fun x hx => ?_, e5⟩
  have hm : x ∈ L.drop p := by
    rw [e3]
    unfold sealB
    simp [hx]
  exact hb x (List.mem_of_mem_drop hm)
def lenV : Value → Nat
  | .slice _ n _ => n
  | _ => 0
end Go.Proofs.Ytlnfhlmgnppcbaa
