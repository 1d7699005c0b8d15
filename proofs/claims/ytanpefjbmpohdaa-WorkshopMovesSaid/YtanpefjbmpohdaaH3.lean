/- 'append' of one entry to a row that the call owns, the new address known: the old row's, or a new block's. Plain theorems over any program. -/
import Derived.Test.YtanpefjbmpohdaaH2
import Derived.OwnWalk
import Derived.ArgAppend
namespace Go.Proofs.Ytanpefjbmpohdaa
open Go.RowKit
section
variable {P : Program} {ops : Array Oper} {rest : List Oper} {o : Oper} {a : Act} {Q : Exit → Act → World → Prop}
theorem Row.of_own {w' : World} {base e s n : Nat} {f : Nat → List Value} {v : Value} {cs : List Value} (h : w'.ownsRow base e s v (n + 1) (flat f n ++ cs)) : Row w' base e s v (n + 1) (upd f n cs) := by
  unfold Row; rw [flat_push]; exact h
theorem Row.base_mono {w : World} {B base e s n : Nat} {v : Value} {f : Nat → List Value} (h : Row w B e s v n f) (hb : base ≤ B) : Row w base e s v n f := by
  refine ⟨h.1, ?_⟩
  rcases h.2 with h1 | ⟨g, cap, cur, h1, h2, h3⟩
  · exact .inl h1
  · exact .inr ⟨g, cap, cur, h1, by omega, h3⟩
theorem wpList_append_row (w : World) (hgd : o.guard = none) (x1 x2 : Operand) (t : TypeId) (ho : o.op = .call { callee := .builtin .append, args := #[x1, x2], argTypes := #[t, t] })
    (base : Nat) (e : TypeId) (i : TypeInfo) (z : Value) (size bytes : Nat) (ht : P.underlying t = some (.slice e)) (hi : P.info? e = some i) (hz : i.zero = some z)
    (hsize : i.size = size) (hby : i.bytes = bytes) (hzs : z.cells.size = size) (hsz : 0 < size)
    (v : Value) (n : Nat) (f : Nat → List Value) (hs : a.eval x1 = v) (hown : Row w base e size v n f) (hf : ∀ i, (f i).length = size)
    (b1 : Nat) (c : Nat) (news : List Value) (hx : a.eval x2 = .slice (some ⟨b1, 0, none⟩) 1 c) (hl : news.length = size) (ob : TypeId) (fz : Nat × Nat) (hnews : w.heap[b1]? = some (.cells news.toArray ob fz)) (h1 : ∀ u ∈ news, u.oneCell' = true)
    (hbytes : (n + 1) * bytes ≤ 140737488355328) (h63 : n + 1 ≤ maxLen) (hbase : base ≤ w.heap.size)
    (h : ∀ g cap w', n + 1 ≤ cap → cap ≤ 9223372036854775807 → base ≤ g → g < w'.heap.size → (v.ownBlock = some g ∨ w.heap.size ≤ g) → Row w' base e size (.slice (some ⟨g, 0, none⟩) (n + 1) cap) (n + 1) (upd f n news) →
      w.grownBy w' v.ownBlock → wpList P ops Q rest (a.put o.dst (.slice (some ⟨g, 0, none⟩) (n + 1) cap)) w') : wpList P ops Q (o :: rest) a w := by
  have hcells : ∀ (j : Nat) (u : Value), news[j]? = some u → w.cell? ((⟨b1, 0, none⟩ : Addr).add j) = some u := fun j u hu => by
    rw [add_flat, Nat.zero_add]
    simp only [World.cell?, hnews]
    simpa using hu
  have fin : ∀ (v' : Value) (w' : World), w'.ownsRow w.heap.size e size v' (n + 1) (flat f n ++ news) → w.grownBy w' none → wpList P ops Q rest (a.put o.dst v') w' := fun v' w' h2 h3 => by
    have hr := Row.of_own h2
    rcases hr.shape with ⟨_, h0⟩ | ⟨g, cap, rfl, hg, hl, hn, hm⟩
    · omega
    · refine h g cap w' hn (by unfold maxLen at hm; omega) (by omega) hl (.inr hg) (hr.base_mono hbase) ⟨h3.os, h3.tape, h3.output, h3.size, fun k hk _ => h3.block k hk (by simp)⟩
  rcases hown.shape with ⟨rfl, rfl⟩ | ⟨g, cap, rfl, hg, hgl, hn, hm⟩
  · refine wpList_append_grows w hgd x1 x2 t ho e i z size bytes ht hi hz hsize hby hzs hsz none 0 0 [] hs (fun _ => ⟨rfl, rfl⟩) (by simp) (fun b hb => by cases hb) ⟨b1, 0, none⟩ 1 c news hx (by omega) hcells h1 (by omega) h63 hbytes ?_
    intro v' w' h2 h3
    exact fin v' w' (by simpa [flat] using h2) h3
  · by_cases hc : n + 1 ≤ cap
    · refine wpList_append_fits w hgd x1 x2 t ho base e i size ht hi hsize g n cap _ hs hown ⟨b1, 0, none⟩ 1 c news hx (by omega) hcells h1 hc ?_
      intro w' h2 h3
      refine h g cap w' hc (by unfold maxLen at hm; omega) hg (Nat.lt_of_lt_of_le hgl h3.size) (.inl rfl) (Row.of_own h2) h3
    · refine wpList_append_grows w hgd x1 x2 t ho e i z size bytes ht hi hz hsize hby hzs hsz (some ⟨g, 0, none⟩) n cap (flat f n) hs (fun h => by cases h) (flat_len hf n) (fun b hb j u hu => ?_) ⟨b1, 0, none⟩ 1 c news hx (by omega) hcells h1 (by omega) h63 hbytes fin
      cases hb
      exact World.ownsRow.cells hown rfl j u hu
end
end Go.Proofs.Ytanpefjbmpohdaa
