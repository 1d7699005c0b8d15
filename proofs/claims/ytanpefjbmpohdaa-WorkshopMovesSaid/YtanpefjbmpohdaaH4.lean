/- 'append(out, s...)' to a row that the call owns, s whatever reads as entries: nil, cut, empty or not. Plain theorems over any program. -/
import Derived.Test.YtanpefjbmpohdaaH3
import Derived.Laws.AppendOwnNone
namespace Go.Proofs.Ytanpefjbmpohdaa
open Go.RowKit
/-- The slice reads as these entries. -/
def SlE (w : World) (s : Nat) (ao : Option Addr) (m : Nat) (f : Nat → List Value) : Prop :=
  ∀ i, i < m → ∃ g o, ao = some ⟨g, o, none⟩ ∧ ∀ j, j < s → w.cell? ⟨g, o + i * s + j, none⟩ = (f i)[j]?
theorem SlE.off {X : Nat → Prop} {w w' : World} {s : Nat} {ao : Option Addr} {m : Nat} {f : Nat → List Value} (hf : ∀ i, (f i).length = s) (h : SlE w s ao m f) (ho : Off X w w') (hX : ∀ a, ao = some a → ¬ X a.block) : SlE w' s ao m f := fun i hi => by
  obtain ⟨g, o, e, hc⟩ := h i hi
  refine ⟨g, o, e, fun j hj => ?_⟩
  have hv : (f i)[j]? = some ((f i)[j]'(by rw [hf]; exact hj)) := List.getElem?_eq_getElem _
  have := hc j hj
  rw [hv] at this ⊢
  exact ho.cell this (hX ⟨g, o, none⟩ e)
theorem SlE.below {w w' : World} {s : Nat} {ao : Option Addr} {m : Nat} {f : Nat → List Value} (hf : ∀ i, (f i).length = s) (h : SlE w s ao m f) (hb : Below w.heap.size w w') : SlE w' s ao m f := h.off hf (X := fun _ => False) (Off.of_below hb) (fun _ _ h => h)
theorem SlE.cut {w : World} {s : Nat} {ao : Option Addr} {m : Nat} {f : Nat → List Value} (h : SlE w s ao m f) {k : Nat} (hk : k ≤ m) : SlE w s ao k f := fun i hi => h i (by omega)
theorem SlE.all {w : World} {s : Nat} {ao : Option Addr} {m : Nat} {f : Nat → List Value} (h : SlE w s ao m f) (hm : 0 < m) : ∃ g o, ao = some ⟨g, o, none⟩ ∧ ∀ i, i < m → ∀ j, j < s → w.cell? ⟨g, o + i * s + j, none⟩ = (f i)[j]? := by
  obtain ⟨g, o, rfl, _⟩ := h 0 hm
  refine ⟨g, o, rfl, fun i hi => ?_⟩
  obtain ⟨g', o', e, hc⟩ := h i hi
  cases e; exact hc
theorem Row.sl {w : World} {base : Nat} {e : TypeId} {s n : Nat} {v : Value} {f : Nat → List Value} (h : Row w base e s v n f) (hf : ∀ i, (f i).length = s) : ∃ ao cap, v = .slice ao n cap ∧ n ≤ cap ∧ cap ≤ 9223372036854775807 ∧ SlE w s ao n f ∧ (ao = none → n = 0 ∧ cap = 0) := by
  rcases h.shape with ⟨rfl, rfl⟩ | ⟨g, cap, rfl, hg, hl, hn, hm⟩
  · exact ⟨none, 0, rfl, by omega, by omega, fun i hi => absurd hi (by omega), fun _ => ⟨rfl, rfl⟩⟩
  · refine ⟨_, cap, rfl, hn, by unfold maxLen at hm; omega, fun i hi => ⟨g, 0, rfl, fun j hj => ?_⟩, fun h => by cases h⟩
    rw [Nat.zero_add]; exact Row.cell h hf hi hj
def cat (f : Nat → List Value) (n : Nat) (f2 : Nat → List Value) : Nat → List Value := fun i => if i < n then f i else f2 (i - n)
theorem flat_cat (f : Nat → List Value) (n : Nat) (f2 : Nat → List Value) : ∀ m, flat (cat f n f2) (n + m) = flat f n ++ flat f2 m
  | 0 => by simp only [Nat.add_zero, flat, List.append_nil]; exact flat_congr fun i hi => by simp [cat, hi]
  | m + 1 => by rw [← Nat.add_assoc, flat_succ, flat_cat f n f2 m, flat_succ, List.append_assoc]; congr 2; unfold cat; rw [if_neg (by omega), Nat.add_sub_cancel_left]
theorem cat_len {f f2 : Nat → List Value} {n s : Nat} (h1 : ∀ i, (f i).length = s) (h2 : ∀ i, (f2 i).length = s) : ∀ i, (cat f n f2 i).length = s := fun i => by unfold cat; split <;> simp [h1, h2]
theorem flat_at {f : Nat → List Value} {s : Nat} (hs : ∀ i, (f i).length = s) {n j : Nat} {u : Value} (h : (flat f n)[j]? = some u) : j / s < n ∧ j % s < s ∧ (f (j / s))[j % s]? = some u := by
  have hj := (List.getElem?_eq_some_iff.1 h).1
  rw [flat_len hs] at hj
  have hs0 : 0 < s := by rcases Nat.eq_zero_or_pos s with h0 | h0; subst h0; simp at hj; exact h0
  have h1 : j / s < n := by rw [Nat.div_lt_iff_lt_mul hs0]; exact hj
  have h2 := Nat.mod_lt j hs0
  refine ⟨h1, h2, ?_⟩
  rw [← flat_get hs h2 h1, Nat.mul_comm, Nat.div_add_mod]; exact h
section
variable {P : Program} {ops : Array Oper} {rest : List Oper} {o : Oper} {a : Act} {Q : Exit → Act → World → Prop}
theorem wpList_append_sl (w : World) (hgd : o.guard = none) (x1 x2 : Operand) (t : TypeId) (ho : o.op = .call { callee := .builtin .append, args := #[x1, x2], argTypes := #[t, t] })
    (base : Nat) (e : TypeId) (i : TypeInfo) (z : Value) (size bytes : Nat) (ht : P.underlying t = some (.slice e)) (hi : P.info? e = some i) (hz : i.zero = some z)
    (hsize : i.size = size) (hby : i.bytes = bytes) (hzs : z.cells.size = size) (hsz : 0 < size)
    (v : Value) (n : Nat) (f : Nat → List Value) (hs : a.eval x1 = v) (hown : Row w base e size v n f) (hf : ∀ i, (f i).length = size)
    (ao : Option Addr) (m c : Nat) (f2 : Nat → List Value) (hx : a.eval x2 = .slice ao m c) (hf2 : ∀ i, (f2 i).length = size) (hnone : ao = none → m = 0 ∧ c = 0) (hsl : SlE w size ao m f2) (h1 : ∀ i, ∀ u ∈ f2 i, u.oneCell' = true)
    (hbytes : (n + m) * bytes ≤ 140737488355328) (h63 : n + m ≤ maxLen) (hbase : base ≤ w.heap.size)
    (h : ∀ v' w', Row w' base e size v' (n + m) (cat f n f2) → w.grownBy w' v.ownBlock → (∀ g, v'.ownBlock = some g → v.ownBlock = some g ∨ w.heap.size ≤ g) → wpList P ops Q rest (a.put o.dst v') w') : wpList P ops Q (o :: rest) a w := by
  have h1' : ∀ u ∈ flat f2 m, u.oneCell' = true := by
    intro u hu
    obtain ⟨j, hj⟩ := List.getElem?_of_mem hu
    exact h1 _ u (List.mem_of_getElem? (flat_at hf2 hj).2.2)
  have fin : ∀ (B : Nat) (v' : Value) (w' : World), base ≤ B → w'.ownsRow B e size v' (n + m) (flat f n ++ flat f2 m) → Row w' base e size v' (n + m) (cat f n f2) := fun B v' w' hB h2 => by
    refine Row.base_mono (B := B) ?_ hB
    unfold Row; rw [flat_cat]; exact h2
  by_cases hm0 : m = 0
  · subst hm0
    cases ao with
    | none =>
      obtain ⟨_, rfl⟩ := hnone rfl
      refine wpList_append_own_none (w := w) hgd x1 x2 t ho base e i size ht hi v n (flat f n) hs hown hx ?_
      refine h v w ?_ (World.grownBy.refl _ _) (fun g hg => .inl hg)
      rw [Nat.add_zero]
      exact Row.congr hown fun i hi => by simp [cat, hi]
    | some ad =>
      rcases hown.shape with ⟨rfl, rfl⟩ | ⟨g, cap, rfl, hg, hgl, hn, hmx⟩
      · refine wpList_append_own w hgd x1 x2 t ho base e i z size bytes ht hi hz hsize hby hzs hsz _ 0 [] hs (World.ownsRow_nil _ _ _ _) ad 0 c [] hx (by simp) (by simp) (by simp) (by omega) (by omega) hbase ?_
        intro v' w' a1 a2 a3
        have := a3.2 ⟨rfl, rfl⟩
        subst this
        refine h _ w' ?_ a2 (fun g hg => by simp [Value.ownBlock] at hg)
        exact fin base _ w' (Nat.le_refl _) (by simpa [flat] using a1)
      · refine wpList_append_fits w hgd x1 x2 t ho base e i size ht hi hsize g n cap _ hs hown ad 0 c [] hx (by simp) (by simp) (by simp) (by omega) ?_
        intro w' a1 a2
        exact h _ w' (fin base _ w' (Nat.le_refl _) (by simpa [flat] using a1)) a2 (fun g hg => .inl hg)
  · obtain ⟨g2, o2, rfl, hc2⟩ := hsl.all (by omega)
    have hcells : ∀ (j : Nat) (u : Value), (flat f2 m)[j]? = some u → w.cell? ((⟨g2, o2, none⟩ : Addr).add j) = some u := fun j u hu => by
      obtain ⟨k1, k2, k3⟩ := flat_at hf2 hu
      have := hc2 (j / size) k1 (j % size) k2
      rw [k3] at this
      rw [add_flat]
      rw [show o2 + j / size * size + j % size = o2 + j by have := Nat.div_add_mod j size; rw [Nat.mul_comm] at this; omega] at this
      exact this
    rcases hown.shape with ⟨rfl, rfl⟩ | ⟨g, cap, rfl, hg, hgl, hn, hmx⟩
    · refine wpList_append_grows w hgd x1 x2 t ho e i z size bytes ht hi hz hsize hby hzs hsz none 0 0 [] hs (fun _ => ⟨rfl, rfl⟩) (by simp) (fun b hb => by cases hb) ⟨g2, o2, none⟩ m c (flat f2 m) hx (flat_len hf2 m) hcells h1' (by omega) h63 hbytes ?_
      intro v' w' a1 a2
      refine h v' w' (fin w.heap.size v' w' hbase (by simpa [flat] using a1)) ⟨a2.os, a2.tape, a2.output, a2.size, fun k hk _ => a2.block k hk (by simp)⟩ (fun g hg => .inr ?_)
      exact (World.ownsRow.lt a1 g hg).1
    · by_cases hc : n + m ≤ cap
      · refine wpList_append_fits w hgd x1 x2 t ho base e i size ht hi hsize g n cap _ hs hown ⟨g2, o2, none⟩ m c (flat f2 m) hx (flat_len hf2 m) hcells h1' hc ?_
        intro w' a1 a2
        exact h _ w' (fin base _ w' (Nat.le_refl _) a1) a2 (fun g hg => .inl hg)
      · refine wpList_append_grows w hgd x1 x2 t ho e i z size bytes ht hi hz hsize hby hzs hsz (some ⟨g, 0, none⟩) n cap (flat f n) hs (fun h => by cases h) (flat_len hf n) (fun b hb j u hu => ?_) ⟨g2, o2, none⟩ m c (flat f2 m) hx (flat_len hf2 m) hcells h1' (by omega) h63 hbytes ?_
        · cases hb
          exact World.ownsRow.cells hown rfl j u hu
        · intro v' w' a1 a2
          refine h v' w' (fin w.heap.size v' w' hbase a1) ⟨a2.os, a2.tape, a2.output, a2.size, fun k hk _ => a2.block k hk (by simp)⟩ (fun g hg => .inr ?_)
          exact (World.ownsRow.lt a1 g hg).1
end
end Go.Proofs.Ytanpefjbmpohdaa
