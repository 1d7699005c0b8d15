/- Worlds that differ in named blocks alone; rows of entries that a call owns. Plain theorems over any program. -/
import Derived.Test.YtanpefjbmpohdaaK
import Derived.Test.YtanpefjbmpohdaaO
import Derived.Test.YtanpefjbmpohdaaH1
import Derived.Laws.OwnMore
namespace Go.Proofs.Ytanpefjbmpohdaa
open Go.RowKit

/-- But for the blocks in X all is as it was; more may have been laid. -/
structure Off (X : Nat → Prop) (w w' : World) : Prop where
  os : w'.os = w.os
  tape : w'.tape = w.tape
  output : w'.output = w.output
  size : w.heap.size ≤ w'.heap.size
  block : ∀ k, k < w.heap.size → ¬ X k → w'.heap[k]? = w.heap[k]?
theorem Off.refl (X : Nat → Prop) (w : World) : Off X w w := ⟨rfl, rfl, rfl, Nat.le_refl _, fun _ _ _ => rfl⟩
theorem Off.trans {X Y : Nat → Prop} {a b c : World} (h : Off X a b) (k : Off Y b c) (hY : ∀ i, i < a.heap.size → Y i → X i) : Off X a c :=
  ⟨k.os.trans h.os, k.tape.trans h.tape, k.output.trans h.output, Nat.le_trans h.size k.size, fun i hi hx => (k.block i (Nat.lt_of_lt_of_le hi h.size) (fun hy => hx (hY i hi hy))).trans (h.block i hi hx)⟩
theorem Off.same {X : Nat → Prop} {a b c : World} (h : Off X a b) (k : Off X b c) : Off X a c := h.trans k (fun _ _ h => h)
theorem Off.mono {X Y : Nat → Prop} {a b : World} (h : Off X a b) (hY : ∀ i, i < a.heap.size → X i → Y i) : Off Y a b := ⟨h.os, h.tape, h.output, h.size, fun i hi hy => h.block i hi (fun hx => hy (hY i hi hx))⟩
theorem Off.of_below {X : Nat → Prop} {a b : World} (h : Below a.heap.size a b) : Off X a b := ⟨h.os, h.tape, h.output, h.size, fun i hi _ => h.block i hi⟩
theorem Off.of_grown {a b : World} {row : Option Nat} (h : a.grownBy b row) : Off (fun k => some k = row) a b := ⟨h.os, h.tape, h.output, h.size, fun i hi hx => h.block i hi hx⟩
theorem Off.toBelow {X : Nat → Prop} {a b : World} {B : Nat} (h : Off X a b) (hB : B ≤ a.heap.size) (hX : ∀ k, k < B → ¬ X k) : Below B a b := ⟨h.os, h.tape, h.output, h.size, fun k hk => h.block k (by omega) (hX k hk)⟩
theorem Off.alloc {X : Nat → Prop} {a b : World} (h : Off X a b) (o : Obj) : Off X a (b.alloc o) := h.trans (Y := fun _ => False) (Off.of_below ((Below.refl _ _).alloc (Nat.le_refl _) o)) (fun _ _ h => h.elim)
theorem Off.drew {X : Nat → Prop} {a b : World} (h : Off X a b) : Off X a b.drew := ⟨h.os, h.tape, h.output, h.size, h.block⟩
theorem Off.setCell {X : Nat → Prop} {a b : World} (h : Off X a b) {p : Addr} (hp : p.block < a.heap.size → X p.block) (u : Value) : Off X a (b.setCell p u) :=
  ⟨h.os, h.tape, h.output, by simp [World.setCell]; exact h.size, fun k hk hx => by
    by_cases e : k = p.block
    · subst e; exact absurd (hp hk) hx
    · rw [Below.heap_setCell _ _ _ _ e]; exact h.block k hk hx⟩
theorem Off.cell {X : Nat → Prop} {a b : World} (h : Off X a b) {p : Addr} {v : Value} (hv : a.cell? p = some v) (hx : ¬ X p.block) : b.cell? p = some v :=
  (World.cell?_of_block (w := a) (h.block p.block (cell_lt hv) hx)).trans hv

section rows
variable {s : Nat} {f : Nat → List Value}
theorem flat_congr {f g : Nat → List Value} : ∀ {n : Nat}, (∀ i, i < n → f i = g i) → flat f n = flat g n
  | 0, _ => rfl
  | n + 1, h => by rw [flat_succ, flat_succ, flat_congr (fun i hi => h i (by omega)), h n (by omega)]
theorem flat_take (hs : ∀ i, (f i).length = s) : ∀ {n m : Nat}, m ≤ n → (flat f n).take (m * s) = flat f m
  | 0, m, h => by obtain rfl : m = 0 := by omega
                  simp [flat]
  | n + 1, m, h => by
    by_cases hm : m = n + 1
    · subst hm; rw [List.take_of_length_le (by rw [flat_len hs]; omega)]
    · rw [flat_succ, List.take_append_of_le_length (by rw [flat_len hs]; exact Nat.mul_le_mul_right s (by omega)), flat_take hs (by omega)]
theorem flat_set (hs : ∀ i, (f i).length = s) {i j : Nat} (hj : j < s) (u : Value) : ∀ {n : Nat}, i < n → (flat f n).set (i * s + j) u = flat (upd f i ((f i).set j u)) n
  | 0, h => absurd h (by omega)
  | n + 1, h => by
    rw [flat_succ, flat_succ]
    by_cases hi : i = n
    · subst hi
      rw [upd_same, flat_congr (f := upd f i ((f i).set j u)) (g := f) (fun k hk => upd_ne (by omega))]
      rw [List.set_append_right _ _ (by rw [flat_len hs]; omega), flat_len hs]
      congr 2; omega
    · have : i * s + j < (flat f n).length := by
        rw [flat_len hs]
        have : (i + 1) * s ≤ n * s := Nat.mul_le_mul_right s (by omega)
        rw [Nat.succ_mul] at this; omega
      rw [List.set_append_left _ _ this, flat_set hs hj u (by omega), upd_ne (by omega)]
theorem flat_push (n : Nat) (x : List Value) : flat (upd f n x) (n + 1) = flat f n ++ x := by
  rw [flat_succ, upd_same, flat_congr (fun i hi => upd_ne (by omega))]

variable {w : World} {base : Nat} {e : TypeId} {n cap g : Nat} {v : Value}
/-- The slice value owns n entries of s cells each. -/
def Row (w : World) (base : Nat) (e : TypeId) (s : Nat) (v : Value) (n : Nat) (f : Nat → List Value) : Prop := w.ownsRow base e s v n (flat f n)
theorem Row.cell (h : Row w base e s (.slice (some ⟨g, 0, none⟩) n cap) n f) (hs : ∀ i, (f i).length = s) {i j : Nat} (hi : i < n) (hj : j < s) : w.cell? ⟨g, i * s + j, none⟩ = (f i)[j]? := by
  have : i * s + j < n * s := by
    have : (i + 1) * s ≤ n * s := Nat.mul_le_mul_right s (by omega)
    rw [Nat.succ_mul] at this; omega
  rw [World.ownsRow.cellAt h _ this, flat_get hs hj hi]
theorem Row.free (h : Row w base e s (.slice (some ⟨g, 0, none⟩) n cap) n f) (j : Nat) : w.frozen? ⟨g, j, none⟩ = false := World.ownsRow.frozenAt h j
theorem Row.congr {f' : Nat → List Value} (h : Row w base e s v n f) (hf : ∀ i, i < n → f i = f' i) : Row w base e s v n f' := by unfold Row at *; rw [← flat_congr hf]; exact h
theorem Row.store (h : Row w base e s (.slice (some ⟨g, 0, none⟩) n cap) n f) (hs : ∀ i, (f i).length = s) {i j : Nat} (hi : i < n) (hj : j < s) (u : Value) :
    Row (w.setCell ⟨g, i * s + j, none⟩ u) base e s (.slice (some ⟨g, 0, none⟩) n cap) n (upd f i ((f i).set j u)) := by
  unfold Row
  rw [← flat_set hs hj u hi]
  exact (World.ownsRow.stored h _ _).1
theorem Row.off {X : Nat → Prop} {w' : World} (h : Row w base e s v n f) (ho : Off X w w') (hX : ∀ g, v.ownBlock = some g → ¬ X g) : Row w' base e s v n f := by
  refine ⟨h.1, ?_⟩
  rcases h.2 with hn | ⟨g, cap, cur, rfl, hb, hgg, rest⟩
  · exact .inl hn
  · exact .inr ⟨g, cap, cur, rfl, hb, by rw [ho.block g (Array.getElem?_eq_some_iff.1 hgg).1 (hX g rfl)]; exact hgg, rest⟩
theorem Row.shape (h : Row w base e s v n f) : (v = .slice none 0 0 ∧ n = 0) ∨ ∃ g cap, v = .slice (some ⟨g, 0, none⟩) n cap ∧ base ≤ g ∧ g < w.heap.size ∧ n ≤ cap ∧ cap ≤ maxLen := by
  rcases h.2 with h1 | ⟨g, cap, cur, rfl, hb, hg, hn, hm, _⟩
  · exact .inl h1
  · exact .inr ⟨g, cap, rfl, hb, (Array.getElem?_eq_some_iff.1 hg).1, hn, hm⟩
theorem Row.shrink (h : Row w base e s (.slice (some ⟨g, 0, none⟩) n cap) n f) (hs : ∀ i, (f i).length = s) {m : Nat} (hm : m ≤ n) : Row w base e s (.slice (some ⟨g, 0, none⟩) m cap) m f := by
  unfold Row World.ownsRow at *
  refine ⟨flat_len hs m, ?_⟩
  rcases h.2 with h1 | ⟨g', cap', cur, he, hb, hg, hn, hc, hsz, ht⟩
  · cases h1.1
  · cases he
    refine .inr ⟨g, cap, cur, rfl, hb, hg, by omega, hc, hsz, ?_⟩
    rw [← flat_take hs hm, ← ht, List.take_take, Nat.min_eq_left (Nat.mul_le_mul_right s hm)]
/-- Cells written one behind the other. -/
def putCells (w : World) (g o : Nat) : List Value → World
  | [] => w
  | c :: r => putCells (w.setCell ⟨g, o, none⟩ c) g (o + 1) r
theorem Row.putAux (hs : ∀ i, (f i).length = s) {i : Nat} (hi : i < n) : ∀ (cs pre tl : List Value) (w : World), tl.length = cs.length → pre.length + cs.length = s →
    Row w base e s (.slice (some ⟨g, 0, none⟩) n cap) n (upd f i (pre ++ tl)) → Row (putCells w g (i * s + pre.length) cs) base e s (.slice (some ⟨g, 0, none⟩) n cap) n (upd f i (pre ++ cs))
  | [], pre, tl, w, ht, _, h => by
    obtain rfl : tl = [] := List.length_eq_zero_iff.1 ht
    exact h
  | c :: cs, pre, tl, w, ht, hp, h => by
    obtain ⟨t, tl', rfl⟩ : ∃ t tl', tl = t :: tl' := by
      cases tl with
      | nil => simp at ht
      | cons t tl' => exact ⟨t, tl', rfl⟩
    simp only [List.length_cons] at ht hp
    have hs' : ∀ j, (upd f i (pre ++ t :: tl') j).length = s := fun j => by
      by_cases hj : j = i
      · subst hj; rw [upd_same]; simp; omega
      · rw [upd_ne hj]; exact hs j
    have h1 := Row.store h hs' hi (show pre.length < s by omega) c
    have h2 : Row (w.setCell ⟨g, i * s + pre.length, none⟩ c) base e s (.slice (some ⟨g, 0, none⟩) n cap) n (upd f i ((pre ++ [c]) ++ tl')) := by
      refine Row.congr h1 fun j _ => ?_
      by_cases hj : j = i
      · subst hj; rw [upd_same, upd_same, upd_same]; simp
      · rw [upd_ne hj, upd_ne hj, upd_ne hj]
    have h3 := Row.putAux hs hi cs (pre ++ [c]) tl' _ (by omega) (by simp; omega) h2
    simp only [List.length_append, List.length_cons, List.length_nil, List.append_assoc, List.cons_append, List.nil_append] at h3
    exact h3
theorem Row.put (h : Row w base e s (.slice (some ⟨g, 0, none⟩) n cap) n f) (hs : ∀ i, (f i).length = s) {i : Nat} (hi : i < n) (cs : List Value) (hc : cs.length = s) :
    Row (putCells w g (i * s) cs) base e s (.slice (some ⟨g, 0, none⟩) n cap) n (upd f i cs) := by
  have := Row.putAux hs hi cs [] (f i) w (by rw [hs, hc]) (by simpa using hc) (Row.congr h fun j _ => by
    by_cases hj : j = i
    · subst hj; rw [upd_same]; rfl
    · rw [upd_ne hj])
  simpa using this
theorem off_putCells {X : Nat → Prop} {a : World} (hX : X g) : ∀ (cs : List Value) (o : Nat) (w : World), Off X a w → Off X a (putCells w g o cs)
  | [], _, _, h => h
  | c :: cs, o, _, h => off_putCells hX cs (o + 1) _ (h.setCell (fun _ => hX) c)
end rows
end Go.Proofs.Ytanpefjbmpohdaa
