/- Road networks as arguments; whether a number is a node; the error of a network. -/
import Derived.Test.YtlnfhlmgnppcbaaR8G2
import Derived.Test.YtlnfhlmgnppcbaaBB
import Derived.Test.YtlnfhlmgnppcbaaBA
namespace Go.Proofs.Ytlnfhlmgnppcbaa
open Go.RowKit Go.ChangeShapes Go.WideShapes Go.Deep
set_option linter.unusedVariables false
set_option linter.unusedSimpArgs false
set_option maxRecDepth 8000
structure Ed where
  frm : Int
  til : Int
  sec : Int
def ef (E : Nat → Ed) : Nat → List Value := fun i => [.int .i64 (E i).frm, .int .i64 (E i).til, .int .i64 (E i).sec]
theorem ef_len (E : Nat → Ed) (i : Nat) : (ef E i).length = 3 := rfl
/-- A slice of edges in memory. -/
structure Net (w : World) (ao : Option Addr) (m c : Nat) (E : Nat → Ed) : Prop where
  hm : m ≤ c
  hc : c ≤ 9223372036854775807
  sl : SlE w 3 ao m (ef E)
theorem Net.below {w w' : World} {ao : Option Addr} {m c : Nat} {E : Nat → Ed} (h : Net w ao m c E) (hb : Below w.heap.size w w') : Net w' ao m c E := ⟨h.hm, h.hc, h.sl.below (ef_len E) hb⟩
theorem Net.off {X : Nat → Prop} {w w' : World} {ao : Option Addr} {m c : Nat} {E : Nat → Ed} (h : Net w ao m c E) (ho : Off X w w') (hX : ∀ a, ao = some a → ¬ X a.block) : Net w' ao m c E := ⟨h.hm, h.hc, h.sl.off (ef_len E) ho hX⟩
/-- The cells of an edge, for the walk. -/
theorem Net.cells {w : World} {ao : Option Addr} {m c : Nat} {E : Nat → Ed} (h : Net w ao m c E) {i : Nat} (hi : i < m) : ∃ g o, ao = some ⟨g, o, none⟩ ∧ g < w.heap.size ∧
    w.cell? ⟨g, o + i * 3, none⟩ = some (.int .i64 (E i).frm) ∧ w.cell? ⟨g, o + i * 3 + 1, none⟩ = some (.int .i64 (E i).til) ∧ w.cell? ⟨g, o + i * 3 + 2, none⟩ = some (.int .i64 (E i).sec) := by
  obtain ⟨g, o, e, hc⟩ := h.sl i hi
  have h0 : w.cell? ⟨g, o + i * 3, none⟩ = some (.int .i64 (E i).frm) := hc 0 (by decide)
  exact ⟨g, o, e, cell_lt h0, h0, hc 1 (by decide), hc 2 (by decide)⟩
def inI64 (n : Int) : Prop := -9223372036854775808 ≤ n ∧ n ≤ 9223372036854775807
theorem open_edges {H : Type} {enc : TypeId × Value → H} {W : World} {fuel : Nat} {cs : List Value} {x : DataW H × List MemPlace} (hf : DataW.trod enc Try.prog W 0 (fun _ => true) true fuel 75 cs = some x) :
    ∃ (a : Option Addr) (m c : Nat) (E : Nat → Ed), cs = [.slice a m c] ∧ Net W a m c E ∧ (∀ i, i < m → inI64 (E i).frm ∧ inI64 (E i).til ∧ inI64 (E i).sec) := by
  rcases open_slice_fields Try.underlying75 Try.underlying113 (by kernel_rfl) (by kernel_rfl) hf with ⟨hcs, hx⟩ | ⟨a, len, cap, m, D, Pl, hcs, hb, hl, hm, hmm, hx, hi⟩
  · exact ⟨none, 0, 0, fun _ => ⟨0, 0, 0⟩, hcs, ⟨by omega, by omega, fun i hi => absurd hi (by omega)⟩, fun i hi => absurd hi (by omega)⟩
  · have hml : len ≤ m := by rw [hmm]; split <;> omega
    have key : ∀ i, ∃ y : Ed, i < len → (W.cell? (a.add (i * 3)) = some (.int .i64 y.frm) ∧ W.cell? (a.add (i * 3 + 1)) = some (.int .i64 y.til) ∧ W.cell? (a.add (i * 3 + 2)) = some (.int .i64 y.sec)) ∧ inI64 y.frm ∧ inI64 y.til ∧ inI64 y.sec := by
      intro i
      by_cases hil : i < len
      · obtain ⟨ys, n, _, _, hlen, hf'⟩ := hi i (by omega)
        obtain ⟨v0, y0, hc0, _, ht0⟩ := hf' 0 _ rfl
        obtain ⟨v1, y1, hc1, _, ht1⟩ := hf' 1 _ rfl
        obtain ⟨v2, y2, hc2, _, ht2⟩ := hf' 2 _ rfl
        obtain ⟨n0, e0, _, w0⟩ := DataW.trod_int Try.underlying3 ht0
        obtain ⟨n1, e1, _, w1⟩ := DataW.trod_int Try.underlying3 ht1
        obtain ⟨n2, e2, _, w2⟩ := DataW.trod_int Try.underlying3 ht2
        simp at e0 e1 e2
        subst e0 e1 e2
        exact ⟨⟨n0, n1, n2⟩, fun _ => ⟨⟨hc0, hc1, hc2⟩, bounds_i64 w0, bounds_i64 w1, bounds_i64 w2⟩⟩
      · exact ⟨⟨0, 0, 0⟩, fun h => absurd h hil⟩
    obtain ⟨L, hL⟩ := Classical.axiomOfChoice key
    refine ⟨some a, len, cap, L, hcs, ⟨hl, by unfold maxLen at hm; omega, fun i hil => ?_⟩, fun i hil => (hL i hil).2⟩
    obtain ⟨⟨h0, h1, h2⟩, _⟩ := hL i hil
    have ha : a = ⟨a.block, a.off, none⟩ := by
      have h00 := (hL 0 (by omega)).1.1
      simp [Addr.add] at h00
      exact addr_of_cell h00
    rw [ha] at h0 h1 h2 ⊢
    rw [add_flat] at h0 h1 h2
    refine ⟨a.block, a.off, rfl, fun j hj => ?_⟩
    rcases (by omega : j = 0 ∨ j = 1 ∨ j = 2) with rfl | rfl | rfl
    · exact h0
    · rw [Nat.add_assoc]; exact h1
    · rw [Nat.add_assoc]; exact h2
theorem open_road {H : Type} {enc : TypeId × Value → H} {W : World} {base : Nat} {v : Value} {d : DataW H} {p : List MemPlace} (hv : Value.okWide Try.prog W .any base 77 v) (h : DataW.Trod enc Try.prog W 0 (fun _ => true) true 77 v d p) :
    ∃ (N : Int) (a : Option Addr) (m c : Nat) (E : Nat → Ed), v = .agg #[.int .i64 N, .slice a m c] ∧ inI64 N ∧ Net W a m c E ∧ (∀ i, i < m → inI64 (E i).frm ∧ inI64 (E i).til ∧ inI64 (E i).sec) := by
  obtain ⟨cs, rfl, hsz⟩ := okWide_struct Try.underlying77 hv
  obtain ⟨fuel, hf⟩ := h
  have hc : Try.prog.cellsOf 77 = 2 := by kernel_rfl
  rw [hc] at hsz
  obtain ⟨y0, y1, n, _, _, h0, h1⟩ := trod_struct2 Try.underlying77 hf
  obtain ⟨c0, c1, rfl⟩ : ∃ c0 c1, cs = #[c0, c1] := by
    obtain ⟨l⟩ := cs
    match l, hsz with
    | [a, b], _ => exact ⟨a, b, rfl⟩
  have e3 : Try.prog.cellsOf 3 = 1 := by kernel_rfl
  have e22 : Try.prog.cellsOf 75 = 1 := by kernel_rfl
  simp [Value.cells, e3, e22] at h0 h1
  obtain ⟨n0, e0, _, w0⟩ := DataW.trod_int Try.underlying3 h0
  obtain ⟨a, m, c, E, e1, hn, hb⟩ := open_edges h1
  simp at e0 e1
  subst e0 e1
  exact ⟨n0, a, m, c, E, rfl, bounds_i64 w0, hn, hb⟩

def nodeB (N v : Int) : Bool := decide (0 ≤ v) && decide (v < N)
theorem node122 (N v : Int) (s : Value) (w : World) (hs : s.oneCell' = true) : Calls Try.prog 122 #[.agg #[.int .i64 N, s], .int .i64 v] w fun e w' => e = .returned (.bool (nodeB N v)) ∧ Below w.heap.size w w' := by
  go_enter Try.func122, Try.ntmps122
  go_wp2
  all_goals go_returns
  all_goals exact ⟨by simp [nodeB, *]; try omega, by (repeat' (first | (with_reducible exact Below.refl _ _) | (with_reducible assumption) | (with_reducible refine Below.drew ?_) | (with_reducible refine below_drewN ?_ _) | (with_reducible refine Below.alloc ?_ ?_ _) | (with_reducible refine Below.setCell ?_ ?_ _) | go_size))⟩
/-- The first that is not 0. -/
def scan (f : Nat → Int) : Nat → Int
  | 0 => 0
  | n + 1 => if scan f n = 0 then f n else scan f n
theorem scan_next {f : Nat → Int} {n : Nat} (h : scan f n = 0) (h2 : f n = 0) : scan f (n + 1) = 0 := by simp [scan, h, h2]
theorem scan_hit {f : Nat → Int} {k : Nat} (h : scan f k = 0) (h2 : f k ≠ 0) : ∀ {n : Nat}, k < n → scan f n = f k
  | 0, hk => by omega
  | n + 1, hk => by
    by_cases e : k = n
    · subst e; simp [scan, h]
    · have := scan_hit h h2 (n := n) (by omega)
      simp [scan, this, h2]
theorem scan_zero {f : Nat → Int} : ∀ {n : Nat}, scan f n = 0 → ∀ i, i < n → f i = 0
  | n + 1, h, i, hi => by
    have h1 : scan f n = 0 := by
      by_cases e : scan f n = 0
      · exact e
      · simp [scan, e] at h
    by_cases e : i = n
    · subst e; simpa [scan, h1] using h
    · exact scan_zero h1 i (by omega)
/-- The error of an edge. -/
def badE (N : Int) (e : Ed) : Int := if nodeB N e.frm = false then 7 else if nodeB N e.til = false then 7 else if e.sec < 1 then 1 else if 1000 < e.sec then 1 else 0
/-- The error of a network. -/
def roadE (N : Int) (m : Nat) (E : Nat → Ed) : Int := if N < 1 then 1 else if 64 < N then 1 else if 512 < m then 8 else scan (fun i => badE N (E i)) m
end Go.Proofs.Ytlnfhlmgnppcbaa
