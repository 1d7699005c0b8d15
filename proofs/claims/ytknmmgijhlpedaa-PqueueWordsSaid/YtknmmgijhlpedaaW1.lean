/- A slice of strings opened; slices of strings that the call owns; where a string stands among those that left. -/
import Derived.Test.YtknmmgijhlpedaaS6
import Derived.Test.YtknmmgijhlpedaaH5
import Derived.Test.YtknmmgijhlpedaaT1
import Derived.SliceStrings
namespace Go.Proofs.Ytknmmgijhlpedaa
open Go.RowKit Go.ChangeShapes Go.WideShapes Go.Deep
set_option linter.unusedVariables false
set_option linter.unusedSimpArgs false
namespace QS
def wf (S : Nat → T) : Nat → List Value := fun i => [.string (S i)]
theorem wf_len (S : Nat → T) (i : Nat) : (wf S i).length = 1 := rfl
theorem open_words {H : Type} {enc : TypeId × Value → H} {W : World} {base : Nat} {v : Value} {d : DataW H} {p : List MemPlace} (hv : Value.okWide Try.prog W .any base 49 v) (h : DataW.Trod enc Try.prog W 0 (fun _ => true) true 49 v d p) :
    ∃ (a : Option Addr) (n c : Nat) (S : Nat → T), v = .slice a n c ∧ n ≤ c ∧ c ≤ 9223372036854775807 ∧ SlE W 1 a n (wf S) ∧ ∀ i, i < n → (S i).size ≤ 9223372036854775807 := by
  obtain ⟨a0, len, cap, rfl⟩ := okWide_slice Try.underlying49 hv
  obtain ⟨fuel, hf⟩ := h
  rcases open_strings Try.underlying49 Try.underlying9 (by kernel_rfl) hf with ⟨hcs, hx⟩ | ⟨a, len', cap', ss, hcs, hb, hl, hm, hz, hx, hc, hs⟩
  · simp [Value.cells] at hcs
    obtain ⟨rfl, rfl, rfl⟩ := hcs
    exact ⟨none, 0, 0, fun _ => default, rfl, by omega, by omega, fun i hi => absurd hi (by omega), fun i hi => absurd hi (by omega)⟩
  · simp [Value.cells] at hcs
    obtain ⟨rfl, rfl, rfl⟩ := hcs
    have hzl : len ≤ ss.length := by rw [hz]; split <;> omega
    have key : ∀ i, i < len → a = ⟨a.block, a.off, none⟩ ∧ W.cell? ⟨a.block, a.off + i, none⟩ = some (.string (ss.getD i ByteArray.empty)) := fun i hi => by
      have h0 := hc 0 (by omega)
      have hi' := hc i (by omega)
      have e : a = ⟨a.block, a.off, none⟩ := by
        have : a.add 0 = a := by unfold Addr.add; rfl
        rw [this] at h0
        exact addr_of_cell h0
      refine ⟨e, ?_⟩
      rw [e, add_flat] at hi'
      exact hi'
    refine ⟨some a, len, cap, fun i => ss.getD i ByteArray.empty, rfl, hl, by unfold maxLen at hm; omega, fun i hi => ⟨a.block, a.off, by rw [← (key i hi).1], fun j hj => ?_⟩, fun i hi => ?_⟩
    · obtain rfl : j = 0 := by omega
      rw [Nat.mul_one, Nat.add_zero]
      exact (key i hi).2
    · have h1 := hs (ss.getD i ByteArray.empty) (by simp [List.getD, show i < ss.length by omega])
      unfold maxLen at h1; exact h1
def sf (l : List T) : Nat → List Value := fun i => [.string (l.getD i default)]
theorem sf_len (l : List T) (i : Nat) : (sf l i).length = 1 := rfl
/-- The slice owns these strings. -/
def SL (w : World) (base : Nat) (v : Value) (l : List T) : Prop := Row w base 9 1 v l.length (sf l)
theorem SL.off {X : Nat → Prop} {w w' : World} {base : Nat} {v : Value} {l : List T} (h : SL w base v l) (ho : Off X w w') (hX : ∀ g, v.ownBlock = some g → ¬ X g) : SL w' base v l := Row.off h ho hX
theorem SL.below {w w' : World} {base : Nat} {v : Value} {l : List T} (h : SL w base v l) (hb : Below w.heap.size w w') : SL w' base v l := Row.off (X := fun _ => False) h (Off.of_below hb) (fun _ _ h => h)
theorem SL.nil (w : World) (base : Nat) : SL w base (.slice none 0 0) [] := World.ownsRow_nil _ _ _ _
theorem SL.own {w : World} {base : Nat} {v : Value} {l : List T} (h : SL w base v l) : ∀ g, v.ownBlock = some g → base ≤ g ∧ g < w.heap.size := World.ownsRow.lt h
theorem SL.of_push {w : World} {base : Nat} {v : Value} {l : List T} {x : T} (h : Row w base 9 1 v (l.length + 1) (upd (sf l) l.length [.string x])) : SL w base v (l ++ [x]) := by
  unfold SL
  rw [List.length_append]
  refine Row.congr h fun j hj => ?_
  by_cases e : j = l.length
  · subst e; rw [upd_same]; simp [sf]
  · have hj2 : j < l.length := by simp at hj; omega
    rw [upd_ne e]; simp [sf, List.getD, List.getElem?_append, hj2]
theorem infoS : (Try.prog.info? 9).map (fun i => (i.zero, i.size, i.bytes)) = some (some (.string ⟨#[]⟩), 1, 16) := by kernel_rfl
theorem sf_one (x : T) : ∀ u ∈ [Value.string x], u.oneCell' = true := by
  intro u hu
  simp at hu
  subst hu; rfl
/-- The first n words. -/
def ws (S : Nat → T) (n : Nat) : List T := (List.range n).map S
theorem ws_len (S : Nat → T) (n : Nat) : (ws S n).length = n := by simp [ws]
theorem ws_succ (S : Nat → T) (n : Nat) : ws S (n + 1) = ws S n ++ [S n] := by simp [ws, List.range_succ]
/-- Where the walk over the words of size s is before the i-th. -/
def at_ (S : Nat → T) (n s i : Nat) : Nat := Lv.cnt (fun j => decide ((S j).size < s)) n + Lv.cnt (fun j => decide ((S j).size = s)) i
theorem rank (S : Nat → T) (n : Nat) {i : Nat} (hi : i < n) {s : Nat} (hs : (S i).size = s) : (Lv.leave (lt ()) (ws S n))[at_ S n s i]? = some (S i) := by
  subst hs
  have h := Lv.leave_rank (fun j => (S j).size) n hi
  have e : Lv.leave (lt ()) (ws S n) = (Lv.leave (fun a b => decide ((S a).size < (S b).size)) (List.range n)).map S := Lv.leave_map (lt ()) S n _ (by simp)
  unfold at_
  rw [e, List.getElem?_map, h]; rfl
theorem at_zero (S : Nat → T) (n s : Nat) : at_ S n s 0 = Lv.cnt (fun j => decide ((S j).size < s)) n := rfl
theorem at_yes {S : Nat → T} {n s i : Nat} (h : (S i).size = s) : at_ S n s (i + 1) = at_ S n s i + 1 := by unfold at_; rw [Lv.cnt_yes (by simp [h])]; omega
theorem at_no {S : Nat → T} {n s i : Nat} (h : (S i).size ≠ s) : at_ S n s (i + 1) = at_ S n s i := by unfold at_; rw [Lv.cnt_no (by simp [h])]
theorem at_end (S : Nat → T) (n s : Nat) : at_ S n s n = Lv.cnt (fun j => decide ((S j).size < s) || decide ((S j).size = s)) n := (Lv.cnt_or fun j _ h => by simp at *; omega).symm
theorem at_next {S : Nat → T} {n s t : Nat} (h1 : s < t) (h2 : ∀ j, j < n → s < (S j).size → t ≤ (S j).size) : at_ S n s n = Lv.cnt (fun j => decide ((S j).size < t)) n := by
  rw [at_end]
  refine Lv.cnt_congr fun j hj => ?_
  have := h2 j hj
  rw [Bool.eq_iff_iff]; simp; omega
theorem at_last {S : Nat → T} {n s : Nat} (h : ∀ j, j < n → (S j).size ≤ s) : at_ S n s n = n := by
  rw [at_end]
  exact Lv.cnt_all fun j hj => by have := h j hj; simp; omega
/-- What is known of the words up to the i-th: the least size above s, if there is one. -/
def Next (S : Nat → T) (s i : Nat) (b : Bool) (least : Nat) : Prop :=
  (b = false → ∀ j, j < i → (S j).size ≤ s) ∧ (b = true → s < least ∧ (∃ j, j < i ∧ (S j).size = least) ∧ ∀ j, j < i → s < (S j).size → least ≤ (S j).size)
theorem Next.start (S : Nat → T) (s : Nat) : Next S s 0 false 0 := ⟨(fun _ j h => by omega), (fun h => by cases h)⟩
theorem Next.keep {S : Nat → T} {s i : Nat} {b : Bool} {least : Nat} (h : Next S s i b least) (hs : (S i).size ≤ s ∨ (b = true ∧ least ≤ (S i).size)) : Next S s (i + 1) b least := by
  refine ⟨fun hb j hj => ?_, fun hb => ?_⟩
  · by_cases e : j = i
    · subst e; rcases hs with hs | ⟨hs, _⟩
      · exact hs
      · rw [hb] at hs; cases hs
    · exact h.1 hb j (by omega)
  · obtain ⟨h1, ⟨j, h2, h3⟩, h4⟩ := h.2 hb
    refine ⟨h1, ⟨j, by omega, h3⟩, fun k hk hs2 => ?_⟩
    by_cases e : k = i
    · subst e; omega
    · exact h4 k (by omega) hs2
theorem Next.take {S : Nat → T} {s i : Nat} {b : Bool} {least : Nat} (h : Next S s i b least) (hs : s < (S i).size) (hb : b = true → (S i).size < least) : Next S s (i + 1) true (S i).size := by
  refine ⟨(fun h => by cases h), fun _ => ⟨hs, ⟨i, by omega, rfl⟩, fun j hj hs2 => ?_⟩⟩
  by_cases e : j = i
  · subst e; omega
  · cases b
    · have := h.1 rfl j (by omega); omega
    · have := (h.2 rfl).2.2 j (by omega) hs2; have := hb rfl; omega
end QS
end Go.Proofs.Ytknmmgijhlpedaa
