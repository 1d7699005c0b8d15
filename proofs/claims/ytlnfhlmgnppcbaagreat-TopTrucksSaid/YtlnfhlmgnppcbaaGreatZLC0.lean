/- Levels in a row that the call owns: appended, changed; what is left of the levels. -/
import Derived.Test.YtlnfhlmgnppcbaaGreatZLVP
import Derived.Test.YtlnfhlmgnppcbaaGreatZCMZ
namespace Go.Proofs.YtlnfhlmgnppcbaaGreat
open Go.RowKit Go.ChangeShapes Go.WideShapes Go.Deep
set_option linter.unusedVariables false
set_option linter.unusedSimpArgs false
theorem infoLv2 : (Tryz.prog.info? 46).map (fun i => (i.zero, i.size, i.bytes)) = some (some (.agg #[.int .i64 0, .int .i64 0]), 2, 16) := by kernel_rfl
def LvR (w : World) (base : Nat) (v : Value) (n : Nat) (F : Nat → Int × Int) : Prop := Row w base 46 2 v n (lvf F)
theorem LvR.at {w : World} {base b n c : Nat} {F : Nat → Int × Int} (h : LvR w base (.slice (some ⟨b, 0, none⟩) n c) n F) {i : Nat} (hi : i < n) : w.cell? ⟨b, i * 2, none⟩ = some (.int .i64 (F i).1) ∧ w.cell? ⟨b, i * 2 + 1, none⟩ = some (.int .i64 (F i).2) :=
  ⟨Row.cell h (lvf_len F) hi (j := 0) (by decide), Row.cell h (lvf_len F) hi (j := 1) (by decide)⟩
theorem LvR.at2 {w : World} {base b n c : Nat} {F : Nat → Int × Int} (h : LvR w base (.slice (some ⟨b, 0, none⟩) n c) n F) {k i : Nat} (hi : k + i < n) : w.cell? ⟨b, k * 2 + i * 2, none⟩ = some (.int .i64 (F (k + i)).1) ∧ w.cell? ⟨b, k * 2 + i * 2 + 1, none⟩ = some (.int .i64 (F (k + i)).2) := by
  rw [← Nat.add_mul]; exact h.at hi
theorem LvR.put {w : World} {base b n c : Nat} {F : Nat → Int × Int} (h : LvR w base (.slice (some ⟨b, 0, none⟩) n c) n F) {i : Nat} (hi : i < n) (x : Int × Int) : LvR (putCells w b (i * 2) [.int .i64 x.1, .int .i64 x.2]) base (.slice (some ⟨b, 0, none⟩) n c) n (upd F i x) :=
  Row.congr (Row.put h (lvf_len F) hi [.int .i64 x.1, .int .i64 x.2] rfl) fun j _ => by
    by_cases hj : j = i
    · subst hj; rw [upd_same]; unfold lvf; rw [upd_same]
    · rw [upd_ne hj]; unfold lvf; rw [upd_ne hj]
theorem dd_step (F : Nat → Int × Int) {k : Nat} (hk : 0 < k) : ddL (ents F (k + 1)) = if (F k).2 = (F (k - 1)).2 then ddL (ents F k) else ddL (ents F k) ++ [F k] := by
  obtain ⟨j, rfl⟩ : ∃ j, k = j + 1 := ⟨k - 1, by omega⟩
  rw [ents_succ F (j + 1), ddL_snoc]
  have h := ddL_last (ents F j) (F j)
  rw [← ents_succ] at h
  unfold ddS
  rw [Nat.add_sub_cancel]
  by_cases e : (F (j + 1)).2 = (F j).2
  · rw [if_pos e, if_pos ⟨h.1, h.2.trans e.symm⟩]
  · rw [if_neg e, if_neg (fun hh => e (hh.2.symm.trans h.2))]
theorem dd_few (F : Nat → Int × Int) {n : Nat} (h : n < 2) : ddL (ents F n) = ents F n := by
  rcases n with _ | _ | n
  · rfl
  · rfl
  · omega
theorem wpList_append_LvR {ops : Array Oper} {rest : List Oper} {o : Oper} {a : Act} {Q : Exit → Act → World → Prop} (w : World) (hgd : o.guard = none) (x1 x2 : Operand) (ho : o.op = .call { callee := .builtin .append, args := #[x1, x2], argTypes := #[42, 42] })
    (base : Nat) (v : Value) (n : Nat) (F : Nat → Int × Int) (hs : a.eval x1 = v) (h1 : LvR w base v n F) (b1 : Nat) (x y : Int) (hx : a.eval x2 = .slice (some ⟨b1, 0, none⟩) 1 1) (ob : TypeId) (fz : Nat × Nat) (hb1 : w.heap[b1]? = some (.cells #[.int .i64 x, .int .i64 y] ob fz)) (hn : n ≤ 1000000) (hb : base ≤ w.heap.size)
    (h : ∀ g cap w', n + 1 ≤ cap → cap ≤ 9223372036854775807 → g < w'.heap.size → (v.ownBlock = some g ∨ w.heap.size ≤ g) → LvR w' base (.slice (some ⟨g, 0, none⟩) (n + 1) cap) (n + 1) (upd F n (x, y)) → Off (fun i => v.ownBlock = some i) w w' → wpList Tryz.prog ops Q rest (a.put o.dst (.slice (some ⟨g, 0, none⟩) (n + 1) cap)) w') : wpList Tryz.prog ops Q (o :: rest) a w := by
  obtain ⟨i0, hi, hz0, hz1, hz2⟩ := info_parts infoLv2
  refine wpList_append_row w hgd x1 x2 42 ho base 46 i0 _ 2 16 Tryz.underlying42 hi hz0 hz1 hz2 rfl (by decide) v n _ hs h1 (lvf_len F) b1 1 [.int .i64 x, .int .i64 y] hx rfl ob fz hb1 (fun u hu => by
    simp only [List.mem_cons, List.not_mem_nil, or_false] at hu
    rcases hu with rfl | rfl <;> rfl) (by omega) (by unfold maxLen; omega) hb ?_
  intro g cap w' k1 k2 k3 k4 k5 r b
  refine h g cap w' k1 k2 k4 k5 (Row.congr r (fun i hi => ?_)) ((Off.of_grown b).mono (fun i _ hh => by first | exact hh | exact hh.symm))
  unfold lvf upd
  split <;> rfl
theorem LvR.set {w : World} {base b n c : Nat} {F : Nat → Int × Int} (h : LvR w base (.slice (some ⟨b, 0, none⟩) n c) n F) {i : Nat} (hi : i < n) (y : Int) : LvR (w.setCell ⟨b, i * 2 + 1, none⟩ (.int .i64 y)) base (.slice (some ⟨b, 0, none⟩) n c) n (upd F i ((F i).1, y)) := by
  refine Row.congr (Row.store h (lvf_len F) hi (j := 1) (by decide) (.int .i64 y)) (fun j _ => ?_)
  by_cases e : j = i
  · subst e; rw [upd_same]; unfold lvf; rw [upd_same]; rfl
  · rw [upd_ne e]; unfold lvf; rw [upd_ne e]
theorem rawL_snoc (n : Nat) (truck : Int) : ∀ (l : List Ev) (s : CSt) (out : List (Int × Int)) (x : Ev), rawL n truck s (l ++ [x]) out = rawS (rawL n truck s l out) x.at' (cntN ((l ++ [x]).foldl applyK s).F 4 truck n)
  | [], s, out, x => rfl
  | e :: l, s, out, x => rawL_snoc n truck l (applyK s e) (rawS out e.at' (cntN (applyK s e).F 4 truck n)) x
theorem ents_last {F : Nat → Int × Int} {n : Nat} (h : 0 < n) : (ents F n).getD ((ents F n).length - 1) (0, 0) = F (n - 1) := by
  rw [ents_len, List.getD, ents_get (by omega)]; rfl
theorem rawS_set {F : Nat → Int × Int} {n : Nat} (h : 0 < n) {a c : Int} (e : (F (n - 1)).1 = a) : rawS (ents F n) a c = ents (upd F (n - 1) ((F (n - 1)).1, c)) n := by
  unfold rawS setLast
  rw [ents_last h, if_pos e, ents_upd, ents_len]
theorem rawS_push {F : Nat → Int × Int} {n : Nat} (h : 0 < n) {a c : Int} (e : (F (n - 1)).1 ≠ a) : rawS (ents F n) a c = ents (upd F n (a, c)) (n + 1) := by
  unfold rawS
  rw [ents_last h, if_neg e, ents_push]
end Go.Proofs.YtlnfhlmgnppcbaaGreat
