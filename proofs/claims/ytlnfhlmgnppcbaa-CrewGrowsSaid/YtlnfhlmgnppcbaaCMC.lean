/- Custody: an event that has an effect is noted. -/
import Derived.Test.YtlnfhlmgnppcbaaCMB
namespace Go.Proofs.Ytlnfhlmgnppcbaa
open Go.RowKit Go.ChangeShapes Go.WideShapes Go.Deep Go.Maps
set_option linter.unusedVariables false
set_option linter.unusedSimpArgs false
theorem wpList_append_Eo {ops : Array Oper} {rest : List Oper} {o : Oper} {a : Act} {Q : Exit → Act → World → Prop} (w : World) (hgd : o.guard = none) (x1 x2 : Operand) (ho : o.op = .call { callee := .builtin .append, args := #[x1, x2], argTypes := #[30, 30] })
    (base : Nat) (v : Value) (n : Nat) (F : Nat → Ev) (hs : a.eval x1 = v) (h1 : EvRow w base v n F) (b1 : Nat) (x : Ev) (hx : a.eval x2 = .slice (some ⟨b1, 0, none⟩) 1 1) (ob : TypeId) (fz : Nat × Nat) (hb1 : w.heap[b1]? = some (.cells (eC x) ob fz)) (hn : n ≤ 1000000) (hb : base ≤ w.heap.size)
    (h : ∀ g cap w', n + 1 ≤ cap → cap ≤ 9223372036854775807 → g < w'.heap.size → (v.ownBlock = some g ∨ w.heap.size ≤ g) → EvRow w' base (.slice (some ⟨g, 0, none⟩) (n + 1) cap) (n + 1) (upd F n x) → Off (fun i => v.ownBlock = some i) w w' → wpList Try.prog ops Q rest (a.put o.dst (.slice (some ⟨g, 0, none⟩) (n + 1) cap)) w') : wpList Try.prog ops Q (o :: rest) a w := by
  obtain ⟨i0, hi, hz0, hz1, hz2⟩ := info_parts infoEv
  refine wpList_append_row w hgd x1 x2 30 ho base 24 i0 _ 9 72 Try.underlying30 hi hz0 hz1 hz2 rfl (by decide) v n (fun i => evs (F i)) hs h1 (fun i => evs_len _) b1 1 (evs x) hx rfl ob fz hb1 (evs_one x) (by omega) (by unfold maxLen; omega) hb ?_
  intro g cap w' k1 k2 k3 k4 k5 r b
  refine h g cap w' k1 k2 k4 k5 (Row.congr r (fun i _ => ?_)) ((Off.of_grown b).mono (fun i _ h => by first | exact h | exact h.symm))
  unfold upd
  split <;> rfl
/-- What is noted: the events so far. -/
structure Noted (O lo : Nat) (v : Value) (l : List Ev) (w : World) : Prop where
  box : w.heap[O]? = some (.cells #[v] 30 (0, 0))
  row : ∃ R, EvRow w lo v l.length R ∧ ents R l.length = l
  apart : O < lo
theorem Noted.off {X : Nat → Prop} {O lo : Nat} {v : Value} {l : List Ev} {w w' : World} (h : Noted O lo v l w) (ho : Off X w w') (h1 : ¬ X O) (h2 : ∀ g, v.ownBlock = some g → ¬ X g) : Noted O lo v l w' := by
  obtain ⟨R, r1, r2⟩ := h.row
  exact ⟨(ho.block _ (block_lt h.box) h1).trans h.box, ⟨R, Row.off r1 ho h2, r2⟩, h.apart⟩
theorem Noted.start {O lo : Nat} {w : World} (h : w.heap[O]? = some (.cells #[.slice none 0 0] 30 (0, 0))) (hl : O < lo) : Noted O lo (.slice none 0 0) [] w :=
  ⟨h, ⟨fun _ => ⟨0, 0, 0, 0, 0, 0, 0, 0, 0⟩, ⟨rfl, .inl ⟨rfl, rfl⟩⟩, rfl⟩, hl⟩
set_option maxRecDepth 8000 in
set_option maxHeartbeats 4000000 in
theorem note72 (sb O lo : Nat) (v : Value) (l : List Ev) (x : Ev) (err : Int) (w : World) (h : Noted O lo v l w) (hl : lo ≤ w.heap.size) (hn : l.length ≤ 1000000) :
    Calls Try.prog 72 #[.pointer (some ⟨sb, 0, none⟩), .agg (eC x), .int .i64 err, .pointer (some ⟨O, 0, none⟩)] w fun e w' => e = .returned (.tuple #[]) ∧ ∃ v', Noted O lo v' (if err = 0 then l ++ [x] else l) w' ∧
      (∀ g, v'.ownBlock = some g → v.ownBlock = some g ∨ w.heap.size ≤ g) ∧ Off (fun q => q = O ∨ v.ownBlock = some q) w w' := by
  have HN := Lib.hid h
  have o0 := cell_at h.box 0
  have f0 := free_at h.box 0
  have zo := szs (block_lt h.box)
  have HOL : Hid (O < w.heap.size) := Lib.hid (block_lt h.box)
  clear h
  by_cases he : err = 0
  · subst he
    obtain ⟨v1, v2, v3, v4, v5, v6, v7, v8, v9⟩ := x
    unfold eC at *
    dsimp only
    have BB : Hid (Below w.heap.size w ((w.alloc (.cells #[.int .i64 v1, .int .i64 v2, .int .i64 v3, .int .i64 v4, .int .i64 v5, .int .i64 v6, .int .i64 v7, .int .i64 v8, .int .i64 v9] 24)).alloc (.cells #[.int .i64 v1, .int .i64 v2, .int .i64 v3, .int .i64 v4, .int .i64 v5, .int .i64 v6, .int .i64 v7, .int .i64 v8, .int .i64 v9] 24))) := Lib.hid (by (repeat' (first | (with_reducible exact Below.refl _ _) | (with_reducible assumption) | (with_reducible refine Below.drew ?_) | (with_reducible refine below_drewN ?_ _) | (with_reducible refine Below.alloc ?_ ?_ _) | (with_reducible refine Below.setCell ?_ ?_ _) | go_size)))
    have XB : Hid (((w.alloc (.cells #[.int .i64 v1, .int .i64 v2, .int .i64 v3, .int .i64 v4, .int .i64 v5, .int .i64 v6, .int .i64 v7, .int .i64 v8, .int .i64 v9] 24)).alloc (.cells #[.int .i64 v1, .int .i64 v2, .int .i64 v3, .int .i64 v4, .int .i64 v5, .int .i64 v6, .int .i64 v7, .int .i64 v8, .int .i64 v9] 24)).heap[w.heap.size + 1]? = some (.cells #[.int .i64 v1, .int .i64 v2, .int .i64 v3, .int .i64 v4, .int .i64 v5, .int .i64 v6, .int .i64 v7, .int .i64 v8, .int .i64 v9] 24 (0, 0))) := Lib.hid (by
      have h0 := heap_alloc_new (w.alloc (.cells #[.int .i64 v1, .int .i64 v2, .int .i64 v3, .int .i64 v4, .int .i64 v5, .int .i64 v6, .int .i64 v7, .int .i64 v8, .int .i64 v9] 24)) (.cells #[.int .i64 v1, .int .i64 v2, .int .i64 v3, .int .i64 v4, .int .i64 v5, .int .i64 v6, .int .i64 v7, .int .i64 v8, .int .i64 v9] 24)
      rwa [show (w.alloc (.cells #[.int .i64 v1, .int .i64 v2, .int .i64 v3, .int .i64 v4, .int .i64 v5, .int .i64 v6, .int .i64 v7, .int .i64 v8, .int .i64 v9] 24)).heap.size = w.heap.size + 1 by simp] at h0)
    have N2 := Lib.hid (HN.out.off (X := fun _ => False) (Off.of_below BB.out) (fun h => h) (fun _ _ h => h))
    have HLO2 : lo ≤ ((w.alloc (.cells #[.int .i64 v1, .int .i64 v2, .int .i64 v3, .int .i64 v4, .int .i64 v5, .int .i64 v6, .int .i64 v7, .int .i64 v8, .int .i64 v9] 24)).alloc (.cells #[.int .i64 v1, .int .i64 v2, .int .i64 v3, .int .i64 v4, .int .i64 v5, .int .i64 v6, .int .i64 v7, .int .i64 v8, .int .i64 v9] 24)).heap.size := Nat.le_trans hl BB.out.size
    obtain ⟨R, r1, r2⟩ := N2.out.row
    have R1 := Lib.hid r1
    have R2 := Lib.hid r2
    have BS := Lib.hid (BB.out.size)
    clear r1 r2 HN
    go_enter Try.func72, Try.ntmps72
    go_wp2_with (at_builtin; go_loud (refine wpList_append_Eo _ rfl (.tmp 9) (.tmp 11) rfl lo _ _ R rfl R1.out (w.heap.size + 1) ⟨v1, v2, v3, v4, v5, v6, v7, v8, v9⟩ rfl 24 (0, 0) XB.out (by omega) HLO2 ?_))
    intro g cap w3 k1 k2 k3 k4 r3 o3
    have R3 := Lib.hid r3
    have O3 := Lib.hid o3
    have hgO : ¬ v.ownBlock = some O := fun e => by have := (World.ownsRow.lt R1.out O e).1; have := N2.out.apart; omega
    have X3 := (o3.block _ (block_lt N2.out.box) hgO).trans N2.out.box
    have fr3 := free_at X3 0
    have zo3 := szs (block_lt X3)
    have oc3 := cell_at X3 0
    have HX3 := Lib.hid X3
    have HK4 := Lib.hid k4
    clear r3 o3 X3 o0 f0 zo
    go_wp2_with fail
    go_end0
    have os : Off (fun q => q = O) w3 (w3.setCell ⟨O, 0, none⟩ (.slice (some ⟨g, 0, none⟩) (l.length + 1) cap)) := (Off.refl (fun q => q = O) w3).setCell (p := ⟨O, 0, none⟩) (fun _ => rfl) _
    have hgO2 : g ≠ O := fun e => by
      rcases HK4.out with h | h
      · rw [e] at h; exact hgO h
      · have := HOL.out; have := BS.out; omega
    refine ⟨rfl, .slice (some ⟨g, 0, none⟩) (l.length + 1) cap, ⟨?_, ⟨upd R l.length ⟨v1, v2, v3, v4, v5, v6, v7, v8, v9⟩, ?_, ?_⟩, N2.out.apart⟩, fun g' h => ?_, ?_⟩
    · rw [setCell_at HX3.out, setAt_same (block_lt HX3.out)]; rfl
    · rw [List.length_append, List.length_singleton]
      exact Row.off R3.out os (fun g' hg' h => by
        cases hg'
        exact hgO2 h)
    · rw [List.length_append, List.length_singleton, ents_push, R2.out]
    · cases h
      rcases HK4.out with h | h
      · exact .inl h
      · exact .inr (by show w.heap.size ≤ g; omega)
    · exact ((Off.of_below BB.out).trans O3.out (fun i _ h => .inr h)).trans os (fun i _ h => .inl h)
  · have te : (err == 0) = false := by simpa using he
    have BB : Hid (Below w.heap.size w (w.alloc (.cells (eC x) 24))) := Lib.hid (by (repeat' (first | (with_reducible exact Below.refl _ _) | (with_reducible assumption) | (with_reducible refine Below.drew ?_) | (with_reducible refine below_drewN ?_ _) | (with_reducible refine Below.alloc ?_ ?_ _) | (with_reducible refine Below.setCell ?_ ?_ _) | go_size)))
    obtain ⟨v1, v2, v3, v4, v5, v6, v7, v8, v9⟩ := x
    unfold eC at *
    dsimp only at BB ⊢
    go_enter Try.func72, Try.ntmps72
    go_wp2_with fail
    go_end0
    exact ⟨rfl, v, HN.out.off (X := fun _ => False) (Off.of_below BB.out) (fun h => h) (fun _ _ h => h), fun g h => .inl h, Off.of_below BB.out⟩
end Go.Proofs.Ytlnfhlmgnppcbaa
