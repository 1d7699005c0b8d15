/- Slices of items; the reference's Push. Condition: fewer than a million items. -/
import Derived.Test.YtknmmgijhlpedaaI6
import Derived.Test.YtknmmgijhlpedaaH4
import Derived.WalkSpells
namespace Go.Proofs.Ytknmmgijhlpedaa
open Go.RowKit
namespace QI
set_option linter.unusedVariables false
set_option linter.unusedSimpArgs false
def tc (x : T) : List Value := [.int .i64 x.key, .int .i64 x.tag]
theorem tc_len (x : T) : (tc x).length = 2 := rfl
theorem tc_one (x : T) : ∀ u ∈ tc x, u.oneCell' = true := by
  intro u hu
  simp [tc] at hu
  rcases hu with rfl | rfl <;> rfl
def lf (l : List T) : Nat → List Value := fun i => tc (l.getD i default)
theorem lf_len (l : List T) (i : Nat) : (lf l i).length = 2 := rfl
theorem lf_one (l : List T) (i : Nat) : ∀ u ∈ lf l i, u.oneCell' = true := tc_one _
/-- The slice owns these items. -/
def IL (w : World) (base : Nat) (v : Value) (l : List T) : Prop := Row w base 27 2 v l.length (lf l)
theorem IL.off {X : Nat → Prop} {w w' : World} {base : Nat} {v : Value} {l : List T} (h : IL w base v l) (ho : Off X w w') (hX : ∀ g, v.ownBlock = some g → ¬ X g) : IL w' base v l := Row.off h ho hX
theorem IL.below {w w' : World} {base : Nat} {v : Value} {l : List T} (h : IL w base v l) (hb : Below w.heap.size w w') : IL w' base v l := Row.off (X := fun _ => False) h (Off.of_below hb) (fun _ _ h => h)
theorem IL.nil (w : World) (base : Nat) : IL w base (.slice none 0 0) [] := World.ownsRow_nil _ _ _ _
theorem IL.own {w : World} {base : Nat} {v : Value} {l : List T} (h : IL w base v l) : ∀ g, v.ownBlock = some g → base ≤ g ∧ g < w.heap.size := World.ownsRow.lt h
theorem IL.base_mono {w : World} {B base : Nat} {v : Value} {l : List T} (h : IL w B v l) (hb : base ≤ B) : IL w base v l := Row.base_mono h hb
theorem getD_left {α : Type} {l1 l2 : List α} {i : Nat} {d : α} (h : i < l1.length) : (l1 ++ l2).getD i d = l1.getD i d := by simp [List.getD, List.getElem?_append_left h]
theorem getD_right {α : Type} {l1 l2 : List α} {i : Nat} {d : α} (h : l1.length ≤ i) : (l1 ++ l2).getD i d = l2.getD (i - l1.length) d := by simp [List.getD, List.getElem?_append_right h]
theorem IL.of_push {w : World} {base : Nat} {v : Value} {l : List T} {x : T} (h : Row w base 27 2 v (l.length + 1) (upd (lf l) l.length (tc x))) : IL w base v (l ++ [x]) := by
  unfold IL
  rw [List.length_append]
  refine Row.congr h fun i hi => ?_
  simp at hi
  by_cases hil : i = l.length
  · subst hil; rw [upd_same]; unfold lf; simp
  · rw [upd_ne hil]; unfold lf; rw [getD_left (by omega)]
theorem cat_lf (l1 l2 : List T) (i : Nat) (hi : i < l1.length + l2.length) : cat (lf l1) l1.length (lf l2) i = lf (l1 ++ l2) i := by
  unfold cat lf
  split
  · rw [getD_left (by omega)]
  · rw [getD_right (by omega)]
theorem IL.of_cat {w : World} {base : Nat} {v : Value} {l1 l2 : List T} (h : Row w base 27 2 v (l1.length + l2.length) (cat (lf l1) l1.length (lf l2))) : IL w base v (l1 ++ l2) := by
  unfold IL
  rw [List.length_append]
  exact Row.congr h fun i hi => cat_lf l1 l2 i hi
theorem infoT : (Try.prog.info? 27).map (fun i => (i.zero, i.size, i.bytes)) = some (some (.agg #[.int .i64 0, .int .i64 0]), 2, 16) := by kernel_rfl

theorem refpush (w : World) (base : Nat) (v : Value) (l : List T) (x : T) (h : IL w base v l) (hl : l.length < 1000000) :
    Calls Try.prog 17 #[v, vv x] w fun e w' => ∃ v', e = .returned v' ∧ IL w' w.heap.size v' (l ++ [x]) ∧ Below w.heap.size w w' := by
  obtain ⟨i0, hi, hz0, hz1, hz2⟩ := info_parts infoT
  obtain ⟨w0, hw0⟩ : ∃ w0, w0 = w.alloc (.cells #[.int .i64 x.key, .int .i64 x.tag] 27) := ⟨_, rfl⟩
  have b0 : Below w.heap.size w w0 := by rw [hw0]; exact (Below.refl _ _).alloc (Nat.le_refl _) _
  have x0 : w0.heap[w.heap.size]? = some (.cells #[.int .i64 x.key, .int .i64 x.tag] 27) := by rw [hw0]; exact heap_alloc_new w _
  have z0 : w0.heap.size = w.heap.size + 1 := by rw [hw0]; simp
  obtain ⟨ao, cap, rfl, hn, hc, hsl, hnone⟩ := Row.sl (h.below b0) (lf_len l)
  obtain ⟨xk, xt⟩ := x
  unfold vv
  dsimp only at *
  subst hw0
  have HX := Lib.hid x0
  have HZ := Lib.hid z0
  have HB := Lib.hid b0
  have HS := Lib.hid hsl
  clear x0 z0 b0 hsl h
  go_enter Try.func17, Try.ntmps17
  go_wp2_with (at_builtin; refine wpList_append_sl _ rfl (.tmp 6) (.tmp 7) 29 rfl w.heap.size 27 i0 _ 2 16 Try.underlying29 hi hz0 hz1 hz2 rfl (by decide) (.slice none 0 0) 0 (lf []) rfl (IL.nil _ _) (lf_len _) ao l.length cap (lf l) rfl (lf_len l) hnone HS.out (lf_one l) (by omega) (by unfold maxLen; omega) (by have := HZ.out; omega) ?_)
  intro v1 w1 hr1 hg1 hf1
  have b1 : Below w.heap.size w w1 := HB.out.trans ((Off.of_grown hg1).toBelow (by have := HZ.out; omega) (fun k hk h => by simp [Value.ownBlock] at h))
  have r1 : IL w1 w.heap.size v1 ([] ++ l) := IL.of_cat (by rw [List.length_nil, Nat.zero_add]; exact hr1)
  rw [List.nil_append] at r1
  have x1 : w1.heap[w.heap.size]? = some (.cells #[.int .i64 xk, .int .i64 xt] 27) := (hg1.block _ (block_lt HX.out) (by simp [Value.ownBlock])).trans HX.out
  have HR1 := Lib.hid r1
  have HB1 := Lib.hid b1
  have hs1 : w.heap.size < w1.heap.size := block_lt x1
  have c0 : w1.cell? ⟨w.heap.size, 0, none⟩ = some (.int .i64 xk) := cell_at x1 0
  have c1 : w1.cell? ⟨w.heap.size, 1, none⟩ = some (.int .i64 xt) := cell_at x1 1
  clear hr1 hg1 hf1 b1 r1 x1
  go_wp2_with (at_builtin; refine wpList_append_row _ rfl (.tmp 9) (.tmp 11) 29 rfl w.heap.size 27 i0 _ 2 16 Try.underlying29 hi hz0 hz1 hz2 rfl (by decide) v1 l.length (lf l) rfl (Row.off (X := fun _ => False) HR1.out (Off.of_below ((Below.refl _ _).alloc (Nat.le_refl _) _)) (fun _ _ h => h)) (lf_len _) w1.heap.size 1 (tc ⟨xk, xt⟩) rfl rfl 27 (0, 0) (heap_alloc_new w1 _) (tc_one _) (by omega) (by unfold maxLen; omega) (by simp; omega) ?_)
  intro g cap' w2 hc1 hc2 hbg hgl hown hr2 hg2
  have b2 : Below w.heap.size w w2 := by
    have a1 : Below w.heap.size w (w1.alloc (.cells #[.int .i64 xk, .int .i64 xt] 27)) := HB1.out.alloc (by omega) _
    refine a1.trans ((Off.of_grown hg2).toBelow (by simp; omega) (fun k hk h => ?_))
    have := (HR1.out.own k h.symm).1
    omega
  have r2 := Lib.hid (IL.of_push hr2)
  clear hr2 hg2
  go_wp2_with fail
  go_returns
  exact ⟨_, rfl, r2.out, b2⟩
end QI
end Go.Proofs.Ytknmmgijhlpedaa
