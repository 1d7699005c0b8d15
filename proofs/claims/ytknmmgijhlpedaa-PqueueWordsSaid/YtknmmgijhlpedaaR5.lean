/- All values by the reference. Conditions: fewer than a million items. -/
import Derived.Test.YtknmmgijhlpedaaR4
namespace Go.Proofs.Ytknmmgijhlpedaa
open Go.RowKit
namespace QI
set_option linter.unusedVariables false
set_option linter.unusedSimpArgs false
def lenOf : Value → Nat | .slice _ n _ => n | _ => 0
theorem IL.val {w : World} {base : Nat} {v : Value} {l : List T} (h : IL w base v l) : ∃ a c, v = .slice a l.length c ∧ l.length ≤ c ∧ c ≤ 9223372036854775807 := by
  obtain ⟨a, c, e, h1, h2, _⟩ := Row.sl h (lf_len l)
  exact ⟨a, c, e, h1, h2⟩
set_option maxHeartbeats 1000000 in
theorem all22 (w : World) (base : Nat) (v : Value) (l : List T) (d : Bool) (h : IL w base v l) (hl : l.length < 1000000) :
    Calls Try.prog 22 #[v, .bool d] w fun e w' => ∃ v', e = .returned v' ∧ IL w' w.heap.size v' (leave (lt d) l) ∧ Below w.heap.size w w' := by
  obtain ⟨i0, hi, hz0, hz1, hz2⟩ := info_parts infoT
  have H := Lib.hid h
  clear h
  go_enter Try.func22, Try.ntmps22
  go_wp2_with fail
  go_loopw [0, 5] (fun a out wr => ∃ l' gone, Hid (IL wr 0 a l' ∧ IL wr w.heap.size out gone ∧ gone ++ leave (lt d) l' = leave (lt d) l ∧ gone.length + l'.length = l.length ∧ Below w.heap.size w wr ∧ ∀ g, a.ownBlock = some g → out.ownBlock ≠ some g)) (fun a _ _ => lenOf a)
  case atStart => exact ⟨l, [], H.out.base_mono (Nat.zero_le _), IL.nil _ _, rfl, by simp, Below.refl _ _, fun g _ => by simp [Value.ownBlock]⟩
  case round =>
    obtain ⟨l', gone, hrel⟩ := hrel
    obtain ⟨a, c, rfl, hc1, hc2⟩ := hrel.out.1.val
    have hk : gone.length + l'.length = l.length := hrel.out.2.2.2.1
    by_cases hl' : l' = []
    · subst hl'
      go_wp2_with fail
      go_returns
      obtain ⟨h1, h2, h3, h4, h5, h6⟩ := hrel.out
      rw [leave_nil, List.append_nil] at h3
      exact ⟨_, rfl, by rw [← h3]; exact h2, h5⟩
    · have hpos : 0 < l'.length := List.length_pos_iff.2 hl'
      have t1 : (0 : Int) < (l'.length : Int) := by omega
      have P := fun w0 (h0 : Below wr.heap.size wr w0) => refpop_some w0 0 (.slice a l'.length c) l' d (hrel.out.1.below h0) hl' (by omega)
      have hlv := leave_cons (lt := lt d) hl'
      have hmx := minIx_lt (lt := lt d) hl'
      have hle : (l'.eraseIdx (minIx (lt d) l')).length + 1 = l'.length := by rw [List.length_eraseIdx_of_lt hmx]; omega
      generalize l'.eraseIdx (minIx (lt d) l') = l2 at *
      generalize l'.getD (minIx (lt d) l') default = x at *
      obtain ⟨xk, xt⟩ := x
      unfold vv at P
      dsimp only at P
      have HP := Lib.hid P
      have HLV := Lib.hid hlv
      have HL' := Lib.hid hl'
      clear P hlv hl' hmx
      go_wp2_with fail
      refine (HP.out _ ?hb0).mono ?_
      case hb0 => (repeat' (first | (with_reducible exact Below.refl _ _) | (with_reducible assumption) | (with_reducible refine Below.drew ?_) | (with_reducible refine below_drewN ?_ _) | (with_reducible refine Below.alloc ?_ ?_ _) | (with_reducible refine Below.setCell ?_ ?_ _) | go_size))
      rintro e w1 ⟨v1, rfl, hr1, hb1⟩
      obtain ⟨h1, h2, h3, h4, h5, h6⟩ := hrel.out
      have hb1' : Below wr.heap.size wr w1 := ((Below.refl _ _).alloc (Nat.le_refl _) _).trans (hb1.mono (by simp))
      have hsz := h5.size
      have hsz1 : wr.heap.size < w1.heap.size := by have := hb1.size; simp at this; omega
      have b0 : w1.heap[wr.heap.size]? = some (.cells #[.int .i64 0, .int .i64 0] 27) := (hb1.block _ (by simp)).trans (heap_alloc_new wr _)
      have z0 : w1.cell? ⟨wr.heap.size, 0, none⟩ = some (.int .i64 0) := cell_at b0 0
      have z1 : w1.cell? ⟨wr.heap.size, 1, none⟩ = some (.int .i64 0) := cell_at b0 1
      have zf : ∀ j, w1.frozen? ⟨wr.heap.size, j, none⟩ = false := free_at b0
      obtain ⟨w2, hw2⟩ : ∃ w2, w2 = (w1.setCell ⟨wr.heap.size, 0, none⟩ (.int .i64 xk)).setCell ⟨wr.heap.size, 1, none⟩ (.int .i64 xt) := ⟨_, rfl⟩
      have o2 : Off (fun b => b = wr.heap.size) w1 w2 := by rw [hw2]; exact ((Off.refl (fun b => b = wr.heap.size) w1).setCell (fun _ => rfl) _).setCell (fun _ => rfl) _
      have sz2 : w2.heap.size = w1.heap.size := by rw [hw2]; simp
      have out2 : IL w2 w.heap.size u5 gone := (h2.below hb1').off o2 (fun g hg e => by have := (h2.own g hg).2; omega)
      have hv1 : ∀ g, v1.ownBlock = some g → wr.heap.size < g := fun g hg => by have := (hr1.own g hg).1; simp at this; omega
      have v2 : IL w2 (wr.heap.size + 1) v1 l2 := by have := hr1.off o2 (fun g hg e => by have := hv1 g hg; omega); simpa using this
      have B2 : Below w.heap.size w w2 := (h5.trans (hb1'.mono hsz)).trans (o2.toBelow (by omega) (fun k hk e => by omega))
      have hgl : gone.length < 1000000 := by omega
      have r2 : Row (w2.alloc (.cells #[.int .i64 xk, .int .i64 xt] 27)) w.heap.size 27 2 u5 gone.length (lf gone) := out2.below ((Below.refl _ _).alloc (Nat.le_refl _) _)
      have v3 : IL (w2.alloc (.cells #[.int .i64 xk, .int .i64 xt] 27)) 0 v1 l2 := (v2.below ((Below.refl _ _).alloc (Nat.le_refl _) _)).base_mono (Nat.zero_le _)
      have nb : (w2.alloc (.cells #[.int .i64 xk, .int .i64 xt] 27)).heap[w1.heap.size]? = some (.cells #[.int .i64 xk, .int .i64 xt] 27) := by rw [← sz2]; exact heap_alloc_new w2 _
      have bb : w.heap.size ≤ (w2.alloc (.cells #[.int .i64 xk, .int .i64 xt] 27)).heap.size := by simp [sz2]; omega
      have OUT := Lib.hid h2.own
      have HV1 := Lib.hid hv1
      subst hw2
      have R2 := Lib.hid r2
      have V3 := Lib.hid v3
      have HB2 := Lib.hid (Below.alloc B2 (by simp; omega) (.cells #[.int .i64 xk, .int .i64 xt] 27))
      have NB := Lib.hid nb
      have BB := Lib.hid bb
      have HSZ := Lib.hid (And.intro hsz hsz1)
      clear nb bb h1 h2 h3 h4 h5 h6 hr1 hb1 hb1' b0 o2 sz2 out2 v2 B2 r2 v3 hv1
      go_wp2_with (at_builtin; refine wpList_append_row _ rfl _ _ 29 rfl w.heap.size 27 i0 _ 2 16 Try.underlying29 hi hz0 hz1 hz2 rfl (by decide) u5 gone.length (lf gone) rfl R2.out (lf_len _) w1.heap.size 1 (tc ⟨xk, xt⟩) rfl rfl 27 (0, 0) NB.out (tc_one _) (by omega) (by unfold maxLen; omega) BB.out ?_)
      intro g cap w4 hc1' hc2' hbg hgl2 hown hr4 hg4
      have o4 := Off.of_grown hg4
      have r5 := Lib.hid (IL.of_push hr4)
      have ne4 : ∀ g, v1.ownBlock = some g → u5.ownBlock ≠ some g := fun g hg e => by have := HV1.out g hg; have := (OUT.out g e).2; omega
      have v5 := Lib.hid (V3.out.off o4 (fun g hg e => ne4 g hg e.symm))
      have B5 := Lib.hid (HB2.out.trans (o4.toBelow BB.out (fun k hk e => by have := (OUT.out k e.symm).1; omega)))
      have NE := Lib.hid (show ∀ g', v1.ownBlock = some g' → g ≠ g' from fun g' hg' e => by
        subst e
        rcases hown with h | h
        · exact ne4 _ hg' h
        · have := (V3.out.own _ hg').2; simp at this h; omega)
      clear hr4 hg4 o4 ne4 hown
      go_wp2_with fail
      go_roundw
      case rel =>
        obtain ⟨h1, h2, h3, h4, h5, h6⟩ := hrel.out
        exact ⟨l2, gone ++ [⟨xk, xt⟩], v5.out, r5.out, by rw [← h3, HLV.out]; simp, by simp; omega, B5.out, fun g' hg' e => NE.out g' hg' (by simpa [Value.ownBlock] using e)⟩
      case measure =>
        obtain ⟨a', c', rfl, _, _⟩ := v5.out.val
        simp [lenOf]; omega
end QI
end Go.Proofs.Ytknmmgijhlpedaa
