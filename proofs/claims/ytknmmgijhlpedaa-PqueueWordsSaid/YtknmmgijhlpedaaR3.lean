/- All values of a queue taken out, by the queue and by the reference; two lists compared. Conditions: fewer than a million items. -/
import Derived.Test.YtknmmgijhlpedaaR2
namespace Go.Proofs.Ytknmmgijhlpedaa
open Go.RowKit
namespace QI
set_option linter.unusedVariables false
set_option linter.unusedSimpArgs false
/-- The values in the order in which they leave. -/
def leaveN (lt : T → T → Bool) : Nat → List T → List T
  | 0, _ => []
  | _, [] => []
  | n + 1, x :: l => (x :: l).getD (minIx lt (x :: l)) default :: leaveN lt n ((x :: l).eraseIdx (minIx lt (x :: l)))
def leave (lt : T → T → Bool) (l : List T) : List T := leaveN lt l.length l
theorem leave_nil (lt : T → T → Bool) : leave lt [] = [] := rfl
theorem leave_cons {lt : T → T → Bool} {l : List T} (h : l ≠ []) : leave lt l = l.getD (minIx lt l) default :: leave lt (l.eraseIdx (minIx lt l)) := by
  have hlt := minIx_lt (lt := lt) h
  cases l with
  | nil => exact absurd rfl h
  | cons x l =>
    have he : ((x :: l).eraseIdx (minIx lt (x :: l))).length = l.length := by rw [List.length_eraseIdx_of_lt hlt]; rfl
    unfold leave
    rw [he]
    rfl
theorem leave_len (lt : T → T → Bool) : ∀ (n : Nat) (l : List T), l.length = n → (leave lt l).length = n
  | 0, l, h => by obtain rfl := List.length_eq_zero_iff.1 h; rfl
  | n + 1, l, h => by
    have hne : l ≠ [] := by intro e; subst e; simp at h
    rw [leave_cons hne, List.length_cons, leave_len lt n _ (by rw [List.length_eraseIdx_of_lt (minIx_lt hne), h]; rfl)]
theorem heap2 (w : World) (o o' : Obj) : ((w.alloc o).alloc o').heap[w.heap.size + 1]? = some o' := by
  have := heap_alloc_new (w.alloc o) o'
  simpa using this
theorem below2 (w : World) (o o' : Obj) : Below w.heap.size w ((w.alloc o).alloc o') := ((Below.refl _ _).alloc (Nat.le_refl _) _).alloc (by simp) _

set_option maxHeartbeats 1000000 in
theorem drain14 (d : D) (w : World) (base q : Nat) (ow : Option Nat) (l : List T) (N : Int) (n : Nat) (h : Q w base q ow d l N) (hN : N ≤ 100000) (hn : l.length < n) (hn2 : n ≤ 1000000) :
    Calls Try.prog 14 #[.pointer (some ⟨q, 0, none⟩), .int .i64 n] w fun e w' => ∃ v, e = .returned v ∧ IL w' w.heap.size v (leave (lt d) l) ∧ Q w' base q ow d [] N ∧ Off (FP q ow) w w' := by
  obtain ⟨i0, hi, hz0, hz1, hz2⟩ := info_parts infoT
  have hlN := h.len
  have HQ := Lib.hid h
  have HF := Lib.hid h.within
  clear h
  go_enter Try.func14, Try.ntmps14
  go_wp2_with fail
  go_loopw [5, 6] (fun out i wr => ∃ (k : Nat) (l' gone : List T), i = .int .i64 k ∧ Hid (Q wr base q ow d l' N ∧ IL wr w.heap.size out gone ∧ gone ++ leave (lt d) l' = leave (lt d) l ∧ gone.length = k ∧ k + l'.length = l.length ∧ Off (FP q ow) w wr)) (fun _ i _ => n - (intOf i).toNat)
  case atStart => exact ⟨0, l, [], rfl, HQ.out, IL.nil _ _, rfl, rfl, by omega, Off.refl _ _⟩
  case round =>
    obtain ⟨k, l', gone, rfl, hrel⟩ := hrel
    clear HQ
    have hk : k + l'.length = l.length := hrel.out.2.2.2.2.1
    have t1 : (k : Int) < (n : Int) := by omega
    by_cases hl' : l' = []
    · subst hl'
      go_wp2_with (go_at_call 19; refine (pop_none d _ base q ow N hrel.out.1).mono ?_; rintro e w1 ⟨rfl, hb1⟩)
      go_returns
      obtain ⟨h1, h2, h3, h4, h5, h6⟩ := hrel.out
      rw [leave_nil, List.append_nil] at h3
      have hb2 : Below wr.heap.size wr (w1.alloc (.cells #[.int .i64 0, .int .i64 0] 27)) := hb1.alloc hb1.size _
      exact ⟨_, rfl, by rw [← h3]; exact h2.below hb2, h1.below hb2, h6.trans (Off.of_below (X := fun _ => False) hb2) (fun _ _ h => h.elim)⟩
    · have P := pop_some d wr base q ow l' N hrel.out.1 hl' (by omega)
      have hlv := leave_cons (lt := lt d) hl'
      have hmx := minIx_lt (lt := lt d) hl'
      have hle : (l'.eraseIdx (minIx (lt d) l')).length + 1 = l'.length := by rw [List.length_eraseIdx_of_lt hmx]; omega
      generalize l'.eraseIdx (minIx (lt d) l') = l2 at *
      generalize l'.getD (minIx (lt d) l') default = x at *
      obtain ⟨xk, xt⟩ := x
      unfold vv at P
      dsimp only at P
      have HP := Lib.hid P
      have HLV := Lib.hid hlv
      have HL' := Lib.hid hl'
      clear P hlv hl' hmx
      go_wp2_with fail
      refine HP.out.mono ?_
      rintro e w1 ⟨rfl, hq1, ho1⟩
      obtain ⟨h1, h2, h3, h4, h5, h6⟩ := hrel.out
      have hfp : ∀ g, u5.ownBlock = some g → ¬ FP q ow g := fun g hg hx => by
        have := (h2.own g hg).1
        have := (HF.out g hx).2
        omega
      have h2' := h2.off ho1 hfp
      have hsz := h6.size
      have hsz1 := ho1.size
      have hgl : gone.length < 1000000 := by omega
      have r2 : Row ((w1.alloc (.cells #[.int .i64 xk, .int .i64 xt] 27)).alloc (.cells #[.int .i64 xk, .int .i64 xt] 27)) w.heap.size 27 2 u5 gone.length (lf gone) := h2'.below (below2 _ _ _)
      have R2 := Lib.hid r2
      have O1 := Lib.hid (show Off (FP q ow) w ((w1.alloc (.cells #[.int .i64 xk, .int .i64 xt] 27)).alloc (.cells #[.int .i64 xk, .int .i64 xt] 27)) from (h6.same ho1).trans (Off.of_below (X := fun _ => False) (below2 _ _ _)) (fun _ _ h => h.elim))
      have Q1 := Lib.hid (hq1.below (below2 w1 (.cells #[.int .i64 xk, .int .i64 xt] 27) (.cells #[.int .i64 xk, .int .i64 xt] 27)))
      have HFP := Lib.hid hfp
      have OWN := Lib.hid h2.own
      clear h1 h2 h3 h4 h5 h6 hfp h2' r2 hq1 ho1
      go_wp2_with (at_builtin; refine wpList_append_row _ rfl _ _ 29 rfl w.heap.size 27 i0 _ 2 16 Try.underlying29 hi hz0 hz1 hz2 rfl (by decide) _ gone.length (lf gone) rfl R2.out (lf_len _) (w1.heap.size + 1) 1 (tc ⟨xk, xt⟩) rfl rfl 27 (0, 0) (heap2 w1 _ _) (tc_one _) (by omega) (by unfold maxLen; omega) (by simp; omega) ?_)
      intro g cap w2 hc1 hc2 hbg hgl2 hown hr2 hg2
      have o2 := Off.of_grown hg2
      have r3 := Lib.hid (IL.of_push hr2)
      have q2 := Lib.hid (Q1.out.off o2 (fun b hb h => HFP.out b h.symm hb))
      have O2 := Lib.hid (O1.out.trans o2 (fun b hb h => absurd hb (by have := (OWN.out b h.symm).1; omega)))
      clear hr2 hg2 o2
      go_wp2_with fail
      go_roundw
      case rel =>
        obtain ⟨h1, h2, h3, h4, h5, h6⟩ := hrel.out
        exact ⟨k + 1, l2, gone ++ [⟨xk, xt⟩], by go_num, q2.out, r3.out, by rw [← h3, HLV.out]; simp, by simp [h4], by omega, O2.out⟩
      case measure => simp [intOf]; omega
end QI
end Go.Proofs.Ytknmmgijhlpedaa
