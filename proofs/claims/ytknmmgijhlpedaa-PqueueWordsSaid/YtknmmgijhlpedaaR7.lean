/- Two queues merged. Conditions: fewer than 100,000 pushes. -/
import Derived.Test.YtknmmgijhlpedaaR6
import Derived.Deep.LoopGhost
import Derived.LaidEqlPtr
namespace Go.Proofs.Ytknmmgijhlpedaa
open Go.RowKit
namespace QI
set_option linter.unusedVariables false
set_option linter.unusedSimpArgs false
theorem infoQ : (Try.prog.info? 61).map (fun i => (i.zero, i.size, i.bytes)) = some (some (.agg #[.nilFunc, .slice none 0 0, .int .i64 0]), 3, 40) := by kernel_rfl
theorem merge_none (w : World) (v1 v2 : Option Addr) (h : v1 = none ∨ v2 = none ∨ v1 = v2) :
    Calls Try.prog 23 #[.pointer v1, .pointer v2] w fun e w' => e = .returned (.tuple #[]) ∧ w = w' := by
  rcases h with rfl | rfl | rfl
  · go_enter Try.func23, Try.ntmps23
    go_wp2_with fail
    go_returns
    exact ⟨rfl, rfl⟩
  · cases v1
    all_goals
      go_enter Try.func23, Try.ntmps23
      go_wp2_with fail
      go_returns
      exact ⟨rfl, rfl⟩
  · cases v1 with
    | none =>
      go_enter Try.func23, Try.ntmps23
      go_wp2_with fail
      go_returns
      exact ⟨rfl, rfl⟩
    | some a =>
      obtain ⟨i0, hi, _⟩ := info_parts infoQ
      have hpe := run_eql_ptr_same w a Try.underlying24 hi
      go_enter Try.func23, Try.ntmps23
      go_wp2_with fail
      go_returns
      exact ⟨rfl, rfl⟩
set_option maxHeartbeats 1000000 in
theorem merge23 (d d2 : D) (w : World) (base q : Nat) (ow : Option Nat) (l : List T) (N : Int) (q2 : Nat) (ow2 : Option Nat) (l2 : List T) (N2 : Int) (h : Q w base q ow d l N) (h2 : Q w base q2 ow2 d2 l2 N2) (hne : q ≠ q2)
    (hdis : ∀ b, FP q ow b → ¬ FP q2 ow2 b) (hN : N + l2.length ≤ 100000) (hN2 : N2 ≤ 100000) (hb : base ≤ w.heap.size) :
    Calls Try.prog 23 #[.pointer (some ⟨q, 0, none⟩), .pointer (some ⟨q2, 0, none⟩)] w fun e w' => e = .returned (.tuple #[]) ∧ ∃ ow', Q w' base q ow' d (l ++ leave (lt d2) l2) (N + l2.length) ∧ Q w' base q2 ow2 d2 [] N2 ∧
      Off (fun b => FP q ow b ∨ FP q2 ow2 b) w w' ∧ (∀ g, ow' = some g → ow = some g ∨ w.heap.size ≤ g) ∧ ∀ b, FP q ow' b → ¬ FP q2 ow2 b := by
  have H := Lib.hid (And.intro h (And.intro h2 hdis))
  have HW := Lib.hid (And.intro h.within h2.within)
  have hqq : (binOp .eql 24 (.pointer (some ⟨q, 0, none⟩)) (.pointer (some ⟨q2, 0, none⟩))).run Try.prog w = .ok (.bool false) w := by
    obtain ⟨i0, hi, _, hz, _⟩ := info_parts infoQ
    obtain ⟨_, _, _, g1, _⟩ := h
    obtain ⟨_, _, _, g2, _⟩ := h2
    exact run_eql_ptr_other w Try.underlying24 hi (by rw [hz]; decide) (by simp [hne]) g1 g2
  clear h h2 hdis
  go_enter Try.func23, Try.ntmps23
  go_wp2_with fail
  go_loopg [] l2.length (fun k wr => ∃ (l' m : List T) (ow' : Option Nat), Hid (Q wr base q ow' d (l ++ m) (N + m.length) ∧ Q wr base q2 ow2 d2 l' N2 ∧ m ++ leave (lt d2) l' = leave (lt d2) l2 ∧ m.length + l'.length = l2.length ∧ Off (fun b => FP q ow b ∨ FP q2 ow2 b) w wr ∧ (∀ g, ow' = some g → ow = some g ∨ w.heap.size ≤ g) ∧ ∀ b, FP q ow' b → ¬ FP q2 ow2 b) ∧ l'.length ≤ k)
  case atStart => exact ⟨l2, [], ow, ⟨by simpa using H.out.1, H.out.2.1, rfl, by simp, Off.refl _ _, fun g hg => .inl hg, H.out.2.2⟩, Nat.le_refl _⟩
  case round =>
    obtain ⟨l', m, ow', hrel, hgk⟩ := hrel
    clear H
    have L := len d2 wr base q2 ow2 l' N2 hrel.out.2.1
    have HL := Lib.hid L
    have hml : m.length + l'.length = l2.length := hrel.out.2.2.2.1
    clear L
    by_cases hl' : l' = []
    · subst hl'
      go_wp2_with (go_at_call 13; refine HL.out.mono ?_; rintro e w1 ⟨rfl, rfl⟩)
      go_returns
      obtain ⟨h1, h2, h3, h4, h5, h6, h7⟩ := hrel.out
      rw [leave_nil, List.append_nil] at h3
      subst h3
      simp at h4
      exact ⟨rfl, ow', by rw [← h4]; exact h1, h2, h5, h6, h7⟩
    · have hpos : 0 < l'.length := List.length_pos_iff.2 hl'
      have t1 : (0 : Int) < (l'.length : Int) := by omega
      have P := pop_some d2 wr base q2 ow2 l' N2 hrel.out.2.1 hl' (by omega)
      have hlv := leave_cons (lt := lt d2) hl'
      have hmx := minIx_lt (lt := lt d2) hl'
      have hle : (l'.eraseIdx (minIx (lt d2) l')).length + 1 = l'.length := by rw [List.length_eraseIdx_of_lt hmx]; omega
      generalize l'.eraseIdx (minIx (lt d2) l') = l3 at *
      generalize l'.getD (minIx (lt d2) l') default = x at *
      obtain ⟨xk, xt⟩ := x
      unfold vv at P
      dsimp only at P
      have HP := Lib.hid P
      have HLV := Lib.hid hlv
      have HL' := Lib.hid hl'
      clear P hlv hl' hmx
      go_wp2_with (first | (go_at_call 13; refine HL.out.mono ?_; rintro e w1 ⟨rfl, rfl⟩) | (go_at_call 19; refine HP.out.mono ?_; rintro e w1 ⟨rfl, hq1, ho1⟩))
      obtain ⟨h1, h2, h3, h4, h5, h6, h7⟩ := hrel.out
      have q1 := (h1.off ho1 (fun b hb hx => h7 b hb hx)).below ((Below.refl w1.heap.size w1).alloc (Nat.le_refl _) (.cells #[.int .i64 xk, .int .i64 xt] 27))
      have hq2 := hq1.below ((Below.refl w1.heap.size w1).alloc (Nat.le_refl _) (.cells #[.int .i64 xk, .int .i64 xt] 27))
      have S := push_q d _ base q ow' (l ++ m) (N + m.length) ⟨xk, xt⟩ q1 (by omega) (by have := h5.size; have := ho1.size; simp; omega)
      unfold vv at S
      dsimp only at S
      have HS := Lib.hid S
      have O1 := Lib.hid ho1
      have Q2 := Lib.hid hq2
      have Q1 := Lib.hid q1
      clear S ho1 hq1 hq2 q1 h1 h2 h3 h4 h5 h6 h7
      go_wp2_with (go_at_call 16; refine HS.out.mono ?_; rintro e w2 ⟨rfl, ow3, hq3, ho3, hf3⟩)
      go_roundg l3.length
      case measure => omega
      case rel =>
        obtain ⟨h1, h2, h3, h4, h5, h6, h7⟩ := hrel.out
        have hsz := h5.size
        have hsz1 := O1.out.size
        have hdis3 : ∀ b, FP q ow3 b → ¬ FP q2 ow2 b := fun b hb hx => by
          rcases hb with rfl | hb
          · exact h7 _ (.inl rfl) hx
          · rcases hf3 b hb.symm with h | h
            · exact h7 b (.inr h.symm) hx
            · have := (HW.out.2 b hx).2; simp at h; omega
        refine ⟨l3, m ++ [⟨xk, xt⟩], ow3, ⟨?_, Q2.out.off ho3 (fun b hb hx => h7 b hx hb), by rw [← h3, HLV.out]; simp, by simp; omega, ?_, fun g hg => ?_, hdis3⟩, Nat.le_refl _⟩
        · rw [← List.append_assoc, show N + ((m ++ [(⟨xk, xt⟩ : T)]).length : Int) = N + (m.length : Int) + 1 by simp; omega]
          exact hq3
        · have a1 : Off (fun b => FP q ow b ∨ FP q2 ow2 b) w w1 := h5.trans O1.out (fun b _ hx => .inr hx)
          have a2 := a1.alloc (.cells #[.int .i64 xk, .int .i64 xt] 27)
          refine a2.trans ho3 (fun b hb hx => .inl ?_)
          rcases hx with rfl | hx
          · exact .inl rfl
          · rcases h6 b hx.symm with h | h
            · exact .inr h.symm
            · omega
        · rcases hf3 g hg with h | h
          · exact h6 g h
          · right; simp at h; omega
end QI
end Go.Proofs.Ytknmmgijhlpedaa
