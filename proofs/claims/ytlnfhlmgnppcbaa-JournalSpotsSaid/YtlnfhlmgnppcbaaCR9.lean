/- The reference's test whether bytes are the same. -/
import Derived.Test.YtlnfhlmgnppcbaaCRA
import Derived.BigRegion
namespace Go.Proofs.Ytlnfhlmgnppcbaa
open Go.RowKit Go.ChangeShapes Go.WideShapes Go.Deep
set_option linter.unusedVariables false
set_option linter.unusedSimpArgs false
theorem ents_ne_at {n : Nat} {A B : Nat → Nat} {i : Nat} (hi : i < n) (h : A i ≠ B i) : decide (ents A n = ents B n) = false := by
  rw [decide_eq_false_iff_not]
  intro e
  have := congrArg (fun l => l[i]?) e
  simp only [ents_get hi] at this
  exact h (Option.some.inj this)
theorem ents_ne_len {n m : Nat} {A B : Nat → Nat} (h : n ≠ m) : decide (ents A n = ents B m) = false := by
  rw [decide_eq_false_iff_not]
  intro e
  have := congrArg List.length e
  rw [ents_len, ents_len] at this
  exact h this
theorem ents_eq_all {n : Nat} {A B : Nat → Nat} (h : ∀ i, i < n → A i = B i) : decide (ents A n = ents B n) = true := by
  rw [decide_eq_true_iff]
  exact List.map_congr_left fun i hi => h i (List.mem_range.1 hi)
set_option maxRecDepth 4000 in
set_option maxHeartbeats 4000000 in
theorem same59 (a1 : Option Addr) (n c1 : Nat) (A : Nat → Nat) (a2 : Option Addr) (m c2 : Nat) (B : Nat → Nat) (w : World) (h1 : BSl w a1 n c1 A) (h2 : BSl w a2 m c2 B) (hA : ∀ i, i < n → A i < 256) (hB : ∀ i, i < m → B i < 256) : Calls Try.prog 59 #[.slice a1 n c1, .slice a2 m c2] w fun e w' => e = .returned (.bool (decide (ents A n = ents B m))) ∧ Below w.heap.size w w' := by
  have q1 := h1.hm
  have q2 := h1.hc
  have q3 := h2.hm
  have q4 := h2.hc
  have H1 := Lib.hid h1
  have H2 := Lib.hid h2
  have HA := Lib.hid hA
  have HB := Lib.hid hB
  clear h1 h2 hA hB
  by_cases hnm : n = m
  · subst hnm
    have HNE := Lib.hid (fun (i : Nat) (hi : i < n) (h : A i ≠ B i) => ents_ne_at hi h)
    have HEQ := Lib.hid (fun (h : ∀ i, i < n → A i = B i) => ents_eq_all h)
    obtain ⟨r, hr⟩ : ∃ r, r = decide (ents A n = ents B n) := ⟨_, rfl⟩
    rw [← hr] at HNE HEQ ⊢
    clear hr
    go_enter Try.func59, Try.ntmps59
    go_wp2_with fail
    go_loopw [5] (fun s5 wr => ∃ i : Nat, s5 = .int .i64 i ∧ i ≤ n ∧ Hid (Below w.heap.size w wr) ∧ Hid (∀ j, j < i → A j = B j)) (fun s5 _ => n - (intOf s5).toNat)
    case atStart => exact ⟨0, rfl, by omega, Lib.hid (Below.refl _ _), Lib.hid (fun j hj => absurd hj (by omega))⟩
    case round =>
      obtain ⟨i, rfl, hi, BL, hrel⟩ := hrel
      have HREL := hrel
      clear hrel
      by_cases hlt : i < n
      · have ti : (i : Int) < n := by omega
        obtain ⟨g, o, rfl, hg, cA⟩ := BSl.byte (H1.out.below BL.out) hlt
        obtain ⟨g', o', rfl, hg', cB⟩ := BSl.byte (H2.out.below BL.out) hlt
        have BD : Hid (Below w.heap.size w wr.drew) := Lib.hid (BL.out.trans (by (repeat' (first | (with_reducible exact Below.refl _ _) | (with_reducible assumption) | (with_reducible refine Below.drew ?_) | (with_reducible refine below_drewN ?_ _) | (with_reducible refine Below.alloc ?_ ?_ _) | (with_reducible refine Below.setCell ?_ ?_ _) | go_size))))
        have z1 := szs hg
        have z2 := szs hg'
        have HNi := Lib.hid (HNE.out i hlt)
        have HR := Lib.hid (fun (e : A i = B i) (j : Nat) (hj : j < i + 1) => (by
          rcases Nat.lt_succ_iff_lt_or_eq.1 hj with h | h
          · exact HREL.out j h
          · subst h; exact e : A j = B j))
        generalize A i = x at *
        generalize B i = y at *
        by_cases hxy : x = y
        · have HR' := Lib.hid (HR.out hxy)
          have t1 : ((x : Int) == (y : Int)) = true := by simp [hxy]
          clear hxy HR HNi
          go_wp2_with fail
          go_region
          go_wp2_with fail
          go_roundw
          case rel => exact ⟨i + 1, by go_num, by omega, Lib.hid BD.out, HR'⟩
          case measure => simp [intOf]; omega
        · have y1 := HNi.out hxy
          have t1 : ((x : Int) == (y : Int)) = false := by simp; omega
          clear HR HNi
          go_wp2_with fail
          go_region
          go_wp2_with fail
          go_returns
          exact ⟨by rw [y1]; rfl, BD.out⟩
      · obtain rfl : i = n := by omega
        have y1 := HEQ.out HREL.out
        go_wp2_with fail
        go_returns
        exact ⟨by rw [y1]; rfl, BL.out⟩
  · rw [ents_ne_len hnm]
    have hnm' : (n : Int) ≠ (m : Int) := by omega
    go_enter Try.func59, Try.ntmps59
    go_wp2_with fail
    go_returns
    exact ⟨rfl, Below.refl _ _⟩
end Go.Proofs.Ytlnfhlmgnppcbaa
