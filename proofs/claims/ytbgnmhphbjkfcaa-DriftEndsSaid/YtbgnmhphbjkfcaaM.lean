/- The law DriftSound walked. -/
import Derived.Test.YtbgnmhphbjkfcaaI
import Derived.Test.YtbgnmhphbjkfcaaJ
namespace Go.Proofs.Ytbgnmhphbjkfcaa
open Go.RowKit Go.ChangeShapes Go.WideShapes Go.Deep
set_option linter.unusedVariables false
set_option linter.unusedSimpArgs false

theorem el_in (s p d : Int) (h2 : 0 ≤ p) (h3 : p ≤ 100000) (h4 : s * 1000000 ≤ d * (1000000 + p)) (h5 : d * (1000000 - p) ≤ s * 1000000) : elLo s p ≤ d ∧ d ≤ elHi s p := by
  unfold elLo elHi
  exact ⟨Int.ediv_le_of_le_mul (by omega) h4, Int.le_ediv_of_mul_le (by omega) (by omega)⟩
theorem good_al {p t0 t : Int} {x : Sn} (h2 : 0 ≤ p) (h3 : p ≤ 100000) (h : goodN p t0 t x = true) : alLo (syOf x) p t0 ≤ t ∧ t ≤ alHi (syOf x) p t0 := by
  obtain ⟨g1, g2, g3, g4, g5⟩ := goodN_all h
  obtain ⟨a1, b1⟩ := isMom_iff.1 g1
  obtain ⟨a2, b2⟩ := isMom_iff.1 g2
  obtain ⟨a3, b3⟩ := isMom_iff.1 g3
  obtain ⟨a4, b4⟩ := isMom_iff.1 g4
  unfold keepsB at g5
  unfold alLo alHi syOf
  dsimp only
  by_cases hc : x.loc ≤ t0
  · rw [if_neg (by omega)] at g5
    rw [if_pos hc, if_pos hc]
    simp only [kp, Bool.and_eq_true, decide_eq_true_eq] at g5
    obtain ⟨k0, k1, k2⟩ := g5
    have := el_in (t0 - x.loc) p (t - x.tru) h2 h3 k1 k2
    omega
  · rw [if_pos (by omega)] at g5
    rw [if_neg hc, if_neg hc]
    simp only [kp, Bool.and_eq_true, decide_eq_true_eq] at g5
    obtain ⟨k0, k1, k2⟩ := g5
    have := el_in (x.loc - t0) p (x.tru - t) h2 h3 k1 k2
    omega
theorem good_in {p t0 t : Int} {X : Nat → Sn} (h2 : 0 ≤ p) (h3 : p ≤ 100000) (ht : 0 ≤ t ∧ t ≤ 4294943999) : ∀ (n : Nat), (∀ i, i < n → goodN p t0 t (X i) = true) → bLo (fun i => syOf (X i)) p t0 n ≤ t ∧ t ≤ bHi (fun i => syOf (X i)) p t0 n
  | 0, _ => ht
  | n + 1, h => by
    have h1 := good_in h2 h3 ht n (fun i hi => h i (by omega))
    have h4 := good_al h2 h3 (h n (by omega))
    rw [bLo_succ, bHi_succ]
    omega

theorem open_seen {H : Type} {enc : TypeId × Value → H} {W : World} {base : Nat} {v : Value} {d : DataW H} {p : List MemPlace} (hv : Value.okWide Try.prog W .any base 33 v) (h : DataW.Trod enc Try.prog W 0 (fun _ => true) true 33 v d p) :
    ∃ (a : Option Addr) (len cap : Nat) (X : Nat → Sn), v = .slice a len cap ∧ len ≤ cap ∧ cap ≤ 9223372036854775807 ∧ Sn4 W a len X := by
  obtain ⟨a0, len, cap, rfl⟩ := okWide_slice Try.underlying33 hv
  obtain ⟨fuel, hf⟩ := h
  rcases open_slice_fields Try.underlying33 Try.underlying48 (by kernel_rfl) (by kernel_rfl) hf with ⟨hcs, hx⟩ | ⟨a, len', cap', m, D, Pl, hcs, hb, hl, hm, hmm, hx, hi⟩
  · simp [Value.cells] at hcs
    obtain ⟨rfl, rfl, rfl⟩ := hcs
    exact ⟨none, 0, 0, fun _ => ⟨0, 0, 0, 0⟩, rfl, by omega, by omega, fun i hi => absurd hi (by omega)⟩
  · simp [Value.cells] at hcs
    obtain ⟨rfl, rfl, rfl⟩ := hcs
    have hml : len ≤ m := by rw [hmm]; split <;> omega
    have key : ∀ i, ∃ y : Sn, i < len → (W.cell? (a.add (i * 4)) = some (.int .i64 y.loc) ∧ W.cell? (a.add (i * 4 + 1)) = some (.int .i64 y.tru) ∧ W.cell? (a.add (i * 4 + 2)) = some (.int .i64 y.bef) ∧ W.cell? (a.add (i * 4 + 3)) = some (.int .i64 y.aft)) := by
      intro i
      by_cases hil : i < len
      · obtain ⟨ys, n, _, _, hlen, hf'⟩ := hi i (by omega)
        obtain ⟨v0, y0, hc0, _, ht0⟩ := hf' 0 _ rfl
        obtain ⟨v1, y1, hc1, _, ht1⟩ := hf' 1 _ rfl
        obtain ⟨v2, y2, hc2, _, ht2⟩ := hf' 2 _ rfl
        obtain ⟨v3, y3, hc3, _, ht3⟩ := hf' 3 _ rfl
        obtain ⟨n0, e0, _, w0⟩ := DataW.trod_int Try.underlying3 ht0
        obtain ⟨n1, e1, _, w1⟩ := DataW.trod_int Try.underlying3 ht1
        obtain ⟨n2, e2, _, w2⟩ := DataW.trod_int Try.underlying3 ht2
        obtain ⟨n3, e3, _, w3⟩ := DataW.trod_int Try.underlying3 ht3
        simp at e0 e1 e2 e3
        subst e0 e1 e2 e3
        exact ⟨⟨n0, n1, n2, n3⟩, fun _ => ⟨hc0, hc1, hc2, hc3⟩⟩
      · exact ⟨⟨0, 0, 0, 0⟩, fun h => absurd h hil⟩
    obtain ⟨L, hL⟩ := Classical.axiomOfChoice key
    refine ⟨some a, len, cap, L, rfl, hl, by unfold maxLen at hm; omega, fun i hil => ?_⟩
    obtain ⟨h0, h1, h2, h3⟩ := hL i hil
    have ha : a = ⟨a.block, a.off, none⟩ := by
      have h00 := (hL 0 (by omega)).1
      simp [Addr.add] at h00
      exact addr_of_cell h00
    rw [ha] at h0 h1 h2 h3 ⊢
    rw [add_flat] at h0 h1 h2 h3
    exact ⟨a.block, a.off, rfl, h0, by rw [Nat.add_assoc]; exact h1, by rw [Nat.add_assoc]; exact h2, by rw [Nat.add_assoc]; exact h3⟩

set_option maxHeartbeats 2000000 in
theorem run_driftSound {H : Type} {enc : TypeId × Value → H} (W : World) (base : Nat) (v0 : Value) (d0 : DataW H) (p0 : List MemPlace) (hv0 : Value.okWide Try.prog W .any base 33 v0) (h0 : DataW.Trod enc Try.prog W 0 (fun _ => true) true 33 v0 d0 p0)
    (v1 : Value) (d1 : DataW H) (p1 : List MemPlace) (hv1 : Value.okWide Try.prog W .any base 3 v1) (h1 : DataW.Trod enc Try.prog W 0 (fun _ => true) true 3 v1 d1 p1)
    (v2 : Value) (d2 : DataW H) (p2 : List MemPlace) (hv2 : Value.okWide Try.prog W .any base 3 v2) (h2 : DataW.Trod enc Try.prog W 0 (fun _ => true) true 3 v2 d2 p2)
    (v3 : Value) (d3 : DataW H) (p3 : List MemPlace) (hv3 : Value.okWide Try.prog W .any base 3 v3) (h3 : DataW.Trod enc Try.prog W 0 (fun _ => true) true 3 v3 d3 p3) :
    Calls Try.prog 5 #[v0, v1, v2, v3] W fun e w' => e = .returned (.bool true) ∧ Below W.heap.size W w' := by
  obtain ⟨a, len, cap, X, rfl, hl, hm, hS⟩ := open_seen hv0 h0
  obtain ⟨p, rfl, rfl, rfl, _⟩ := open_int Try.underlying3 hv1 h1
  obtain ⟨t0, rfl, rfl, rfl, _⟩ := open_int Try.underlying3 hv2 h2
  obtain ⟨t, rfl, rfl, rfl, _⟩ := open_int Try.underlying3 hv3 h3
  clear hv0 hv1 h0 h1 hv2 h2 hv3 h3
  by_cases hin : len ≤ 32 ∧ 0 ≤ p ∧ p ≤ 100000 ∧ isMom t0 = true ∧ isMom t = true
  rotate_left
  · have g : 32 < len ∨ (¬ 32 < len ∧ p < 0) ∨ (¬ 32 < len ∧ ¬ p < 0 ∧ 100000 < p) ∨ (¬ 32 < len ∧ ¬ p < 0 ∧ ¬ 100000 < p ∧ isMom t0 = false) ∨ (¬ 32 < len ∧ ¬ p < 0 ∧ ¬ 100000 < p ∧ isMom t0 = true ∧ isMom t = false) := by
      cases h1 : isMom t0 <;> cases h2 : isMom t <;> simp [h1, h2] at hin ⊢ <;> omega
    clear hin hS
    rcases g with g1 | ⟨g1, g2⟩ | ⟨g1, g2, g3⟩ | ⟨g1, g2, g3, g4⟩ | ⟨g1, g2, g3, g4, g5⟩
    all_goals
      go_enter Try.func5, Try.ntmps5
      go_wp2_with (first | (go_at_call 17; refine (moment17 _ _).mono ?_; rintro e w' ⟨rfl, rfl⟩) | (go_at_call 12; refine (awake12 _).mono ?_; rintro e w5 ⟨rfl, hb5⟩))
      go_returns
      exact ⟨rfl, hb5⟩
  obtain ⟨hlen, q0, q1, g1, g2⟩ := hin
  have m0 := isMom_iff.1 g1
  have m1 := isMom_iff.1 g2
  have k1 : decide ((32 : Int) < (len : Int)) = false := by simp; omega
  have k2 : decide (p < 0) = false := by simp; omega
  have k3 : decide (100000 < p) = false := by simp; omega
  have C := Lib.hid (syncs18 a len cap X p t0 t W hlen ⟨q0, q1⟩ m0 m1 hS)
  clear hS
  go_enter Try.func5, Try.ntmps5
  go_wp2_with (go_at_call 17; refine (moment17 _ _).mono ?_; rintro e w' ⟨rfl, rfl⟩)
  refine C.out.mono ?_
  rintro e w1 ⟨hb1, ⟨_, rfl⟩ | ⟨hg, a', cap', rfl, hn, hm', hsl⟩⟩
  · go_wp2_with (go_at_call 12; refine (awake12 _).mono ?_; rintro e w5 ⟨rfl, hb5⟩)
    go_returns
    exact ⟨rfl, hb1.trans (hb5.mono hb1.size)⟩
  have HL := Lib.hid hsl
  have HI := Lib.hid (good_in q0 q1 m1 len hg)
  clear hsl hg C
  unfold maxLen at hm'
  have D := Lib.hid (check16 a' len cap' (fun i => syOf (X i)) w1 hn (by omega) HL.out)
  by_cases hc : checkE len (fun i => syOf (X i)) = 0
  rotate_left
  · generalize checkE len (fun i => syOf (X i)) = q at *
    have hq : (q == 0) = false := by simpa using hc
    have hq2 : (q != 0) = true := by simpa using hc
    clear hc
    go_wp2_with (first | (go_at_call 16; refine D.out.mono ?_; rintro e w2 ⟨rfl, hb2⟩) | (go_at_call 12; refine (awake12 _).mono ?_; rintro e w5 ⟨rfl, hb5⟩))
    go_returns
    have hb3 := hb1.trans (hb2.mono hb1.size)
    exact ⟨rfl, hb3.trans (hb5.mono hb3.size)⟩
  have E := boundsV_ok hc (isRate_iff.2 ⟨q0, q1⟩) g1 rfl rfl (by have := HI.out; omega)
  have B := fun w h => bounds13 a' len cap' (fun i => syOf (X i)) p t0 w hn (by omega) h
  rw [E] at B
  have D' := D.out
  rw [hc] at D'
  have HD := Lib.hid D'
  have HB := Lib.hid B
  obtain ⟨i1, i2⟩ := HI.out
  generalize bLo (fun i => syOf (X i)) p t0 len = lo at *
  generalize bHi (fun i => syOf (X i)) p t0 len = hi at *
  clear D D' B E hc HI
  go_wp2_with fail
  refine HD.out.mono ?_
  rintro e w2 ⟨rfl, hb2⟩
  have hb3 := hb1.trans (hb2.mono hb1.size)
  have HL2 := Lib.hid (HL.out.kept hb2)
  clear HL hb1 hb2 HD
  go_wp2_with fail
  refine (HB.out _ HL2.out).mono ?_
  rintro e w3 ⟨rfl, hb4⟩
  have hb5 := hb3.trans (hb4.mono hb3.size)
  clear hb3 hb4 HL2 HB
  go_wp2_with (go_at_call 12; refine (awake12 _).mono ?_; rintro e w5 ⟨rfl, hb6⟩)
  go_returns
  exact ⟨rfl, (hb5.alloc hb5.size _).trans (hb6.mono (by have := hb5.size; go_size))⟩
end Go.Proofs.Ytbgnmhphbjkfcaa
