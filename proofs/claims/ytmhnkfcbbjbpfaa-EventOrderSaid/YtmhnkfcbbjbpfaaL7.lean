/- The law EventJoins. -/
import Derived.Test.YtmhnkfcbbjbpfaaAW2
import Derived.Test.YtmhnkfcbbjbpfaaBC
namespace Go.Proofs.Ytmhnkfcbbjbpfaa
open Go.RowKit Go.ChangeShapes Go.WideShapes Go.Deep
set_option linter.unusedVariables false
set_option linter.unusedSimpArgs false
theorem cat_evs (A : Nat → Ev) (n : Nat) (B : Nat → Ev) : cat (fun i => evs (A i)) n (fun i => evs (B i)) = fun i => evs (if i < n then A i else B (i - n)) := by
  funext i
  unfold cat
  split <;> rfl
/-- One slice behind another, behind an empty row: what the second append leaves. -/
theorem EvRow.cat {w : World} {base : Nat} {v : Value} {n m : Nat} {A B : Nat → Ev} (h : Row w base 26 9 v (n + m) (cat (fun i => evs (A i)) n (fun i => evs (B i)))) : EvRow w base v (n + m) (fun i => if i < n then A i else B (i - n)) := by
  rw [cat_evs] at h
  exact h
theorem ents_join {E : Type} (A : Nat → E) (n m : Nat) (B : Nat → E) : ents (fun i => if i < n then A i else B (i - n)) (n + m) = ents A n ++ ents B m := by
  apply List.ext_getElem?
  intro q
  by_cases h1 : q < n
  · rw [ents_get (by omega), List.getElem?_append_left (by rw [ents_len]; omega), ents_get h1]; simp [h1]
  · rw [List.getElem?_append_right (by rw [ents_len]; omega), ents_len]
    by_cases h2 : q < n + m
    · rw [ents_get h2, ents_get (by omega)]; simp [h1]
    · rw [List.getElem?_eq_none (by rw [ents_len]; omega), List.getElem?_eq_none (by rw [ents_len]; omega)]
set_option maxRecDepth 4000 in
set_option maxHeartbeats 4000000 in
theorem run_eventJoins {H : Type} {enc : TypeId × Value → H} (W : World) (base : Nat) (v0 : Value) (d0 : DataW H) (p0 : List MemPlace) (hv0 : Value.okWide Try.prog W .any base 34 v0) (h0 : DataW.Trod enc Try.prog W 0 (fun _ => true) true 34 v0 d0 p0)
    (v1 : Value) (d1 : DataW H) (p1 : List MemPlace) (hv1 : Value.okWide Try.prog W .any base 34 v1) (h1 : DataW.Trod enc Try.prog W 0 (fun _ => true) true 34 v1 d1 p1) :
    Calls Try.prog 8 #[v0, v1] W fun e w' => e = .returned (.bool true) ∧ Below W.heap.size W w' := by
  obtain ⟨a1, n, c1, A, rfl, hs1, _⟩ := open_events hv0 h0
  obtain ⟨a2, m, c2, B, rfl, hs2, _⟩ := open_events hv1 h1
  clear hv0 h0 hv1 h1
  obtain ⟨i0, hi0, hz0, hz1, hz2⟩ := info_parts infoEv
  have AW := Lib.hid (fun w' => awake14 w')
  have q1 := hs1.hm
  have q2 := hs1.hc
  have q3 := hs2.hm
  have q4 := hs2.hc
  have S1 := Lib.hid hs1
  have S2 := Lib.hid hs2
  clear hs1 hs2
  by_cases hn : 40 < n
  · have tn : (40 : Int) < (n : Int) := by omega
    go_enter Try.func8, Try.ntmps8
    go_wp2_with fail
    refine (AW.out _).mono ?_
    rintro e w1 ⟨rfl, b1⟩
    have B1 := Lib.hid b1
    clear b1
    go_wp2_with fail
    go_returns
    exact ⟨rfl, B1.out⟩
  by_cases hm : 40 < m
  · have tn : (n : Int) ≤ 40 := by omega
    have tm : (40 : Int) < (m : Int) := by omega
    go_enter Try.func8, Try.ntmps8
    go_wp2_with fail
    refine (AW.out _).mono ?_
    rintro e w1 ⟨rfl, b1⟩
    have B1 := Lib.hid b1
    clear b1
    go_wp2_with fail
    go_returns
    exact ⟨rfl, B1.out⟩
  have tn : (n : Int) ≤ 40 := by omega
  have tm : (m : Int) ≤ 40 := by omega
  have B0 : Hid (Below W.heap.size W (W.alloc (.cells #[] 26))) := Lib.hid (by (repeat' (first | (with_reducible exact Below.refl _ _) | (with_reducible assumption) | (with_reducible refine Below.drew ?_) | (with_reducible refine below_drewN ?_ _) | (with_reducible refine Below.alloc ?_ ?_ _) | (with_reducible refine Below.setCell ?_ ?_ _) | go_size)))
  have RY : Hid (Row (W.alloc (.cells #[] 26)) W.heap.size 26 9 (.slice (some ⟨W.heap.size, 0, none⟩) 0 0) 0 (fun i => evs (A i))) := Lib.hid (World.ownsRow_made W #[] 0 (Nat.le_refl _) (Nat.zero_le _) (by simp))
  go_enter Try.func8, Try.ntmps8
  go_wp2_with (at_builtin; go_loud (refine wpList_append_sl _ rfl (.tmp 16) (.tmp 17) 34 rfl W.heap.size 26 i0 _ 9 72 Try.underlying34 hi0 hz0 hz1 hz2 rfl (by decide) _ 0 (fun i => evs (A i)) rfl RY.out (fun i => evs_len _) a1 n c1 (fun i => evs (A i)) rfl (fun i => evs_len _) S1.out.hno (S1.out.sl.below (fun i => evs_len _) B0.out) (fun i => evs_one _) (by omega) (by unfold maxLen; omega) (by have := B0.out.size; omega) ?_))
  intro v1 w1 r1 g1 f1
  have R1 : Hid (Row w1 W.heap.size 26 9 v1 n (fun i => evs (A i))) := Lib.hid (by
    exact Row.congr r1 fun i hi => by simp [cat])
  have B1 : Hid (Below W.heap.size W w1) := Lib.hid (B0.out.trans ((Off.of_grown g1).toBelow B0.out.size (fun q hq h => RY.out.apart hq h)))
  have s1 := B1.out.size
  clear r1 g1 f1 RY B0
  go_wp2_with (at_builtin; go_loud (refine wpList_append_sl _ rfl (.tmp 18) (.tmp 19) 34 rfl W.heap.size 26 i0 _ 9 72 Try.underlying34 hi0 hz0 hz1 hz2 rfl (by decide) _ n (fun i => evs (A i)) rfl R1.out (fun i => evs_len _) a2 m c2 (fun i => evs (B i)) rfl (fun i => evs_len _) S2.out.hno (S2.out.sl.below (fun i => evs_len _) B1.out) (fun i => evs_one _) (by omega) (by unfold maxLen; omega) s1 ?_))
  intro v2 w2 r2 g2 f2
  obtain ⟨bo2, bc2, rfl, T2⟩ := EvRow.toSl (EvRow.cat r2)
  have B2 : Hid (Below W.heap.size W w2) := Lib.hid (B1.out.trans ((Off.of_grown g2).toBelow s1 (fun q hq h => R1.out.apart hq h)))
  have C1 := Lib.hid (set22 bo2 (n + m) bc2 _ w2 T2 (by omega))
  clear r2 g2 f2 R1 s1 B1 T2
  go_wp2_with fail
  refine C1.out.mono ?_
  rintro e w3 ⟨v, k, X, rfl, hX, hrow, hb⟩
  obtain ⟨xo, xc, rfl, SX⟩ := EvRow.toSl hrow
  rw [ents_join] at hX
  have HX := Lib.hid hX
  have B3 := Lib.hid (B2.out.trans (hb.mono B2.out.size))
  have SX3 := Lib.hid SX
  have hcx := SX.hm
  clear hX hrow hb SX C1 B2
  have bA : Below w3.heap.size w3 (w3.alloc (.cells #[] 26)) := by (repeat' (first | (with_reducible exact Below.refl _ _) | (with_reducible assumption) | (with_reducible refine Below.drew ?_) | (with_reducible refine below_drewN ?_ _) | (with_reducible refine Below.alloc ?_ ?_ _) | (with_reducible refine Below.setCell ?_ ?_ _) | go_size))
  have RZ0 : Row (w3.alloc (.cells #[] 26)) w3.heap.size 26 9 (.slice (some ⟨w3.heap.size, 0, none⟩) 0 0) 0 (fun i => evs (B i)) := World.ownsRow_made w3 #[] 0 (Nat.le_refl _) (Nat.zero_le _) (by simp)
  have C2 := Lib.hid (set22 a2 m c2 B (w3.alloc (.cells #[] 26)) (S2.out.below (B3.out.trans (bA.mono B3.out.size))) (by omega))
  go_wp2_with fail
  refine C2.out.mono ?_
  rintro e w4 ⟨v, k2, Y, rfl, hY, hrow, hb⟩
  obtain ⟨yo, yc, rfl, SY⟩ := EvRow.toSl hrow
  have RZ : Hid (Row w4 w3.heap.size 26 9 (.slice (some ⟨w3.heap.size, 0, none⟩) 0 0) 0 (fun i => evs (B i))) := Lib.hid (Row.off (X := fun _ => False) RZ0 (Off.of_below hb) (fun _ _ h => h))
  have b34 := bA.trans (hb.mono bA.size)
  have SY4 := Lib.hid SY
  have Z4 := Lib.hid b34
  have HY := Lib.hid hY
  have hk2 : k2 ≤ m := by
    have h1 := setE_len (ents B m)
    rw [← hY, ents_len, ents_len] at h1
    exact h1
  have sz : w3.heap.size ≤ w4.heap.size := b34.size
  clear hY hrow hb SY C2 bA b34 RZ0
  go_wp2_with (at_builtin; go_loud (refine wpList_append_sl _ rfl (.tmp 22) (.tmp 24) 34 rfl w3.heap.size 26 i0 _ 9 72 Try.underlying34 hi0 hz0 hz1 hz2 rfl (by decide) _ 0 (fun i => evs (Y i)) rfl (Row.congr RZ.out (fun i hi => absurd hi (by omega))) (fun i => evs_len _) yo k2 yc (fun i => evs (Y i)) rfl (fun i => evs_len _) SY4.out.hno SY4.out.sl (fun i => evs_one _) (by omega) (by unfold maxLen; omega) sz ?_))
  intro v5 w5 r5 g5 f5
  have R5 : Hid (Row w5 w3.heap.size 26 9 v5 k2 (fun i => evs (Y i))) := Lib.hid (by
    exact Row.congr r5 fun i hi => by simp [cat])
  have Z5 : Hid (Below w3.heap.size w3 w5) := Lib.hid (Z4.out.trans ((Off.of_grown g5).toBelow sz (fun q hq h => RZ.out.apart hq h)))
  have sz5 : w3.heap.size ≤ w5.heap.size := Z5.out.size
  have C3 := Lib.hid (set22 a1 n c1 A w5 (S1.out.below (B3.out.trans (Z5.out.mono B3.out.size))) (by omega))
  clear r5 g5 f5 RZ Z4 SY4 sz
  go_wp2_with fail
  refine C3.out.mono ?_
  rintro e w6 ⟨v, k3, Z, rfl, hZ, hrow, hb⟩
  obtain ⟨zo, zc, rfl, SZ⟩ := EvRow.toSl hrow
  have R6 : Hid (Row w6 w3.heap.size 26 9 v5 k2 (fun i => evs (Y i))) := Lib.hid (Row.off (X := fun _ => False) R5.out (Off.of_below hb) (fun _ _ h => h))
  have Z6 := Lib.hid (Z5.out.trans (hb.mono Z5.out.size))
  have SZ6 := Lib.hid SZ
  have HZ := Lib.hid hZ
  have hk3 : k3 ≤ n := by
    have h1 := setE_len (ents A n)
    rw [← hZ, ents_len, ents_len] at h1
    exact h1
  have sz6 : w3.heap.size ≤ w6.heap.size := Z6.out.size
  clear hZ hrow hb SZ C3 R5 Z5 sz5
  go_wp2_with (at_builtin; go_loud (refine wpList_append_sl _ rfl (.tmp 25) (.tmp 27) 34 rfl w3.heap.size 26 i0 _ 9 72 Try.underlying34 hi0 hz0 hz1 hz2 rfl (by decide) _ k2 (fun i => evs (Y i)) rfl R6.out (fun i => evs_len _) zo k3 zc (fun i => evs (Z i)) rfl (fun i => evs_len _) SZ6.out.hno SZ6.out.sl (fun i => evs_one _) (by omega) (by unfold maxLen; omega) sz6 ?_))
  intro v7 w7 r7 g7 f7
  obtain ⟨bo7, bc7, rfl, T7⟩ := EvRow.toSl (EvRow.cat r7)
  have Z7 : Hid (Below w3.heap.size w3 w7) := Lib.hid (Z6.out.trans ((Off.of_grown g7).toBelow sz6 (fun q hq h => R6.out.apart hq h)))
  have C4 := Lib.hid (set22 bo7 (k2 + k3) bc7 _ w7 T7 (by omega))
  clear r7 g7 f7 R6 Z6 SZ6 T7 sz6
  go_wp2_with fail
  refine C4.out.mono ?_
  rintro e w8 ⟨v, k4, U, rfl, hU, hrow, hb⟩
  obtain ⟨uo, uc, rfl, SU⟩ := EvRow.toSl hrow
  rw [ents_join, HY.out, HZ.out, setE_join, ← HX.out] at hU
  have Z8 := Lib.hid (Z7.out.trans (hb.mono Z7.out.size))
  have SX8 := Lib.hid (SX3.out.below Z8.out)
  have C5 := same21 xo k xc X uo k4 uc U w8 SX8.out SU
  rw [decide_eq_true hU.symm] at C5
  replace C5 := Lib.hid C5
  have C6 := Lib.hid (fun w' (hb : Below w8.heap.size w8 w') => set22 xo k xc X w' (SX8.out.below hb) (by
    have h1 := setE_len (ents A n ++ ents B m)
    rw [← HX.out, List.length_append, ents_len, ents_len, ents_len] at h1
    omega))
  have B8 := Lib.hid (B3.out.trans (Z8.out.mono B3.out.size))
  clear hU hrow hb C4 SU SX3 Z7 Z8
  go_wp2_with fail
  refine C5.out.mono ?_
  rintro e w9 ⟨rfl, b9⟩
  have Y9 := Lib.hid b9
  clear C5 b9
  go_wp2_with fail
  refine (C6.out _ Y9.out).mono ?_
  rintro e w10 ⟨v, k5, T, rfl, hT, hrow, hb⟩
  obtain ⟨to, tc, rfl, ST⟩ := EvRow.toSl hrow
  have Y10 := Lib.hid (Y9.out.trans (hb.mono Y9.out.size))
  have C7 := same21 to k5 tc T xo k xc X w10 ST (SX8.out.below Y10.out)
  rw [decide_eq_true (hT.trans (by rw [HX.out, setE_idem]))] at C7
  replace C7 := Lib.hid C7
  clear hT hrow hb C6 ST Y9
  go_wp2_with fail
  refine C7.out.mono ?_
  rintro e w11 ⟨rfl, b11⟩
  have Y11 := Lib.hid (Y10.out.trans (b11.mono Y10.out.size))
  clear C7 b11
  go_wp2_with fail
  refine (AW.out _).mono ?_
  rintro e w12 ⟨rfl, b12⟩
  have Y12 := Lib.hid (Y11.out.trans (b12.mono Y11.out.size))
  clear b12
  go_wp2_with fail
  go_returns
  exact ⟨rfl, B8.out.trans (Y12.out.mono B8.out.size)⟩
end Go.Proofs.Ytmhnkfcbbjbpfaa
