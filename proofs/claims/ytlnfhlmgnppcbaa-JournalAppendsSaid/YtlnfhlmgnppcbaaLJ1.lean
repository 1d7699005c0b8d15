/- The law JournalAppends. -/
import Derived.Test.YtlnfhlmgnppcbaaAWJ
namespace Go.Proofs.Ytlnfhlmgnppcbaa
open Go.RowKit Go.ChangeShapes Go.WideShapes Go.Deep
set_option linter.unusedVariables false
set_option linter.unusedSimpArgs false
set_option maxRecDepth 4000 in
set_option maxHeartbeats 4000000 in
theorem run_journalAppends {H : Type} {enc : TypeId × Value → H} (W : World) (base : Nat) (v0 : Value) (d0 : DataW H) (p0 : List MemPlace) (hv0 : Value.okWide Try.prog W .any base 22 v0) (h0 : DataW.Trod enc Try.prog W 0 (fun _ => true) true 22 v0 d0 p0)
    (v1 : Value) (d1 : DataW H) (p1 : List MemPlace) (hv1 : Value.okWide Try.prog W .any base 24 v1) (h1 : DataW.Trod enc Try.prog W 0 (fun _ => true) true 24 v1 d1 p1) :
    Calls Try.prog 3 #[v0, v1] W fun e w' => e = .returned (.bool true) ∧ Below W.heap.size W w' := by
  obtain ⟨ao, n, c, B, rfl, hs, hB⟩ := open_bytes hv0 h0
  obtain ⟨v, rfl, hv⟩ := open_event hv1 h1
  clear hv0 h0 hv1 h1
  have AW := Lib.hid (fun w' => awake12 w')
  have hmc := hs.hm
  have hcc := hs.hc
  have HS := Lib.hid hs
  have HBY := Lib.hid (fun h => framed_encode (v := v) h)
  have X0 := Lib.hid (heap_alloc_new W (.cells (eC v) 24))
  have B0 : Hid (Below W.heap.size W (W.alloc (.cells (eC v) 24))) := Lib.hid (by (repeat' (first | (with_reducible exact Below.refl _ _) | (with_reducible assumption) | (with_reducible refine Below.drew ?_) | (with_reducible refine below_drewN ?_ _) | (with_reducible refine Below.alloc ?_ ?_ _) | (with_reducible refine Below.setCell ?_ ?_ _) | go_size)))
  by_cases hn : 2000 < n
  · have tn : (2000 : Int) < (n : Int) := by omega
    obtain ⟨v1, v2, v3, v4, v5, v6, v7, v8, v9⟩ := v
    unfold eC at *
    dsimp only at X0 B0 ⊢
    generalize hwb : W.alloc _ = wb at X0 B0
    have HW := Lib.hid hwb
    clear hwb
    go_enter Try.func3, Try.ntmps3
    go_wp2_with fail
    rw [HW.out]
    refine (AW.out _).mono ?_
    rintro e w1 ⟨rfl, b1⟩
    have B1 := Lib.hid (B0.out.trans (b1.mono B0.out.size))
    clear b1
    go_wp2_with fail
    go_returns
    exact ⟨rfl, B1.out⟩
  · have tn : (n : Int) ≤ 2000 := by omega
    have N1 := Lib.hid (fun w' (hb : Below W.heap.size W w') => append13 ao n c B v w' (hs.below hb) (by omega))
    have N2 := Lib.hid (fun w' (hb : Below W.heap.size W w') => append14 ao n c B v w' (hs.below hb) (by omega))
    obtain ⟨⟨l, x⟩, hX⟩ : ∃ X, X = appendE (ents B n) v := ⟨_, rfl⟩
    rw [← hX] at N1 N2
    dsimp only at N1 N2
    clear hX hs
    obtain ⟨v1, v2, v3, v4, v5, v6, v7, v8, v9⟩ := v
    unfold eC at *
    dsimp only at N1 N2 X0 B0 ⊢
    obtain ⟨wb, hwb⟩ : ∃ wb, wb = W.alloc (.cells #[.int .i64 v1, .int .i64 v2, .int .i64 v3, .int .i64 v4, .int .i64 v5, .int .i64 v6, .int .i64 v7, .int .i64 v8, .int .i64 v9] 24) := ⟨_, rfl⟩
    rw [← hwb] at X0 B0
    have HW := Lib.hid hwb
    clear hwb
    have te : (x == x) = true := by simp
    go_enter Try.func3, Try.ntmps3
    go_wp2_with fail
    rw [← HW.out]
    refine (N1.out _ B0.out).mono ?_
    rintro e w1 ⟨u1, k1, R1, rfl, l1, r1, b1⟩
    obtain ⟨a1, c1, rfl, s1⟩ := BRow.toSl r1
    have B1 := Lib.hid (B0.out.trans (b1.mono B0.out.size))
    have X1 := (b1.block _ (block_lt X0.out)).trans X0.out
    have k0 := cell_at X1 0
    have k1 := cell_at X1 1
    have k2 := cell_at X1 2
    have k3 := cell_at X1 3
    have k4 := cell_at X1 4
    have k5 := cell_at X1 5
    have k6 := cell_at X1 6
    have k7 := cell_at X1 7
    have k8 := cell_at X1 8
    have zx := szs (block_lt X1)
    have S1 := Lib.hid s1
    have L1 := Lib.hid l1
    clear N1 HW r1 b1 s1 l1 X1
    go_wp2_with fail
    refine (N2.out _ B1.out).mono ?_
    rintro e w2 ⟨u2, k2, R2, rfl, l2, r2, b2⟩
    obtain ⟨a2, c2, rfl, s2⟩ := BRow.toSl r2
    have B2 := Lib.hid (B1.out.trans (b2.mono B1.out.size))
    have q1 := convB (S1.out.below b2)
    have q2 := convB s2
    rw [L1.out] at q1
    rw [l2] at q2
    have EQ : ((strB l).toList == (strB l).toList) = true := by simp
    clear N2 r2 b2 s2 l2 L1 S1 zx
    generalize strB l = s at *
    go_wp2_with fail
    refine (AW.out _).mono ?_
    rintro e w3 ⟨rfl, b3⟩
    have B3 := Lib.hid (B2.out.trans (b3.mono B2.out.size))
    clear b3 AW
    go_wp2_with fail
    go_returns
    exact ⟨rfl, B3.out⟩
end Go.Proofs.Ytlnfhlmgnppcbaa
