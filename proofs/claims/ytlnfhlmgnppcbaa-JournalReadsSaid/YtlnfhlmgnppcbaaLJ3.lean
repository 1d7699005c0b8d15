/- The law JournalReads. -/
import Derived.Test.YtlnfhlmgnppcbaaAWJ
namespace Go.Proofs.Ytlnfhlmgnppcbaa
open Go.RowKit Go.ChangeShapes Go.WideShapes Go.Deep
set_option linter.unusedVariables false
set_option linter.unusedSimpArgs false
set_option maxRecDepth 4000 in
set_option maxHeartbeats 4000000 in
theorem run_journalReads {H : Type} {enc : TypeId × Value → H} (W : World) (base : Nat) (v0 : Value) (d0 : DataW H) (p0 : List MemPlace) (hv0 : Value.okWide Try.prog W .any base 22 v0) (h0 : DataW.Trod enc Try.prog W 0 (fun _ => true) true 22 v0 d0 p0) :
    Calls Try.prog 5 #[v0] W fun e w' => e = .returned (.bool true) ∧ Below W.heap.size W w' := by
  obtain ⟨ao, n, c, B, rfl, hs, hB⟩ := open_bytes hv0 h0
  clear hv0 h0
  have AW := Lib.hid (fun w' => awake12 w')
  have hmc := hs.hm
  have hcc := hs.hc
  by_cases hn : 4000 < n
  · have tn : (4000 : Int) < (n : Int) := by omega
    go_enter Try.func5, Try.ntmps5
    go_wp2_with fail
    refine (AW.out _).mono ?_
    rintro e w1 ⟨rfl, b1⟩
    have B1 := Lib.hid b1
    clear b1
    go_wp2_with fail
    go_returns
    exact ⟨rfl, B1.out⟩
  · have tn : (n : Int) ≤ 4000 := by omega
    have N1 := Lib.hid (fun w' (hb : Below W.heap.size W w') => read17 ao n c B w' (hs.below hb) hB (by omega))
    have N2 := Lib.hid (fun w' (hb : Below W.heap.size W w') => read18 ao n c B w' (hs.below hb) hB (by omega))
    have N3 := Lib.hid (fun w' (hb : Below W.heap.size W w') => repair19 ao n c B w' (hs.below hb) hB (by omega))
    have N4 := Lib.hid (fun w' (hb : Below W.heap.size W w') => repair20 ao n c B w' (hs.below hb) hB (by omega))
    obtain ⟨⟨l, x⟩, hX⟩ : ∃ X, X = readE (ents B n) := ⟨_, rfl⟩
    obtain ⟨⟨m, y⟩, hY⟩ : ∃ Y, Y = repairE (ents B n) := ⟨_, rfl⟩
    rw [← hX] at N1 N2
    rw [← hY] at N3 N4
    dsimp only at N1 N2 N3 N4
    clear hX hY hs hB
    have te : (x == x) = true := by simp
    have te2 : (y == y) = true := by simp
    go_enter Try.func5, Try.ntmps5
    go_wp2_with fail
    refine (N1.out _ (Below.refl _ _)).mono ?_
    rintro e w1 ⟨u1, k1, E1, rfl, l1, r1, b1⟩
    obtain ⟨a1, c1, rfl, s1⟩ := EvRow.toSl r1
    have B1 := Lib.hid b1
    have S1 := Lib.hid s1
    have L1 := Lib.hid l1
    clear N1 r1 b1 s1 l1
    go_wp2_with fail
    refine (N2.out _ B1.out).mono ?_
    rintro e w2 ⟨u2, k2, E2, rfl, l2, r2, b2⟩
    obtain ⟨a2, c2, rfl, s2⟩ := EvRow.toSl r2
    have B2 := Lib.hid (B1.out.trans (b2.mono B1.out.size))
    have S1 := Lib.hid (S1.out.below b2)
    have S2 := Lib.hid s2
    have L2 := Lib.hid l2
    clear N2 r2 b2 s2 l2
    go_wp2_with fail
    refine (N3.out _ B2.out).mono ?_
    rintro e w3 ⟨u3, k3, R3, rfl, l3, r3, b3⟩
    obtain ⟨a3, c3, rfl, s3⟩ := BRow.toSl r3
    have B3 := Lib.hid (B2.out.trans (b3.mono B2.out.size))
    have S1 := Lib.hid (S1.out.below b3)
    have S2 := Lib.hid (S2.out.below b3)
    have S3 := Lib.hid s3
    have L3 := Lib.hid l3
    clear N3 r3 b3 s3 l3
    go_wp2_with fail
    refine (N4.out _ B3.out).mono ?_
    rintro e w4 ⟨u4, k4, R4, rfl, l4, r4, b4⟩
    obtain ⟨a4, c4, rfl, s4⟩ := BRow.toSl r4
    have B4 := Lib.hid (B3.out.trans (b4.mono B3.out.size))
    have CE := same21 a1 k1 c1 E1 a2 k2 c2 E2 w4 (S1.out.below b4) (S2.out.below b4)
    rw [L1.out, L2.out, decide_eq_true rfl] at CE
    replace CE := Lib.hid CE
    have S3 := Lib.hid (S3.out.below b4)
    have S4 := Lib.hid s4
    have L4 := Lib.hid l4
    clear N4 r4 b4 s4 l4
    go_wp2_with fail
    refine CE.out.mono ?_
    rintro e w5 ⟨rfl, b5⟩
    have B5 := Lib.hid (B4.out.trans (b5.mono B4.out.size))
    have q1 := convB (S3.out.below b5)
    have q2 := convB (S4.out.below b5)
    rw [L3.out] at q1
    rw [L4.out] at q2
    have EQ : ((strB m).toList == (strB m).toList) = true := by simp
    clear CE b5
    generalize strB m = s at *
    go_wp2_with fail
    refine (AW.out _).mono ?_
    rintro e w6 ⟨rfl, b6⟩
    have B6 := Lib.hid (B5.out.trans (b6.mono B5.out.size))
    clear b6 AW
    go_wp2_with fail
    go_returns
    exact ⟨rfl, B6.out⟩
end Go.Proofs.Ytlnfhlmgnppcbaa
