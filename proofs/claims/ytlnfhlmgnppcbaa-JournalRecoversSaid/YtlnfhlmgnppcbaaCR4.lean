/- The reference's seal; the test of an event's numbers, both sides. -/
import Derived.Test.YtlnfhlmgnppcbaaCR3
import Derived.Test.YtlnfhlmgnppcbaaEC3
namespace Go.Proofs.Ytlnfhlmgnppcbaa
open Go.RowKit Go.ChangeShapes Go.WideShapes Go.Deep
set_option linter.unusedVariables false
set_option linter.unusedSimpArgs false
set_option maxRecDepth 4000 in
set_option maxHeartbeats 4000000 in
theorem seal35 (ao : Option Addr) (n c : Nat) (B : Nat → Nat) (w : World) (h : BSl w ao n c B) (hB : ∀ i, i < n → B i < 256) (hn : n ≤ 65536) : Calls Try.prog 35 #[.slice ao n c] w (BytesE w (sealB (ents B n)) 0) := by
  have HS := Lib.hid h
  have HB := Lib.hid hB
  have CP := Lib.hid (putInt52 none 0 0 (fun _ => 0) (n : Int) w (BSl.none w) (by omega) ⟨by omega, by omega⟩)
  have HL := Lib.hid (codeN_len (n := (n : Int)) (by omega) (by omega))
  have hni : (n : Int) ≤ 65536 := by omega
  clear h hB
  go_enter Try.func35, Try.ntmps35
  go_wp2_with fail
  refine CP.out.mono ?_
  rintro e w1 ⟨v1, k1, R1, rfl, l1, r1, b1⟩
  have hk1 : k1 ≤ 10 := by
    have := congrArg List.length l1
    have := HL.out
    simp [ents_len] at *
    omega
  have L1 := Lib.hid l1
  have RR1 := Lib.hid r1
  have B1 := Lib.hid b1
  clear CP l1 r1 b1
  go_wp2_with (at_builtin; refine wpList_append_B w1 rfl _ _ rfl w.heap.size _ k1 R1 rfl RR1.out ao n c B rfl (HS.out.below B1.out) (by omega) B1.out.size ?_)
  intro v2 w2 R2 r2 l2 b2
  have L2 := Lib.hid l2
  have RR2 := Lib.hid r2
  have B2 := Lib.hid (B1.out.trans b2)
  clear l2 r2 b2
  have CS := Lib.hid (sum54 ao n c B w2 (HS.out.below B2.out) HB.out)
  have hs := sumB_lt (ents B n)
  obtain ⟨s, hs'⟩ : ∃ s, s = sumB (ents B n) := ⟨_, rfl⟩
  rw [← hs'] at hs CS
  have SS := Lib.hid hs'
  clear hs'
  have CT := Lib.hid (tail53 s hs w2)
  go_wp2_with fail
  refine CS.out.mono ?_
  rintro e w2' ⟨rfl, rfl⟩
  clear CS
  go_wp2_with fail
  refine CT.out.mono ?_
  rintro e w3 ⟨v3, k3, R3, rfl, l3, r3, b3⟩
  have hk3 : k3 ≤ 4 := by
    have := congrArg List.length l3
    simp [ents_len, tailB_len] at this
    omega
  obtain ⟨a3, c3, rfl, s3⟩ := BRow.toSl r3
  have L3 := Lib.hid l3
  have S3 := Lib.hid s3
  have RR3 := Lib.hid (RR2.out.below b3)
  have B3 := Lib.hid (B2.out.trans (b3.mono B2.out.size))
  clear CT l3 r3 b3 s3
  go_wp2_with (at_builtin; refine wpList_append_B w3 rfl _ _ rfl w.heap.size _ (k1 + n) R2 rfl RR3.out a3 k3 c3 R3 rfl S3.out (by omega) B3.out.size ?_)
  intro v4 w4 R4 r4 l4 b4
  have L4 := Lib.hid l4
  have RR4 := Lib.hid r4
  have B4 := Lib.hid (B3.out.trans b4)
  clear l4 r4 b4
  go_wp2_with fail
  go_returns
  refine ⟨_, _, R4, rfl, ?_, RR4.out, B4.out⟩
  rw [L4.out, L2.out, L1.out, L3.out, SS.out]
  unfold sealB
  simp [ents_len, ents]
end Go.Proofs.Ytlnfhlmgnppcbaa
