/- The examples of the journal's chapter. Plain theorems, no program. -/
import Derived.Test.YtlnfhlmgnppcbaaBC
namespace Go.Proofs.Ytlnfhlmgnppcbaa
set_option linter.unusedVariables false
def beatE : Ev := ⟨1, 2, 100, 100, 10, 0, 0, 0, 0⟩
theorem codeN_one {n : Int} {u : Nat} (h : zz n = u) (hu : u < 128) : codeN n = [u] := by unfold codeN; rw [h, codeU_small hu]
theorem code_100 : codeN 100 = [200, 1] := by
  unfold codeN
  rw [show zz 100 = 200 by decide, codeU_big (by decide), show 200 / 128 = 1 by decide, codeU_small (by decide)]
theorem enc_beat : encE beatE = [2, 4, 200, 1, 200, 1, 20, 0, 0, 0, 0] := by
  show codeN 1 ++ (codeN 2 ++ (codeN 100 ++ (codeN 100 ++ (codeN 10 ++ (codeN 0 ++ (codeN 0 ++ (codeN 0 ++ (codeN 0 ++ [])))))))) = _
  rw [codeN_one (n := 1) (u := 2) (by decide) (by decide), codeN_one (n := 2) (u := 4) (by decide) (by decide), code_100, codeN_one (n := 10) (u := 20) (by decide) (by decide), codeN_one (n := 0) (u := 0) (by decide) (by decide)]
  rfl
theorem frame_beat : ∃ t : List Nat, frameB beatE = 22 :: 2 :: t ∧ t.length = 14 := by
  unfold frameB sealB
  rw [enc_beat]
  refine ⟨[4, 200, 1, 200, 1, 20, 0, 0, 0, 0] ++ tailB (sumB [2, 4, 200, 1, 200, 1, 20, 0, 0, 0, 0]), ?_, rfl⟩
  rw [show (([2, 4, 200, 1, 200, 1, 20, 0, 0, 0, 0] : List Nat).length : Int) = 11 from rfl, codeN_one (n := 11) (u := 22) (by decide) (by decide)]
  rfl
theorem frame_beat_len : (frameB beatE).length = 16 := by
  obtain ⟨t, h, ht⟩ := frame_beat
  rw [h]; simp [ht]
theorem framed_beat : framedB beatE = true := by decide
theorem write_beats : writeE [beatE, beatE] = (frameB beatE ++ frameB beatE, 0) := by
  unfold writeE
  rw [if_neg (by decide), if_neg (by decide)]
  simp [framesB]
theorem read_beat : readE ((frameB beatE ++ frameB beatE).take 31) = ([beatE], 16) := by
  have h := read_cut (l := [beatE, beatE]) (fun v hv => by simp at hv; subst hv; exact framed_beat) (by decide) (c := 31) (by simp [framesB, frame_beat_len])
  have hw : wholeN [beatE, beatE] 31 = 1 := by
    simp [wholeN, frame_beat_len]
  rw [hw] at h
  have e1 : framesB [beatE, beatE] = frameB beatE ++ frameB beatE := by simp [framesB]
  have e2 : framesB ([beatE, beatE].take 1) = frameB beatE := by simp [framesB]
  rw [e1, e2, frame_beat_len] at h
  exact h
theorem read_none : readE (sealB [0]) = ([], 0) := by
  have h := open_seal (pre := []) (c := [0]) (t := []) (by decide)
  simp only [List.nil_append, List.append_nil, List.length_nil, Nat.zero_add] at h
  have h1 : intE [0] 0 = (0, 1, 0) := by
    unfold intE
    rw [if_neg (by decide)]
    show (if (intF 0 0 [0]).2.2 = 0 then _ else _) = _
    rw [intF_cons]
    rfl
  have h2 : intE [0] 1 = (0, 0, 4) := by
    unfold intE
    rw [if_neg (by decide)]
    show (if (intF 0 0 []).2.2 = 0 then _ else _) = _
    rw [intF_nil]
    rfl
  have hd : decE [0] = (zeroE, 4) := by
    have hr : readL [0] 9 0 [] = ([], 0, 4) := by
      rw [readL_step (by rw [h1]), h1, readL_stop (by rw [h2]; decide), h2]
    unfold decE
    rw [hr]
    rfl
  have h' : openE (sealB [0]) 0 = ([0], (((sealB [0]).length : Nat) : Int), 0) := h
  unfold readE
  rw [readJ_dec (by rw [h']) (by rw [h', hd]; left; decide)]
end Go.Proofs.Ytlnfhlmgnppcbaa
