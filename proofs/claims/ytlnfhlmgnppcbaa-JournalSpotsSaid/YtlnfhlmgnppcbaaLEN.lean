/- How long the frames of events are; how many stand whole before a cut. -/
import Derived.Test.YtlnfhlmgnppcbaaWR3
namespace Go.Proofs.Ytlnfhlmgnppcbaa
open Go.RowKit Go.ChangeShapes Go.WideShapes Go.Deep
set_option linter.unusedVariables false
set_option linter.unusedSimpArgs false
theorem frameB_pos (v : Ev) : 4 ≤ (frameB v).length := by unfold frameB; rw [sealB_len]; omega
theorem frames_len_snoc (l : List Ev) (v : Ev) : (framesB (l ++ [v])).length = (framesB l).length + (frameB v).length := by
  rw [framesB_app, List.length_append]
  show _ + (frameB v ++ []).length = _
  rw [List.append_nil]
theorem wholeN_snoc : ∀ (l : List Ev) (v : Ev) (c : Nat), wholeN (l ++ [v]) c = if wholeN l c = l.length ∧ (framesB l).length + (frameB v).length ≤ c then l.length + 1 else wholeN l c
  | [], v, c => by simp [wholeN, framesB]
  | u :: l, v, c => by
    have ih := wholeN_snoc l v (c - (frameB u).length)
    show wholeN (u :: (l ++ [v])) c = _
    have e : (framesB (u :: l)).length = (frameB u).length + (framesB l).length := by simp [framesB]
    by_cases h : (frameB u).length ≤ c
    · have w1 : wholeN (u :: (l ++ [v])) c = wholeN (l ++ [v]) (c - (frameB u).length) + 1 := by rw [wholeN, if_pos h]
      have w2 : wholeN (u :: l) c = wholeN l (c - (frameB u).length) + 1 := by rw [wholeN, if_pos h]
      rw [w1, w2, ih, e, List.length_cons]
      by_cases hc : wholeN l (c - (frameB u).length) = l.length ∧ (framesB l).length + (frameB v).length ≤ c - (frameB u).length
      · rw [if_pos hc, if_pos (by omega)]
      · rw [if_neg hc, if_neg (by omega)]
    · have w1 : wholeN (u :: (l ++ [v])) c = 0 := by rw [wholeN, if_neg h]
      have w2 : wholeN (u :: l) c = 0 := by rw [wholeN, if_neg h]
      rw [w1, w2, if_neg (by simp)]
theorem frames_take_lt {l : List Ev} {a b : Nat} (h : a < b) (hb : b ≤ l.length) : (framesB (l.take a)).length < (framesB (l.take b)).length := by
  have e : l.take b = l.take a ++ (l.drop a).take (b - a) := by rw [← List.take_add, show a + (b - a) = b by omega]
  rw [e, framesB_app, List.length_append]
  have hd : (l.drop a).take (b - a) ≠ [] := fun h0 => by
    have := congrArg List.length h0
    rw [List.length_take, List.length_drop] at this
    simp at this
    omega
  cases hx : (l.drop a).take (b - a) with
  | nil => exact absurd hx hd
  | cons v t =>
    have := frameB_pos v
    have : (framesB (v :: t)).length = (frameB v).length + (framesB t).length := by simp [framesB]
    omega
/-- Another event: is it whole before the cut, too? -/
theorem count_step {F : Nat → Ev} {n i : Nat} (hi : i < n) (c : Nat) :
    ((framesB ((ents F n).take (wholeN ((ents F n).take i) c))).length = (framesB ((ents F n).take i)).length ∧ (framesB ((ents F n).take (wholeN ((ents F n).take i) c))).length + (frameB (F i)).length ≤ c → wholeN ((ents F n).take (i + 1)) c = wholeN ((ents F n).take i) c + 1 ∧
      (framesB ((ents F n).take (wholeN ((ents F n).take (i + 1)) c))).length = (framesB ((ents F n).take (wholeN ((ents F n).take i) c))).length + (frameB (F i)).length) ∧
    (¬ ((framesB ((ents F n).take (wholeN ((ents F n).take i) c))).length = (framesB ((ents F n).take i)).length ∧ (framesB ((ents F n).take (wholeN ((ents F n).take i) c))).length + (frameB (F i)).length ≤ c) → wholeN ((ents F n).take (i + 1)) c = wholeN ((ents F n).take i) c) := by
  have hl : ((ents F n).take i).length = i := by rw [List.length_take, ents_len]; omega
  have hs := take_snoc_ev (F := F) hi
  have hw := wholeN_snoc ((ents F n).take i) (F i) c
  rw [← hs, hl] at hw
  have hle := wholeN_le ((ents F n).take i) c
  rw [hl] at hle
  generalize hk : wholeN ((ents F n).take i) c = k at *
  have key : (framesB ((ents F n).take k)).length = (framesB ((ents F n).take i)).length ↔ k = i := by
    constructor
    · intro h
      rcases Nat.lt_or_ge k i with h1 | h1
      · have := frames_take_lt (l := ents F n) h1 (by rw [ents_len]; omega)
        omega
      · omega
    · rintro rfl; rfl
  constructor
  · rintro ⟨h1, h2⟩
    obtain rfl := key.1 h1
    rw [hw, if_pos ⟨rfl, h2⟩]
    refine ⟨rfl, ?_⟩
    rw [hs, frames_len_snoc]
  · intro h
    rw [hw, if_neg]
    rintro ⟨rfl, h2⟩
    exact h ⟨rfl, h2⟩
set_option maxRecDepth 4000 in
set_option maxHeartbeats 4000000 in
theorem lengths24 (ao : Option Addr) (n c : Nat) (F : Nat → Ev) (w : World) (h : EvSl w ao n c F) (hn : n ≤ 1000) (hf : ∀ i, i < n → framedB (F i) = true) : Calls Try.prog 24 #[.slice ao n c] w fun e w' => e = .returned (.int .i64 ((framesB (ents F n)).length : Int)) ∧ Below w.heap.size w w' := by
  have HS := Lib.hid h
  have hmc := h.hm
  have hcc := h.hc
  have HF := Lib.hid hf
  have HSN := Lib.hid (fun (j : Nat) (hj : j < n) => (by rw [take_snoc_ev hj, frames_len_snoc] : (framesB ((ents F n).take (j + 1))).length = (framesB ((ents F n).take j)).length + (frameB (F j)).length))
  have HLEN : Hid (∀ j, j ≤ n → (framesB ((ents F n).take j)).length ≤ 104000) := Lib.hid (by
    intro j hj
    have h1 := framesB_len (l := (ents F n).take j) (fun v hv => by
      obtain ⟨i, hi, rfl⟩ := mem_ents.1 (List.mem_of_mem_take hv)
      exact hf i hi)
    have h2 : ((ents F n).take j).length ≤ 1000 := by rw [List.length_take]; omega
    have := Nat.mul_le_mul_left 104 h2
    omega)
  have HTK : Hid ((ents F n).take n = ents F n) := Lib.hid (List.take_of_length_le (by rw [ents_len]; omega))
  generalize ents F n = L at *
  clear h hf
  go_enter Try.func24, Try.ntmps24
  go_wp2_with fail
  go_loopw [3, 4] (fun s3 s4 wr => ∃ j : Nat, s4 = .int .i64 j ∧ j ≤ n ∧ s3 = .int .i64 ((framesB (L.take j)).length : Int) ∧ Hid (Below w.heap.size w wr)) (fun _ s4 _ => n - (intOf s4).toNat)
  case atStart => exact ⟨0, rfl, by omega, rfl, Lib.hid (Below.refl _ _)⟩
  case round =>
    obtain ⟨j, rfl, hj, rfl, hb⟩ := hrel
    have BW := hb
    clear hb
    by_cases hlt : j < n
    · have tj : (j : Int) < (n : Int) := by omega
      obtain ⟨g, o, rfl, hg, ea⟩ := evs_at (HS.out.below BW.out) hlt
      have HIN := framed_in (HF.out j hlt)
      have HEL := encE_len HIN
      have HEB := Lib.hid (encE_byte (F j))
      have EE := Lib.hid (fun w' => encode23 (F j) w' HIN)
      have HS1 := Lib.hid (HSN.out j hlt)
      have HL1 := HLEN.out (j + 1) (by omega)
      have HFR : Hid (frameB (F j) = sealB (encE (F j))) := Lib.hid rfl
      clear HSN HLEN HTK HIN
      obtain ⟨x, hx⟩ : ∃ x, x = F j := ⟨_, rfl⟩
      rw [← hx] at ea HEB EE HS1 HFR HEL
      clear hx
      obtain ⟨E, hE⟩ : ∃ E, E = encE x := ⟨_, rfl⟩
      rw [← hE] at HEB EE HFR HEL
      clear hE
      obtain ⟨Z, hZ⟩ : ∃ Z, Z = frameB x := ⟨_, rfl⟩
      rw [← hZ] at HFR HS1
      clear hZ
      obtain ⟨x1, x2, x3, x4, x5, x6, x7, x8, x9⟩ := x
      unfold eC at EE
      dsimp only at EE
      (have y0 := (ea).c0; have y1 := (ea).c1; have y2 := (ea).c2; have y3 := (ea).c3; have y4 := (ea).c4; have y5 := (ea).c5; have y6 := (ea).c6; have y7 := (ea).c7; have y8 := (ea).c8); (try dsimp only at y0 y1 y2 y3 y4 y5 y6 y7 y8)
      have zg := szs hg
      obtain ⟨T, hT⟩ : ∃ T, T = (framesB (L.take j)).length := ⟨_, rfl⟩
      obtain ⟨T2, hT2⟩ : ∃ T2, T2 = (framesB (L.take (j + 1))).length := ⟨_, rfl⟩
      rw [← hT2] at HL1 HS1
      rw [← hT] at HS1 ⊢
      have HT2 := Lib.hid hT2
      clear hT hT2 ea
      go_wp2_with fail
      refine (EE.out _).mono ?_
      rintro e w2 ⟨u2, k2, E2, rfl, l2, r2, b2⟩
      obtain ⟨a2, cp2, rfl, s2⟩ := BRow.toSl r2
      have hk2 : k2 ≤ 90 := by
        have h := congrArg List.length l2
        rw [ents_len] at h
        omega
      have CS := seal22 a2 k2 cp2 E2 w2 s2 (ents_byte l2 HEB.out) (by omega)
      rw [l2, ← HFR.out] at CS
      replace CS := Lib.hid CS
      have B2 := Lib.hid (BW.out.trans (b2.mono BW.out.size))
      clear EE l2 r2 s2 b2 BW y0 y1 y2 y3 y4 y5 y6 y7 y8 zg
      go_wp2_with fail
      refine CS.out.mono ?_
      rintro e w3 ⟨u3, k3, E3, rfl, l3, r3, b3⟩
      obtain ⟨a3, cp3, rfl, s3⟩ := BRow.toSl r3
      have hk3 : k3 = Z.length := by have h := congrArg List.length l3; rw [ents_len] at h; exact h
      have B3 := Lib.hid (B2.out.trans (b3.mono B2.out.size))
      have hT : T2 = T + k3 := by rw [HS1.out, hk3]
      have hTI : (T : Int) + (k3 : Int) = (T2 : Int) := by omega
      have HTI := Lib.hid hTI
      have hTb : (T : Int) + (k3 : Int) ≤ 104000 := by omega
      clear CS l3 r3 s3 b3 B2 hk3 HS1 hTI hT
      go_wp2_with fail
      go_roundw
      case rel => exact ⟨j + 1, by go_num, by omega, by rw [← HT2.out, ← HTI.out], B3⟩
      case measure => simp [intOf]; omega
    · obtain rfl : j = n := by omega
      clear HSN HLEN
      rw [HTK.out]
      go_wp2_with fail
      go_returns
      exact ⟨rfl, BW.out⟩
end Go.Proofs.Ytlnfhlmgnppcbaa
