/- The program's Append. -/
import Derived.Test.YtlnfhlmgnppcbaaCR6
namespace Go.Proofs.Ytlnfhlmgnppcbaa
open Go.RowKit Go.ChangeShapes Go.WideShapes Go.Deep
set_option linter.unusedVariables false
set_option linter.unusedSimpArgs false
theorem BSl.clip {w : World} {ao : Option Addr} {n c : Nat} {B : Nat → Nat} (h : BSl w ao n c B) (hc : n ≤ 9223372036854775807) (h0 : ao = Option.none → n = 0) : BSl w ao n n B := ⟨Nat.le_refl _, hc, fun e => ⟨h0 e, h0 e⟩, h.len, h.sl⟩
set_option maxRecDepth 4000 in
set_option maxHeartbeats 4000000 in
theorem append13 (ao : Option Addr) (n c : Nat) (B : Nat → Nat) (v : Ev) (w : World) (h : BSl w ao n c B) (hn : n ≤ 10000000) : Calls Try.prog 13 #[.slice ao n c, .agg (eC v)] w (BytesE w (appendE (ents B n) v).1 (appendE (ents B n) v).2) := by
  have HS := Lib.hid h
  have BW : Hid (Below w.heap.size w (w.alloc (.cells (eC v) 24))) := Lib.hid (by (repeat' (first | (with_reducible exact Below.refl _ _) | (with_reducible assumption) | (with_reducible refine Below.drew ?_) | (with_reducible refine below_drewN ?_ _) | (with_reducible refine Below.alloc ?_ ?_ _) | (with_reducible refine Below.setCell ?_ ?_ _) | go_size)))
  have CF := Lib.hid (framed33 v (w.alloc (.cells (eC v) 24)))
  have CE := Lib.hid (fun (wa : World) (hv : inN v) => encode23 v wa hv)
  have HFE := Lib.hid (fun (hf : framedB v = true) => And.intro (framed_in hf) (framed_encode hf))
  have HB := Lib.hid (encE_byte v)
  have NO := Lib.hid (fun (hf : framedB v = false) => append_no (L := ents B n) hf)
  have YES := Lib.hid (fun (hf : framedB v = true) => append_yes (L := ents B n) hf)
  clear h
  obtain ⟨f, hf⟩ : ∃ f, f = framedB v := ⟨_, rfl⟩
  obtain ⟨X, hX⟩ : ∃ X, X = appendE (ents B n) v := ⟨_, rfl⟩
  obtain ⟨E, hE⟩ : ∃ E, E = encE v := ⟨_, rfl⟩
  obtain ⟨I, hI⟩ : ∃ I, I = inN v := ⟨_, rfl⟩
  rw [← hf] at CF HFE NO YES
  rw [← hX] at NO YES ⊢
  rw [← hE] at CE HFE HB YES
  rw [← hI] at CE HFE
  clear hf hX hE hI
  obtain ⟨v1, v2, v3, v4, v5, v6, v7, v8, v9⟩ := v
  unfold eC at *
  dsimp only at BW CF CE ⊢
  go_enter Try.func13, Try.ntmps13
  go_wp2_with fail
  refine CF.out.mono ?_
  rintro e w1 ⟨rfl, b1⟩
  have B1 := Lib.hid (BW.out.trans (b1.mono BW.out.size))
  cases f with
  | false =>
    have hx := NO.out rfl
    go_wp2_with fail
    go_returns
    rw [hx]
    exact ⟨_, 0, fun _ => 0, rfl, rfl, BRow.none _ _, B1.out⟩
  | true =>
    have HX := Lib.hid (YES.out rfl)
    clear YES NO
    have hc1 := (b1.block _ (block_lt (heap_alloc_new _ _))).trans (heap_alloc_new w (.cells #[.int .i64 v1, .int .i64 v2, .int .i64 v3, .int .i64 v4, .int .i64 v5, .int .i64 v6, .int .i64 v7, .int .i64 v8, .int .i64 v9] 24))
    have k0 := cell_at hc1 0
    have k1 := cell_at hc1 1
    have k2 := cell_at hc1 2
    have k3 := cell_at hc1 3
    have k4 := cell_at hc1 4
    have k5 := cell_at hc1 5
    have k6 := cell_at hc1 6
    have k7 := cell_at hc1 7
    have k8 := cell_at hc1 8
    have z1 := szs (block_lt hc1)
    obtain ⟨hin, hel⟩ := HFE.out rfl
    have CC := Lib.hid (CE.out w1 hin)
    clear CF b1 hin
    go_wp2_with fail
    refine CC.out.mono ?_
    rintro e w2 ⟨u2, k2, R2, rfl, l2, r2, b2⟩
    obtain ⟨a2, c2, rfl, s2⟩ := BRow.toSl r2
    have hk2 : k2 ≤ 90 := by
      have h := congrArg List.length l2
      rw [ents_len] at h
      omega
    have CS := Lib.hid (seal22 a2 k2 c2 R2 w2 s2 (ents_byte l2 HB.out) (by omega))
    rw [l2] at CS
    have B2 := Lib.hid (B1.out.trans (b2.mono B1.out.size))
    clear CC CE l2 r2 b2 s2 k0 k1 k3 k4 k5 k6 k7 k8
    go_wp2_with fail
    refine CS.out.mono ?_
    rintro e w3 ⟨u3, k3, R3, rfl, l3, r3, b3⟩
    obtain ⟨a3, c3, rfl, s3⟩ := BRow.toSl r3
    have hk3 : k3 ≤ 104 := by
      have h := congrArg List.length l3
      have h2 := codeN_len (n := (E.length : Int)) (by omega) (by omega)
      rw [ents_len, sealB_len] at h
      omega
    have hk30 : 0 < k3 := by
      have h := congrArg List.length l3
      rw [ents_len, sealB_len] at h
      omega
    have B3 := Lib.hid (B2.out.trans (b3.mono B2.out.size))
    have S3 := Lib.hid s3
    have L3 := Lib.hid l3
    clear CS l3 r3 b3 s3
    have hk0 : 0 < k3 := hk30
    have hnc := HS.out.hm
    have hcc := HS.out.hc
    have HK := Lib.hid (BSl.clip HS.out (by omega) (fun e => (HS.out.hno e).1))
    have REST : ∀ (v' : Value) (w' : World) (R : Nat → Nat), BRow w' w3.heap.size v' (n + k3) R → ents R (n + k3) = ents B n ++ ents R3 k3 → Below w3.heap.size w3 w' → BytesE w X.1 X.2 (.returned (.tuple #[v', .int .i64 0])) w' := fun v' w' R r l b => by
      rw [HX.out]
      refine ⟨v', n + k3, R, rfl, ?_, Row.base_mono r B3.out.size, B3.out.trans (b.mono B3.out.size)⟩
      rw [l, L3.out]
    have RS := Lib.hid REST
    clear REST HX
    cases ao with
    | none =>
      obtain ⟨rfl, rfl⟩ := HS.out.hno rfl
      go_wp2_with (at_builtin; go_loud (refine wpList_append_G w3 rfl (.tmp 25) (.tmp 26) rfl none 0 B rfl (HK.out.below B3.out) a3 k3 c3 R3 rfl S3.out (by omega) hk0 ?_))
      intro v6 w6 R6 r6 l6 b6
      have Z := Lib.hid (RS.out v6 w6 R6 (by simpa using r6) (by simpa using l6) b6)
      clear r6 l6 b6 RS
      go_wp2_with fail
      go_returns
      exact Z.out
    | some ad =>
      go_wp2_with (at_builtin; go_loud (refine wpList_append_G w3 rfl (.tmp 25) (.tmp 26) rfl (some ad) n B rfl (HK.out.below B3.out) a3 k3 c3 R3 rfl S3.out (by omega) hk0 ?_))
      intro v6 w6 R6 r6 l6 b6
      have Z := Lib.hid (RS.out v6 w6 R6 r6 l6 b6)
      clear r6 l6 b6 RS
      go_wp2_with fail
      go_returns
      exact Z.out
end Go.Proofs.Ytlnfhlmgnppcbaa
