/- Write, the reference's. -/
import Derived.Test.YtlnfhlmgnppcbaaWR2
import Derived.Test.YtlnfhlmgnppcbaaCRA
namespace Go.Proofs.Ytlnfhlmgnppcbaa
open Go.RowKit Go.ChangeShapes Go.WideShapes Go.Deep
set_option linter.unusedVariables false
set_option linter.unusedSimpArgs false
theorem frames_next {F : Nat → Ev} {n j : Nat} (hj : j < n) (h2 : framedB (F j) = true) : appendE (framesB ((ents F n).take j)) (F j) = (framesB ((ents F n).take (j + 1)), 0) := by
  unfold appendE
  rw [if_pos h2, take_snoc_ev hj, framesB_app]
  congr 1
  show _ = _ ++ (frameB _ ++ [])
  rw [List.append_nil]
set_option maxRecDepth 4000 in
set_option maxHeartbeats 4000000 in
theorem write16 (ao : Option Addr) (n c : Nat) (F : Nat → Ev) (w : World) (h : EvSl w ao n c F) (hn : n ≤ 50000) : Calls Try.prog 16 #[.slice ao n c] w (BytesE w (writeE (ents F n)).1 (writeE (ents F n)).2) := by
  have HS := Lib.hid h
  have hmc := h.hm
  have hcc := h.hc
  have HBAD := Lib.hid (fun (j : Nat) (hj : j < n) => write_bad (F := F) hj)
  have HGOOD := Lib.hid (write_good (F := F) (n := n))
  have HALL := Lib.hid (fun (j : Nat) (hj : j < n) => all_snoc (F := F) (n := n) hj)
  have HFR := Lib.hid (fun (j : Nat) (hj : j < n) => frames_next (F := F) (n := n) hj)
  have HNO := Lib.hid (fun (L : List Nat) (j : Nat) (h : framedB (F j) = false) => append_no (L := L) h)
  have HLEN : Hid (∀ j, j ≤ n → ((ents F n).take j).all framedB = true → (framesB ((ents F n).take j)).length ≤ 5200000) := Lib.hid (by
    intro j hj ha
    have h1 := framesB_len (l := (ents F n).take j) (fun v hv => List.all_eq_true.1 ha v hv)
    have h2 : ((ents F n).take j).length ≤ 50000 := by rw [List.length_take]; omega
    have := Nat.mul_le_mul_left 104 h2
    omega)
  have HTK : Hid ((ents F n).take n = ents F n) := Lib.hid (List.take_of_length_le (by rw [ents_len]; omega))
  obtain ⟨X, hX⟩ : ∃ X, X = writeE (ents F n) := ⟨_, rfl⟩
  rw [← hX] at HBAD HGOOD ⊢
  clear hX h
  generalize hLL : ents F n = L at *
  clear hLL
  have R0 : Hid (BRow (w.alloc (.cells #[] 5)) w.heap.size (.slice (some ⟨w.heap.size, 0, none⟩) 0 0) 0 (fun _ => 0)) := Lib.hid (Row.of_block (heap_alloc_new _ _) (Nat.le_refl _) (bf_len _) rfl (by decide))
  have B0 : Hid (Below w.heap.size w (w.alloc (.cells #[] 5))) := Lib.hid (by (repeat' (first | (with_reducible exact Below.refl _ _) | (with_reducible assumption) | (with_reducible refine Below.drew ?_) | (with_reducible refine below_drewN ?_ _) | (with_reducible refine Below.alloc ?_ ?_ _) | (with_reducible refine Below.setCell ?_ ?_ _) | go_size)))
  go_enter Try.func16, Try.ntmps16
  go_wp2_with fail
  generalize (World.alloc w _) = w0 at *
  go_loopw [4, 5] (fun s4 s5 wr => ∃ (j : Nat) (k : Nat) (R : Nat → Nat), s5 = .int .i64 j ∧ j ≤ n ∧ Hid (Below w.heap.size w wr) ∧ Hid (BRow wr w.heap.size s4 k R) ∧ Hid (ents R k = framesB (L.take j)) ∧ Hid ((L.take j).all framedB = true)) (fun _ s5 _ => n - (intOf s5).toNat)
  case atStart => exact ⟨0, 0, fun _ => 0, rfl, by omega, B0, R0, Lib.hid rfl, Lib.hid rfl⟩
  case round =>
    obtain ⟨j, k, R, rfl, hj, hM, hRow, hL, hA⟩ := hrel
    have BW := hM
    have ROW := hRow
    have HL := hL
    have HA := hA
    clear hM hRow hL hA R0 B0
    obtain ⟨a1, cp, rfl, hsl⟩ := BRow.toSl ROW.out
    have SL := Lib.hid hsl
    clear hsl
    by_cases hlt : j < n
    · have tj : (j : Int) < (n : Int) := by omega
      obtain ⟨g, o, rfl, hg, ea⟩ := evs_at (HS.out.below BW.out) hlt
      have HR := Lib.hid (HBAD.out j hlt)
      have HA1 := Lib.hid (HALL.out j hlt HA.out)
      have HF1 := Lib.hid (HFR.out j hlt)
      have HLE := HLEN.out j hj HA.out
      rw [← HL.out, ents_len] at HLE
      have AA := Lib.hid (fun w' (hb : Below wr.heap.size wr w') => append14 a1 k cp R (F j) w' (SL.out.below hb) (by omega))
      rw [HL.out] at AA
      have HN1 := Lib.hid (HNO.out (framesB (L.take j)) j)
      clear HBAD HALL HFR HLEN HGOOD HTK HNO SL
      obtain ⟨x, hx⟩ : ∃ x, x = F j := ⟨_, rfl⟩
      rw [← hx] at ea HR HA1 HF1 AA HN1
      clear hx
      obtain ⟨f, hf⟩ : ∃ f, f = framedB x := ⟨_, rfl⟩
      obtain ⟨Y, hY⟩ : ∃ Y, Y = appendE (framesB (L.take j)) x := ⟨_, rfl⟩
      rw [← hf] at HR HA1 HF1 HN1
      rw [← hY] at AA HF1 HN1
      clear hf hY
      obtain ⟨x1, x2, x3, x4, x5, x6, x7, x8, x9⟩ := x
      unfold eC at AA
      dsimp only at AA
      (have a0 := (ea).c0; have a1 := (ea).c1; have a2 := (ea).c2; have a3 := (ea).c3; have a4 := (ea).c4; have a5 := (ea).c5; have a6 := (ea).c6; have a7 := (ea).c7; have a8 := (ea).c8); (try dsimp only at a0 a1 a2 a3 a4 a5 a6 a7 a8)
      have zg := szs hg
      cases f with
      | false =>
        obtain rfl := HN1.out rfl
        have HX := Lib.hid (HR.out rfl)
        clear HN1 HR HF1 HA1
        go_wp2_with fail
        refine (AA.out _ (Below.refl _ _)).mono ?_
        rintro e w1 ⟨v1, k1, E1, rfl, l1, r1, b1⟩
        have B1 := Lib.hid (BW.out.trans (b1.mono BW.out.size))
        clear AA l1 r1 b1
        go_wp2_with fail
        go_returns
        rw [HX.out]
        exact ⟨_, 0, fun _ => 0, rfl, rfl, BRow.none _ _, B1.out⟩
      | true =>
        obtain rfl := HF1.out rfl
        have HA2 := Lib.hid (HA1.out rfl)
        clear HN1 HR HF1 HA1
        go_wp2_with fail
        refine (AA.out _ (Below.refl _ _)).mono ?_
        rintro e w1 ⟨v1, k1, E1, rfl, l1, r1, b1⟩
        have B1 := Lib.hid (BW.out.trans (b1.mono BW.out.size))
        have R1 := Lib.hid (Row.base_mono r1 BW.out.size)
        have L1 := Lib.hid l1
        clear AA l1 r1 b1 a0 a1 a2 a3 a4 a5 a6 a7 a8 zg BW ROW
        go_wp2_with fail
        go_roundw
        case rel => exact ⟨j + 1, k1, E1, by go_num, by omega, B1, R1, L1, HA2⟩
        case measure => simp [intOf]; omega
    · obtain rfl : j = n := by omega
      have HX := Lib.hid (HGOOD.out HA.out)
      clear HBAD HALL HFR HLEN HGOOD HNO
      by_cases h5 : 512 < j
      · have t5 : (512 : Int) < (j : Int) := by omega
        go_wp2_with fail
        go_returns
        rw [HX.out, if_pos h5]
        exact ⟨_, 0, fun _ => 0, rfl, rfl, BRow.none _ _, BW.out⟩
      · have t5 : (j : Int) ≤ 512 := by omega
        go_wp2_with fail
        go_returns
        rw [HX.out, if_neg h5]
        exact ⟨_, k, R, rfl, by rw [HL.out, HTK.out], ROW.out, BW.out⟩
end Go.Proofs.Ytlnfhlmgnppcbaa
