/- Write, the program's. -/
import Derived.Test.YtlnfhlmgnppcbaaWR1
import Derived.Test.YtlnfhlmgnppcbaaCRA
import Derived.Test.YtlnfhlmgnppcbaaEVA
namespace Go.Proofs.Ytlnfhlmgnppcbaa
open Go.RowKit Go.ChangeShapes Go.WideShapes Go.Deep
set_option linter.unusedVariables false
set_option linter.unusedSimpArgs false
theorem end_err {x : Int} (n : Nat) (h : x ≠ 0) : endX n x = x := by unfold endX; rw [if_neg (by omega)]
theorem take_snoc_ev {F : Nat → Ev} {n j : Nat} (h : j < n) : (ents F n).take (j + 1) = (ents F n).take j ++ [F j] := by
  rw [List.take_add_one, ents_get h]; rfl
theorem write_bad {F : Nat → Ev} {n j : Nat} (h : j < n) (h2 : framedB (F j) = false) : writeE (ents F n) = ([], 1) := by
  unfold writeE
  rw [if_pos]
  cases hh : (ents F n).all framedB
  · rfl
  · rw [List.all_eq_true.1 hh (F j) (mem_ents.2 ⟨j, h, rfl⟩)] at h2; cases h2
theorem write_good {F : Nat → Ev} {n : Nat} (h : ((ents F n).take n).all framedB = true) : writeE (ents F n) = if 512 < n then ([], 8) else (framesB (ents F n), 0) := by
  have e : (ents F n).take n = ents F n := List.take_of_length_le (by rw [ents_len]; omega)
  rw [e] at h
  unfold writeE
  rw [if_neg (by rw [h]; simp), ents_len]
theorem all_snoc {F : Nat → Ev} {n j : Nat} (hj : j < n) (h : ((ents F n).take j).all framedB = true) (h2 : framedB (F j) = true) : ((ents F n).take (j + 1)).all framedB = true := by
  rw [take_snoc_ev hj, List.all_append, h]; simp [h2]
theorem frames_snoc {F : Nat → Ev} {n j : Nat} (hj : j < n) (h5 : j < 512) : framesB ((ents F n).take (min (j + 1) 512)) = framesB ((ents F n).take (min j 512)) ++ sealB (encE (F j)) := by
  rw [show min (j + 1) 512 = j + 1 by omega, show min j 512 = j by omega, take_snoc_ev hj, framesB_app]
  show _ ++ (frameB _ ++ []) = _
  rw [List.append_nil]; rfl
theorem frames_stay {F : Nat → Ev} {n j : Nat} (h5 : 512 ≤ j) : framesB ((ents F n).take (min (j + 1) 512)) = framesB ((ents F n).take (min j 512)) := by
  rw [show min (j + 1) 512 = 512 by omega, show min j 512 = 512 by omega]
set_option maxRecDepth 4000 in
set_option maxHeartbeats 4000000 in
theorem write15 (ao : Option Addr) (n c : Nat) (F : Nat → Ev) (w : World) (h : EvSl w ao n c F) (hn : n ≤ 100000) : Calls Try.prog 15 #[.slice ao n c] w (BytesE w (writeE (ents F n)).1 (writeE (ents F n)).2) := by
  have HS := Lib.hid h
  have hmf : ∀ (fn : Fn) (first cap : Array Value) (w : World), (Instr.makeFunc fn first cap).run Try.prog w = .ok (.func fn first cap) w := fun _ _ _ _ => rfl
  have HM0 : Hid (∀ q1 q2, w.heap.size + 1 = q1 → q1 + 1 = q2 → WrM w ao n c q1 q2 (((w.alloc (.cells #[.slice ao n c] 30)).alloc (.cells #[.slice none 0 0] 22)).alloc (.cells #[.int .i64 0] 26)) (.slice none 0 0) 0) := Lib.hid (fun q1 q2 e1 e2 => by
    have h0 := heap_alloc_new w (.cells #[.slice ao n c] 30)
    have h1 := heap_alloc_new (w.alloc (.cells #[.slice ao n c] 30)) (.cells #[.slice none 0 0] 22)
    have h2 := heap_alloc_new ((w.alloc (.cells #[.slice ao n c] 30)).alloc (.cells #[.slice none 0 0] 22)) (.cells #[.int .i64 0] 26)
    have b1 : Below (w.heap.size + 1) (w.alloc (.cells #[.slice ao n c] 30)) (((w.alloc (.cells #[.slice ao n c] 30)).alloc (.cells #[.slice none 0 0] 22)).alloc (.cells #[.int .i64 0] 26)) := by
      have : (w.alloc (.cells #[.slice ao n c] 30)).heap.size = w.heap.size + 1 := by simp
      rw [← this]; (repeat' (first | (with_reducible exact Below.refl _ _) | (with_reducible assumption) | (with_reducible refine Below.drew ?_) | (with_reducible refine below_drewN ?_ _) | (with_reducible refine Below.alloc ?_ ?_ _) | (with_reducible refine Below.setCell ?_ ?_ _) | go_size))
    have b2 : Below (w.heap.size + 2) ((w.alloc (.cells #[.slice ao n c] 30)).alloc (.cells #[.slice none 0 0] 22)) (((w.alloc (.cells #[.slice ao n c] 30)).alloc (.cells #[.slice none 0 0] 22)).alloc (.cells #[.int .i64 0] 26)) := by
      have : ((w.alloc (.cells #[.slice ao n c] 30)).alloc (.cells #[.slice none 0 0] 22)).heap.size = w.heap.size + 2 := by simp
      rw [← this]; (repeat' (first | (with_reducible exact Below.refl _ _) | (with_reducible assumption) | (with_reducible refine Below.drew ?_) | (with_reducible refine below_drewN ?_ _) | (with_reducible refine Below.alloc ?_ ?_ _) | (with_reducible refine Below.setCell ?_ ?_ _) | go_size))
    rw [show (w.alloc (.cells #[.slice ao n c] 30)).heap.size = w.heap.size + 1 by simp] at h1
    rw [show ((w.alloc (.cells #[.slice ao n c] 30)).alloc (.cells #[.slice none 0 0] 22)).heap.size = w.heap.size + 1 + 1 by simp] at h2
    subst e1 e2
    exact ⟨rfl, rfl, (b1.block _ (by omega)).trans h0, (b2.block _ (by omega)).trans h1, h2, by (repeat' (first | (with_reducible exact Below.refl _ _) | (with_reducible assumption) | (with_reducible refine Below.drew ?_) | (with_reducible refine below_drewN ?_ _) | (with_reducible refine Below.alloc ?_ ?_ _) | (with_reducible refine Below.setCell ?_ ?_ _) | go_size))⟩)
  have hmc := h.hm
  have hcc := h.hc
  have WX : Hid (∀ (wr : World) (q1 q2 : Nat) (v : Value) (x : Int), WrM w ao n c q1 q2 wr v x → CallsD Try.prog 37 #[.pointer (some ⟨q2, 0, none⟩), .pointer (some ⟨w.heap.size, 0, none⟩), .pointer (some ⟨q1, 0, none⟩)] .returning wr fun e u' w' =>
      u' = .returning ∧ e = .returned (.tuple #[]) ∧ ∃ v', WrM w ao n c q1 q2 w' v' (endX n x) ∧ (endX n x = 0 → v' = v ∧ w' = wr) ∧ (endX n x ≠ 0 → v' = .slice none 0 0)) := Lib.hid (fun wr q1 q2 v x hh => write37 w ao n c q1 q2 wr v x .returning hh (by omega))
  have HBAD := Lib.hid (fun (j : Nat) (hj : j < n) => write_bad (F := F) hj)
  have HGOOD := Lib.hid (write_good (F := F) (n := n))
  have HALL := Lib.hid (fun (j : Nat) (hj : j < n) => all_snoc (F := F) (n := n) hj)
  have HFR := Lib.hid (fun (j : Nat) (hj : j < n) h5 => frames_snoc (F := F) (n := n) hj h5)
  have HST := Lib.hid (fun (j : Nat) h5 => frames_stay (F := F) (n := n) (j := j) h5)
  have HLEN : Hid (∀ j, j ≤ n → ((ents F n).take j).all framedB = true → (framesB ((ents F n).take (min j 512))).length ≤ 104 * 512) := Lib.hid (by
    intro j hj ha
    have h1 := framesB_len (l := (ents F n).take (min j 512)) (fun v hv => List.all_eq_true.1 ha v ((List.take_subset_take_left _ (by omega)) hv))
    have h2 : ((ents F n).take (min j 512)).length ≤ 512 := by rw [List.length_take]; omega
    have := Nat.mul_le_mul_left 104 h2
    omega)
  obtain ⟨X, hX⟩ : ∃ X, X = writeE (ents F n) := ⟨_, rfl⟩
  rw [← hX] at HBAD HGOOD ⊢
  clear hX h
  have HTK : Hid (n ≤ 512 → (ents F n).take (min n 512) = ents F n) := Lib.hid (fun h => List.take_of_length_le (by rw [ents_len]; omega))
  generalize hLL : ents F n = L at *
  clear hLL
  go_enter_defers Try.func15, Try.ntmps15
  go_wp2_with fail
  generalize hq1 : w.heap.size + 1 = q1 at *
  generalize hq2 : q1 + 1 = q2 at *
  have M0 := Lib.hid (HM0.out q1 q2 rfl hq2)
  clear HM0
  generalize (World.alloc (World.alloc (World.alloc w _) _) _) = w0 at *
  have n12 : q1 ≠ q2 := by omega
  have n21 : q2 ≠ q1 := by omega
  have n01 : w.heap.size ≠ q1 := by omega
  have n02 : w.heap.size ≠ q2 := by omega
  clear hq1 hq2
  go_loopw [11] (fun s11 wr => ∃ (j : Nat) (v : Value) (k : Nat) (R : Nat → Nat), s11 = .int .i64 j ∧ j ≤ n ∧ Hid (WrM w ao n c q1 q2 wr v 0) ∧ Hid (BRow wr (w.heap.size + 3) v k R) ∧ Hid (ents R k = framesB (L.take (min j 512))) ∧ Hid ((L.take j).all framedB = true)) (fun s11 _ => n - (intOf s11).toNat)
  case atStart => exact ⟨0, _, 0, fun _ => 0, rfl, by omega, M0, Lib.hid (BRow.none _ _), Lib.hid rfl, Lib.hid rfl⟩
  case round =>
    obtain ⟨j, v, k, R, rfl, hj, hM, hRow, hL, hA⟩ := hrel
    have M := hM
    have ROW := hRow
    have HL := hL
    have HA := hA
    clear hM hRow hL hA
    obtain ⟨a1, cp, rfl, hsl⟩ := BRow.toSl ROW.out
    clear hsl
    have c1 := cell_at M.out.m1 0
    have c2 := cell_at M.out.m2 0
    have f1 := free_at M.out.m1 0
    have f2 := free_at M.out.m2 0
    have z1 := szs (block_lt M.out.m1)
    have z2 := szs (block_lt M.out.m2)
    by_cases hlt : j < n
    · have tj : (j : Int) < (n : Int) := by omega
      obtain ⟨g, o, rfl, hg, ea⟩ := evs_at (HS.out.below M.out.hb) hlt
      have HR := Lib.hid (HBAD.out j hlt)
      have HA1 := Lib.hid (HALL.out j hlt HA.out)
      have HF1 := Lib.hid (HFR.out j hlt)
      have HLE := Lib.hid (HLEN.out j hj HA.out)
      rw [← HL.out, ents_len] at HLE
      have HIN := Lib.hid (framed_in (v := F j))
      have HEB := Lib.hid (encE_byte (F j))
      have HEL := Lib.hid (fun h => encE_len (v := F j) h)
      have FF := Lib.hid (fun w' => framed33 (F j) w')
      have EE := Lib.hid (fun w' h => encode23 (F j) w' h)
      clear HBAD HALL HFR HLEN HGOOD HTK
      obtain ⟨x, hx⟩ : ∃ x, x = F j := ⟨_, rfl⟩
      rw [← hx] at ea HR HA1 HF1 HIN HEB HEL FF EE
      clear hx
      obtain ⟨f, hf⟩ : ∃ f, f = framedB x := ⟨_, rfl⟩
      obtain ⟨E, hE⟩ : ∃ E, E = encE x := ⟨_, rfl⟩
      obtain ⟨I, hI⟩ : ∃ I, I = inN x := ⟨_, rfl⟩
      rw [← hf] at HR HA1 HIN FF
      rw [← hE] at HF1 HEB HEL EE
      rw [← hI] at HIN HEL EE
      clear hf hE hI
      obtain ⟨x1, x2, x3, x4, x5, x6, x7, x8, x9⟩ := x
      unfold eC at FF EE
      dsimp only at FF EE
      (have a0 := (ea).c0; have a1 := (ea).c1; have a2 := (ea).c2; have a3 := (ea).c3; have a4 := (ea).c4; have a5 := (ea).c5; have a6 := (ea).c6; have a7 := (ea).c7; have a8 := (ea).c8); (try dsimp only at a0 a1 a2 a3 a4 a5 a6 a7 a8)
      have zg := szs hg
      have BA : Hid (Below wr.heap.size wr (wr.alloc (.cells #[.int .i64 x1, .int .i64 x2, .int .i64 x3, .int .i64 x4, .int .i64 x5, .int .i64 x6, .int .i64 x7, .int .i64 x8, .int .i64 x9] 24))) := Lib.hid (by (repeat' (first | (with_reducible exact Below.refl _ _) | (with_reducible assumption) | (with_reducible refine Below.drew ?_) | (with_reducible refine below_drewN ?_ _) | (with_reducible refine Below.alloc ?_ ?_ _) | (with_reducible refine Below.setCell ?_ ?_ _) | go_size)))
      have MA := Lib.hid (M.out.grown BA.out)
      have RA := Lib.hid (BRow.below ROW.out BA.out)
      have XA : Hid ((wr.alloc (.cells #[.int .i64 x1, .int .i64 x2, .int .i64 x3, .int .i64 x4, .int .i64 x5, .int .i64 x6, .int .i64 x7, .int .i64 x8, .int .i64 x9] 24)).heap[wr.heap.size]? = some (.cells #[.int .i64 x1, .int .i64 x2, .int .i64 x3, .int .i64 x4, .int .i64 x5, .int .i64 x6, .int .i64 x7, .int .i64 x8, .int .i64 x9] 24 (0, 0))) := Lib.hid (heap_alloc_new wr _)
      obtain ⟨wa, hwa⟩ : ∃ wa, wa = wr.alloc (.cells #[.int .i64 x1, .int .i64 x2, .int .i64 x3, .int .i64 x4, .int .i64 x5, .int .i64 x6, .int .i64 x7, .int .i64 x8, .int .i64 x9] 24) := ⟨_, rfl⟩
      have HWA := Lib.hid hwa
      rw [← hwa] at BA MA RA XA
      clear hwa ea
      go_wp2_with fail
      rw [← HWA.out]
      refine (FF.out _).mono ?_
      rintro e w1 ⟨rfl, b1⟩
      have M1 := Lib.hid (MA.out.grown b1)
      have R1 := Lib.hid (BRow.below RA.out b1)
      have X1 := (b1.block _ (block_lt XA.out)).trans XA.out
      have y0 := cell_at X1 0
      have y1 := cell_at X1 1
      have y2 := cell_at X1 2
      have y3 := cell_at X1 3
      have y4 := cell_at X1 4
      have y5 := cell_at X1 5
      have y6 := cell_at X1 6
      have y7 := cell_at X1 7
      have y8 := cell_at X1 8
      have zx := szs (block_lt X1)
      clear FF HWA BA MA RA XA M ROW c1 c2 f1 f2 z1 z2 a0 a1 a2 a3 a4 a5 a6 a7 a8 zg b1 X1
      have c1 := cell_at M1.out.m1 0
      have c2 := cell_at M1.out.m2 0
      have f1 := free_at M1.out.m1 0
      have f2 := free_at M1.out.m2 0
      have z1 := szs (block_lt M1.out.m1)
      have z2 := szs (block_lt M1.out.m2)
      cases f with
      | false =>
        have MD := Lib.hid ((M1.out.put1 (.slice none 0 0)).put2 1)
        have HX := Lib.hid (HR.out rfl)
        go_wp2_with fail
        refine leaves_cons (f := 37) (args := #[.pointer (some ⟨q2, 0, none⟩), .pointer (some ⟨w.heap.size, 0, none⟩), .pointer (some ⟨q1, 0, none⟩)]) (by simp) (by simp [go_sem]) ?_
        refine (WX.out _ q1 q2 _ _ MD.out).mono ?_
        rintro e u' wl ⟨rfl, rfl, v', ml, g0, g1⟩
        have d1 := cell_at ml.m1 0
        have d2 := cell_at ml.m2 0
        have ML := Lib.hid ml
        clear ml
        rw [end_err n (by decide)] at d2 g1
        have hv := g1 (by decide)
        subst hv
        rw [HX.out]
        simp [Leaves, settle, results, Try.results15, go_sem, d1, d2]
        exact ⟨_, 0, fun _ => 0, rfl, rfl, BRow.none _ _, ML.out.hb⟩
      | true =>
        have HA2 := Lib.hid (HA1.out rfl)
        have hI := HIN.out rfl
        clear HR HA1 HIN
        by_cases h5 : 512 ≤ j
        · have t5 : (512 : Int) ≤ (j : Int) := by omega
          have HL2 := Lib.hid (HST.out j h5)
          go_wp2_with fail
          go_roundw
          case rel => exact ⟨j + 1, _, k, R, by go_num, by omega, M1, R1, Lib.hid (by rw [HL2.out]; exact HL.out), HA2⟩
          case measure => simp [intOf]; omega
        · have t5 : (j : Int) < 512 := by omega
          have EE1 := Lib.hid (EE.out w1 hI)
          have HEL := HEL.out hI
          clear EE hI
          go_wp2_with fail
          refine EE1.out.mono ?_
          rintro e w2 ⟨u2, k2, E2, rfl, l2, r2, b2⟩
          obtain ⟨a2, cp2, rfl, s2⟩ := BRow.toSl r2
          have hk2 : k2 ≤ 90 := by
            have h := congrArg List.length l2
            rw [ents_len] at h
            omega
          have CS := Lib.hid (seal22 a2 k2 cp2 E2 w2 s2 (ents_byte l2 HEB.out) (by omega))
          rw [l2] at CS
          have M2 := Lib.hid (M1.out.grown b2)
          have R2 := Lib.hid (BRow.below R1.out b2)
          clear EE1 l2 r2 s2 b2 M1 R1 y0 y1 y2 y3 y4 y5 y6 y7 y8 zx c1 c2 f1 f2 z1 z2
          go_wp2_with fail
          refine CS.out.mono ?_
          rintro e w3 ⟨u3, k3, E3, rfl, l3, r3, b3⟩
          obtain ⟨a3, cp3, rfl, s3⟩ := BRow.toSl r3
          have hk3 : k3 ≤ 104 := by
            have h := congrArg List.length l3
            have h2 := codeN_len (n := (E.length : Int)) (by omega) (by omega)
            rw [ents_len, sealB_len] at h
            omega
          have L3 := Lib.hid l3
          have M3 := Lib.hid (M2.out.grown b3)
          have R3 := Lib.hid (BRow.below R2.out b3)
          have S3 := Lib.hid s3
          have HF2 := Lib.hid (HF1.out (by omega))
          have hk5 := HLE.out
          have le3 : w.heap.size + 3 ≤ w3.heap.size := M3.out.size
          clear CS l3 r3 s3 b3 M2 R2 HF1 HLE
          have c1 := cell_at M3.out.m1 0
          have f1 := free_at M3.out.m1 0
          have z1 := szs (block_lt M3.out.m1)
          go_wp2_with (at_builtin; first | (refine wpList_append_B w3 rfl (.tmp 30) (.tmp 31) rfl (w.heap.size + 3) _ k R rfl R3.out a3 k3 cp3 E3 rfl S3.out (by omega) le3 ?_))
          intro v4 w4 R4 r4 l4 b4
          obtain ⟨a4, cp4, rfl, _⟩ := BRow.toSl r4
          have M4 := M3.out.below b4
          have c1 := cell_at M4.m1 0
          have f1 := free_at M4.m1 0
          have z1 := szs (block_lt M4.m1)
          have M5 := Lib.hid (M4.put1 (.slice a4 (k + k3) cp4))
          have R5 := Lib.hid (M4.row1 r4 (.slice a4 (k + k3) cp4))
          have L5 : Hid (ents R4 (k + k3) = framesB (L.take (min (j + 1) 512))) := Lib.hid (by rw [l4, HF2.out, HL.out, L3.out])
          clear M4 r4 l4 b4 R3 M3 S3 L3
          go_wp2_with fail
          go_roundw
          case rel => exact ⟨j + 1, _, k + k3, R4, by go_num, by omega, M5, R5, L5, HA2⟩
          case measure => simp [intOf]; omega
    · obtain rfl : j = n := by omega
      have HX := Lib.hid (HGOOD.out HA.out)
      have MD := Lib.hid ((M.out.put1 (.slice a1 k cp)).put2 0)
      have RD := Lib.hid (M.out.row ROW.out (.slice a1 k cp) 0)
      go_wp2_with fail
      refine leaves_cons (f := 37) (args := #[.pointer (some ⟨q2, 0, none⟩), .pointer (some ⟨w.heap.size, 0, none⟩), .pointer (some ⟨q1, 0, none⟩)]) (by simp) (by simp [go_sem]) ?_
      refine (WX.out _ q1 q2 _ _ MD.out).mono ?_
      rintro e u' wl ⟨rfl, rfl, v', ml, g0, g1⟩
      have d1 := cell_at ml.m1 0
      have d2 := cell_at ml.m2 0
      have ML := Lib.hid ml
      clear ml
      by_cases h5 : 512 < j
      · have ex : endX j 0 = 8 := by unfold endX; rw [if_pos ⟨rfl, h5⟩]
        have hv := g1 (by rw [ex]; decide)
        subst hv
        rw [ex] at d2
        rw [HX.out, if_pos h5]
        simp [Leaves, settle, results, Try.results15, go_sem, d1, d2]
        exact ⟨_, 0, fun _ => 0, rfl, rfl, BRow.none _ _, ML.out.hb⟩
      · have ex : endX j 0 = 0 := by unfold endX; rw [if_neg (by omega)]
        obtain ⟨rfl, rfl⟩ := g0 ex
        rw [ex] at d2
        rw [HX.out, if_neg h5]
        simp [Leaves, settle, results, Try.results15, go_sem, d1, d2]
        exact ⟨_, k, R, rfl, by rw [HL.out, HTK.out (by omega)], Row.base_mono RD.out (by omega), MD.out.hb⟩
end Go.Proofs.Ytlnfhlmgnppcbaa
