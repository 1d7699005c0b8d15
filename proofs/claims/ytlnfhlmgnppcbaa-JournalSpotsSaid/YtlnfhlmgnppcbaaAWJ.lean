/- The examples of the journal's chapter hold. -/
import Derived.Test.YtlnfhlmgnppcbaaWR3
import Derived.Test.YtlnfhlmgnppcbaaRP1
import Derived.Test.YtlnfhlmgnppcbaaJAP
import Derived.Test.YtlnfhlmgnppcbaaCR8
import Derived.Test.YtlnfhlmgnppcbaaOPE
namespace Go.Proofs.Ytlnfhlmgnppcbaa
open Go.RowKit Go.ChangeShapes Go.WideShapes Go.Deep
set_option linter.unusedVariables false
set_option linter.unusedSimpArgs false
theorem two_at {F : Nat → Nat} {n : Nat} {x y : Nat} {t : List Nat} (h : ents F n = x :: y :: t) : 1 < n ∧ F 0 = x ∧ F 1 = y := by
  have hn : 1 < n := by have := congrArg List.length h; rw [ents_len] at this; simp at this; omega
  have h0 := congrArg (fun l => l[0]?) h
  have h1 := congrArg (fun l => l[1]?) h
  simp only [ents_get (show 0 < n by omega), ents_get hn] at h0 h1
  exact ⟨hn, Option.some.inj h0, Option.some.inj h1⟩
theorem repair_beat : repairE ((frameB beatE ++ frameB beatE).take 31) = (frameB beatE, 15) := by
  unfold repairE
  rw [read_beat, List.length_take, List.length_append, frame_beat_len, List.take_take]
  show ((frameB beatE ++ frameB beatE).take 16, _) = _
  have e : (frameB beatE ++ frameB beatE).take 16 = frameB beatE := by
    rw [show 16 = (frameB beatE).length from frame_beat_len.symm, List.take_left]
  rw [e]
  rfl
theorem beat_slice {w : World} {b : Nat} {t : TypeId} (h : w.heap[b]? = some (.cells #[.int .i64 1, .int .i64 2, .int .i64 100, .int .i64 100, .int .i64 10, .int .i64 0, .int .i64 0, .int .i64 0, .int .i64 0, .int .i64 1, .int .i64 2, .int .i64 100, .int .i64 100, .int .i64 10, .int .i64 0, .int .i64 0, .int .i64 0, .int .i64 0] t (0, 0))) : EvSl w (some ⟨b, 0, none⟩) 2 2 (fun _ => beatE) := by
  refine ⟨by omega, by omega, (fun e => by cases e), fun i => evs_len _, fun i hi => ⟨b, 0, rfl, fun j hj => ?_⟩⟩
  rw [cell_at h]
  rcases (by omega : i = 0 ∨ i = 1) with rfl | rfl <;> rcases nine_cases hj with rfl | rfl | rfl | rfl | rfl | rfl | rfl | rfl | rfl <;> rfl
theorem beat_one {w : World} {b : Nat} {t : TypeId} (h : w.heap[b]? = some (.cells #[.int .i64 1, .int .i64 2, .int .i64 100, .int .i64 100, .int .i64 10, .int .i64 0, .int .i64 0, .int .i64 0, .int .i64 0] t (0, 0))) : EvSl w (some ⟨b, 0, none⟩) 1 1 (fun _ => beatE) := by
  refine ⟨by omega, by omega, (fun e => by cases e), fun i => evs_len _, fun i hi => ⟨b, 0, rfl, fun j hj => ?_⟩⟩
  rw [cell_at h]
  obtain rfl : i = 0 := by omega
  rcases nine_cases hj with rfl | rfl | rfl | rfl | rfl | rfl | rfl | rfl | rfl <;> rfl
set_option maxRecDepth 4000 in
set_option maxHeartbeats 8000000 in
theorem awake12 (w : World) : Calls Try.prog 12 #[] w fun e w' => e = .returned (.bool true) ∧ Below w.heap.size w w' := by
  have N0 := Lib.hid (fun w' => beat32 w')
  unfold eC at N0
  dsimp only at N0
  go_enter Try.func12, Try.ntmps12
  go_wp2_with fail
  refine (N0.out _).mono ?_
  rintro e w1 ⟨rfl, b1⟩
  have B1 := Lib.hid b1
  clear b1
  go_wp2_with fail
  refine (N0.out _).mono ?_
  rintro e w2 ⟨rfl, b2⟩
  have B2 := Lib.hid (B1.out.trans (b2.mono B1.out.size))
  clear b2 B1
  go_wp2_with fail
  obtain ⟨w3, hw3⟩ : ∃ w3, w3 = w2.alloc (.cells #[.int .i64 1, .int .i64 2, .int .i64 100, .int .i64 100, .int .i64 10, .int .i64 0, .int .i64 0, .int .i64 0, .int .i64 0, .int .i64 1, .int .i64 2, .int .i64 100, .int .i64 100, .int .i64 10, .int .i64 0, .int .i64 0, .int .i64 0, .int .i64 0] 24) := ⟨_, rfl⟩
  have X3 : w3.heap[w2.heap.size]? = some (.cells #[.int .i64 1, .int .i64 2, .int .i64 100, .int .i64 100, .int .i64 10, .int .i64 0, .int .i64 0, .int .i64 0, .int .i64 0, .int .i64 1, .int .i64 2, .int .i64 100, .int .i64 100, .int .i64 10, .int .i64 0, .int .i64 0, .int .i64 0, .int .i64 0] 24 (0, 0)) := by rw [hw3]; exact heap_alloc_new w2 _
  have b3 : Below w2.heap.size w2 w3 := by rw [hw3]; (repeat' (first | (with_reducible exact Below.refl _ _) | (with_reducible assumption) | (with_reducible refine Below.drew ?_) | (with_reducible refine below_drewN ?_ _) | (with_reducible refine Below.alloc ?_ ?_ _) | (with_reducible refine Below.setCell ?_ ?_ _) | go_size))
  have B3 := Lib.hid (B2.out.trans (b3.mono B2.out.size))
  have CW := Lib.hid (write15 _ 2 2 _ w3 (beat_slice X3) (by omega))
  rw [show ents (fun _ => beatE) 2 = [beatE, beatE] from rfl, write_beats] at CW
  dsimp only at CW
  rw [← hw3]
  clear hw3 X3 b3 B2
  refine CW.out.mono ?_
  rintro e w4 ⟨v4, k4, R4, rfl, l4, r4, b4⟩
  have B4 := Lib.hid (B3.out.trans (b4.mono B3.out.size))
  obtain ⟨a4, c4, rfl, s4⟩ := BRow.toSl r4
  obtain ⟨t, ht, _⟩ := frame_beat
  have hk : k4 = 32 := by have := congrArg List.length l4; rw [ents_len, List.length_append, frame_beat_len] at this; exact this
  subst hk
  obtain ⟨_, r0, r1⟩ := two_at (l4.trans (by rw [ht]; rfl))
  obtain ⟨g, o, rfl, hg, _⟩ := BSl.byte s4 (i := 0) (by omega)
  have hc1 := s4.hm
  have hc2 := s4.hc
  have S4 := Lib.hid s4
  have L4 := Lib.hid l4
  have R0 := Lib.hid r0
  have R1 := Lib.hid r1
  have HB4 : Hid (∀ i, i < 32 → R4 i < 256) := Lib.hid (ents_byte l4 (fun x hx => by
    rcases List.mem_append.1 hx with h | h <;> exact frameB_byte _ x h))
  have L31 : Hid (ents R4 31 = (frameB beatE ++ frameB beatE).take 31) := Lib.hid (by rw [← l4, ents_cut (by omega)])
  have CR := Lib.hid (read17 (some ⟨g, o, none⟩) 31 c4 R4 w4 (s4.cut (by omega)) (fun i hi => HB4.out i (by omega)) (by omega))
  rw [L31.out, read_beat] at CR
  dsimp only at CR
  clear CW l4 r4 b4 s4 ht r0 r1 B3 hg
  go_wp2_with fail
  refine CR.out.mono ?_
  rintro e w5 ⟨v5, k5, E5, rfl, l5, r5, b5⟩
  obtain ⟨a5, c5, rfl, s5⟩ := EvRow.toSl r5
  have B5 := Lib.hid (B4.out.trans (b5.mono B4.out.size))
  have S5 := Lib.hid (S4.out.below b5)
  have E5S := Lib.hid s5
  have E5L := Lib.hid l5
  have CP := Lib.hid (repair19 (some ⟨g, o, none⟩) 31 c4 R4 w5 (BSl.cut S5.out (by omega)) (fun i hi => HB4.out i (by omega)) (by omega))
  rw [L31.out, repair_beat] at CP
  dsimp only at CP
  clear CR l5 r5 s5 b5 S4 B4
  go_wp2_with fail
  refine CP.out.mono ?_
  rintro e w6 ⟨v6, k6, R6, rfl, l6, r6, b6⟩
  have hk6 : k6 = 16 := by have := congrArg List.length l6; rw [ents_len, frame_beat_len] at this; exact this
  subst hk6
  obtain ⟨a6, c6, rfl, s6⟩ := BRow.toSl r6
  have B6 := Lib.hid (B5.out.trans (b6.mono B5.out.size))
  have S6 := Lib.hid (S5.out.below b6)
  have E6S := Lib.hid (E5S.out.below b6)
  have L6 := Lib.hid l6
  have C6 := Lib.hid s6
  clear CP l6 r6 s6 b6 S5 B5 E5S
  go_wp2_with fail
  obtain ⟨w7, hw7⟩ : ∃ w7, w7 = w6.alloc (.cells #[.int .u8 0] 5) := ⟨_, rfl⟩
  have X7 : w7.heap[w6.heap.size]? = some (.cells #[.int .u8 0] 5 (0, 0)) := by rw [hw7]; exact heap_alloc_new w6 _
  have b7 : Below w6.heap.size w6 w7 := by rw [hw7]; (repeat' (first | (with_reducible exact Below.refl _ _) | (with_reducible assumption) | (with_reducible refine Below.drew ?_) | (with_reducible refine below_drewN ?_ _) | (with_reducible refine Below.alloc ?_ ?_ _) | (with_reducible refine Below.setCell ?_ ?_ _) | go_size))
  have Z7 : BSl w7 (some ⟨w6.heap.size, 0, none⟩) 1 1 (fun _ => 0) := ⟨by omega, by omega, (fun e => by cases e), fun i => rfl, fun i hi => ⟨w6.heap.size, 0, rfl, fun j hj => by
    obtain rfl : i = 0 := by omega
    obtain rfl : j = 0 := by omega
    exact cell_at X7 0⟩⟩
  have CS := Lib.hid (seal22 _ 1 1 _ w7 Z7 (fun _ _ => by decide) (by omega))
  rw [show ents (fun _ => 0) 1 = [0] from rfl] at CS
  have B7 := Lib.hid (B6.out.trans (b7.mono B6.out.size))
  have S7 := Lib.hid (S6.out.below b7)
  have E7S := Lib.hid (E6S.out.below b7)
  have C7 := Lib.hid (C6.out.below b7)
  rw [← hw7]
  clear hw7 X7 Z7 b7 B6 S6 E6S C6
  refine CS.out.mono ?_
  rintro e w8 ⟨v8, k8, R8, rfl, l8, r8, b8⟩
  obtain ⟨a8, c8, rfl, s8⟩ := BRow.toSl r8
  have hk8 : k8 ≤ 1000 := by
    have := congrArg List.length l8
    have h2 := codeN_len (n := (([0] : List Nat).length : Int)) (by decide) (by decide)
    rw [ents_len, sealB_len] at this
    simp at this h2
    omega
  have CR := Lib.hid (read17 a8 k8 c8 R8 w8 s8 (ents_byte l8 (sealB_byte (fun x hx => by simp at hx; omega))) (by omega))
  rw [l8, read_none] at CR
  dsimp only at CR
  have B8 := Lib.hid (B7.out.trans (b8.mono B7.out.size))
  have S8 := Lib.hid (S7.out.below b8)
  have E8S := Lib.hid (E7S.out.below b8)
  have C8 := Lib.hid (C7.out.below b8)
  clear CS l8 r8 s8 b8 B7 S7 E7S C7 hk8
  go_wp2_with fail
  refine CR.out.mono ?_
  rintro e w9 ⟨v9, k9, E9, rfl, l9, r9, b9⟩
  obtain rfl : k9 = 0 := by have := congrArg List.length l9; rw [ents_len] at this; exact this
  obtain ⟨a9, c9, rfl, _⟩ := EvRow.toSl r9
  have B9 := Lib.hid (B8.out.trans (b9.mono B8.out.size))
  have S9 := Lib.hid (S8.out.below b9)
  have E9S := Lib.hid (E8S.out.below b9)
  have C9 := Lib.hid (C8.out.below b9)
  clear CR l9 r9 b9 B8 S8 E8S C8
  go_wp2_with fail
  refine (N0.out _).mono ?_
  rintro e wa ⟨rfl, ba⟩
  have BA := Lib.hid (B9.out.trans (ba.mono B9.out.size))
  have SA := Lib.hid (S9.out.below ba)
  have EA := Lib.hid (E9S.out.below ba)
  have CA := Lib.hid (C9.out.below ba)
  have CP := Lib.hid (append13 none 0 0 (fun _ => 0) beatE wa (BSl.none wa) (by omega))
  rw [append_yes framed_beat] at CP
  unfold eC beatE at CP
  dsimp only at CP
  clear ba B9 S9 E9S C9
  go_wp2_with fail
  refine CP.out.mono ?_
  rintro e wb ⟨vb, kb, Rb, rfl, lb, rb, bb⟩
  obtain ⟨ab, cb, rfl, sb⟩ := BRow.toSl rb
  have BB := Lib.hid (BA.out.trans (bb.mono BA.out.size))
  have SB := Lib.hid (SA.out.below bb)
  have EB := Lib.hid (EA.out.below bb)
  have CB := Lib.hid (CA.out.below bb)
  have SX := Lib.hid sb
  have LX : Hid (ents Rb kb = ents R6 16) := Lib.hid (by rw [lb, L6.out]; rfl)
  clear CP lb rb bb sb BA SA EA CA
  obtain ⟨g', o', e', hgb, d0⟩ := BSl.byte SB.out (i := 0) (by omega)
  cases e'
  obtain ⟨g', o', e', _, d1⟩ := BSl.byte SB.out (i := 1) (by omega)
  cases e'
  rw [R0.out, Nat.add_zero] at d0
  rw [R1.out] at d1
  have zg := szs hgb
  go_wp2_with fail
  refine (N0.out _).mono ?_
  rintro e wc ⟨rfl, bc⟩
  have BC := Lib.hid (BB.out.trans (bc.mono BB.out.size))
  have EC := Lib.hid (EB.out.below bc)
  have CC := Lib.hid (CB.out.below bc)
  have XC := Lib.hid (SX.out.below bc)
  clear bc BB EB CB SX d0 d1 zg SB
  go_wp2_with fail
  obtain ⟨wd, hwd⟩ : ∃ wd, wd = wc.alloc (.cells #[.int .i64 1, .int .i64 2, .int .i64 100, .int .i64 100, .int .i64 10, .int .i64 0, .int .i64 0, .int .i64 0, .int .i64 0] 24) := ⟨_, rfl⟩
  have XD : wd.heap[wc.heap.size]? = some (.cells #[.int .i64 1, .int .i64 2, .int .i64 100, .int .i64 100, .int .i64 10, .int .i64 0, .int .i64 0, .int .i64 0, .int .i64 0] 24 (0, 0)) := by rw [hwd]; exact heap_alloc_new wc _
  have bd : Below wc.heap.size wc wd := by rw [hwd]; (repeat' (first | (with_reducible exact Below.refl _ _) | (with_reducible assumption) | (with_reducible refine Below.drew ?_) | (with_reducible refine below_drewN ?_ _) | (with_reducible refine Below.alloc ?_ ?_ _) | (with_reducible refine Below.setCell ?_ ?_ _) | go_size))
  have BD := Lib.hid (BC.out.trans (bd.mono BC.out.size))
  have CE := same21 a5 k5 c5 E5 (some ⟨wc.heap.size, 0, none⟩) 1 1 (fun _ => beatE) wd (EC.out.below bd) (beat_one XD)
  rw [E5L.out, decide_eq_true (show [beatE] = ents (fun _ => beatE) 1 from rfl)] at CE
  replace CE := Lib.hid CE
  have CD := Lib.hid (CC.out.below bd)
  have XE := Lib.hid (XC.out.below bd)
  rw [← hwd]
  clear hwd XD bd BC EC CC XC
  refine CE.out.mono ?_
  rintro e we ⟨rfl, be⟩
  have BE := Lib.hid (BD.out.trans (be.mono BD.out.size))
  have q1 := convB (XE.out.below be)
  have q2 := convB (CD.out.below be)
  rw [LX.out] at q1
  have EQ : ((strB (ents R6 16)).toList == (strB (ents R6 16)).toList) = true := by simp
  clear CE be BD CD XE
  generalize strB (ents R6 16) = s1 at *
  go_wp2_with fail
  go_returns
  exact ⟨rfl, BE.out⟩
end Go.Proofs.Ytlnfhlmgnppcbaa
