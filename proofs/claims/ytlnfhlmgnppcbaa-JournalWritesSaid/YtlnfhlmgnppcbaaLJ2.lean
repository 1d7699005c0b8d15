/- The law JournalWrites. -/
import Derived.Test.YtlnfhlmgnppcbaaAWJ
namespace Go.Proofs.Ytlnfhlmgnppcbaa
open Go.RowKit Go.ChangeShapes Go.WideShapes Go.Deep
set_option linter.unusedVariables false
set_option linter.unusedSimpArgs false
theorem write_short {F : Nat → Ev} {n : Nat} (h40 : n ≤ 40) : writeE (ents F n) = if (ents F n).all framedB = false then ([], 1) else (framesB (ents F n), 0) := by
  unfold writeE
  split
  · rfl
  · rw [if_neg (by rw [ents_len]; omega)]
theorem write_long {F : Nat → Ev} {n M : Nat} (h0 : 0 < n) (h40 : n ≤ 40) (hM : 511 ≤ M) :
    ((writeE (ents F n)).2 = 0 ∧ (∀ v ∈ ents (fun j => F (j % n)) M, framedB v = true) ∧ writeE (ents (fun j => F (j % n)) M) = if 512 < M then ([], 8) else (framesB (ents (fun j => F (j % n)) M), 0)) ∨
    ((writeE (ents F n)).2 = 1 ∧ writeE (ents (fun j => F (j % n)) M) = ([], 1)) := by
  rw [write_short h40]
  by_cases ha : (ents F n).all framedB = false
  · right
    rw [if_pos ha]
    refine ⟨rfl, ?_⟩
    obtain ⟨v, hv, hf⟩ := List.all_eq_false.1 ha
    obtain ⟨i, hi, rfl⟩ := mem_ents.1 hv
    have : F i = (fun j => F (j % n)) i := by show F i = F (i % n); rw [Nat.mod_eq_of_lt hi]
    rw [this] at hf
    exact write_bad (F := fun j => F (j % n)) (j := i) (by omega) (by simpa using hf)
  · left
    rw [if_neg ha]
    have ha : (ents F n).all framedB = true := by
      cases h : (ents F n).all framedB
      · exact absurd h ha
      · rfl
    have hall : ∀ v ∈ ents (fun j => F (j % n)) M, framedB v = true := fun v hv => by
      obtain ⟨i, hi, rfl⟩ := mem_ents.1 hv
      exact List.all_eq_true.1 ha _ (mem_ents.2 ⟨i % n, Nat.mod_lt _ h0, rfl⟩)
    refine ⟨rfl, hall, write_good ?_⟩
    rw [List.all_eq_true]
    intro v hv
    exact hall v (List.mem_of_mem_take hv)
theorem read_empty : readE [] = ([], 0) := by
  have := read_frames (l := []) (by simp) (by simp)
  exact this
set_option maxRecDepth 20000 in
set_option maxHeartbeats 4000000 in
theorem run_journalWrites {H : Type} {enc : TypeId × Value → H} (W : World) (base : Nat) (v0 : Value) (d0 : DataW H) (p0 : List MemPlace) (hv0 : Value.okWide Try.prog W .any base 30 v0) (h0 : DataW.Trod enc Try.prog W 0 (fun _ => true) true 30 v0 d0 p0)
    (v1 : Value) (d1 : DataW H) (p1 : List MemPlace) (hv1 : Value.okWide Try.prog W .any base 3 v1) (h1 : DataW.Trod enc Try.prog W 0 (fun _ => true) true 3 v1 d1 p1) :
    Calls Try.prog 4 #[v0, v1] W fun e w' => e = .returned (.bool true) ∧ Below W.heap.size W w' := by
  obtain ⟨ao, n, c, F, rfl, hs, hF⟩ := open_events hv0 h0
  obtain ⟨many, rfl, rfl, rfl, _⟩ := open_int Try.underlying3 hv1 h1
  clear hv0 h0 hv1 h1 hF
  have AW := Lib.hid (fun w' => awake12 w')
  have hmc := hs.hm
  have hcc := hs.hc
  have HS := Lib.hid hs
  by_cases hn : 40 < n
  · have tn : (40 : Int) < (n : Int) := by omega
    go_enter Try.func4, Try.ntmps4
    go_wp2_with fail
    refine (AW.out _).mono ?_
    rintro e w1 ⟨rfl, b1⟩
    have B1 := Lib.hid b1
    clear b1
    go_wp2_with fail
    go_returns
    exact ⟨rfl, B1.out⟩
  · have t40 : decide ((40 : Int) < (n : Int)) = false := decide_eq_false (by omega)
    have tn : (n : Int) ≤ 40 := by omega
    have N1 := Lib.hid (fun w' (hb : Below W.heap.size W w') => write15 ao n c F w' (hs.below hb) (by omega))
    have N2 := Lib.hid (fun w' (hb : Below W.heap.size W w') => write16 ao n c F w' (hs.below hb) (by omega))
    have HLO := Lib.hid (fun (M : Nat) h0 hM => write_long (F := F) (n := n) (M := M) h0 (by omega) hM)
    obtain ⟨⟨l, x⟩, hX⟩ : ∃ X, X = writeE (ents F n) := ⟨_, rfl⟩
    rw [← hX] at N1 N2 HLO
    dsimp only at N1 N2 HLO
    clear hX hs
    have te : (x == x) = true := by simp
    go_enter Try.func4, Try.ntmps4
    go_wp2_with fail
    refine (N1.out _ (Below.refl _ _)).mono ?_
    rintro e w1 ⟨u1, k1, R1, rfl, l1, r1, b1⟩
    obtain ⟨a1, c1, rfl, s1⟩ := BRow.toSl r1
    have B1 := Lib.hid b1
    have S1 := Lib.hid s1
    have L1 := Lib.hid l1
    clear N1 r1 b1 s1 l1
    go_wp2_with fail
    refine (N2.out _ B1.out).mono ?_
    rintro e w2 ⟨u2, k2, R2, rfl, l2, r2, b2⟩
    obtain ⟨a2, c2, rfl, s2⟩ := BRow.toSl r2
    have B2 := Lib.hid (B1.out.trans (b2.mono B1.out.size))
    have q1 := convB (S1.out.below b2)
    have q2 := convB s2
    rw [L1.out] at q1
    rw [l2] at q2
    have EQ : ((strB l).toList == (strB l).toList) = true := by simp
    clear N2 r2 b2 s2 l2 L1 S1
    generalize strB l = s at *
    by_cases hm : 511 ≤ many ∧ many ≤ 514 ∧ 0 < n
    · obtain ⟨M, rfl⟩ := Int.eq_ofNat_of_zero_le (show 0 ≤ many by omega)
      have m1 : (511 : Int) ≤ (M : Int) := by omega
      have m2 : (M : Int) ≤ 514 := by omega
      have m3 : (0 : Int) < (n : Int) := by omega
      have m3b : decide (0 < n) = true := decide_eq_true (by omega)
      have hn0 : ((n : Int) == 0) = false := by simp; omega
      have HL := Lib.hid (HLO.out M (by omega) (by omega))
      clear HLO hm
      go_wp2_with fail
      go_loopw [9, 10] (fun s9 s10 wr => ∃ i : Nat, s10 = .int .i64 i ∧ i ≤ M ∧ Hid (EvRow wr W.heap.size s9 i (fun j => F (j % n))) ∧ Hid (Below W.heap.size W wr)) (fun _ s10 _ => M - (intOf s10).toNat)
      case atStart => exact ⟨0, rfl, by omega, Lib.hid (EvRow.none _ _ _), B2⟩
      case round =>
        obtain ⟨i, rfl, hi, hrow, hb⟩ := hrel
        have ROW := hrow
        have BW := hb
        clear hrow hb
        obtain ⟨b3, c3, rfl, sl3⟩ := EvRow.toSl ROW.out
        have SL3 := Lib.hid sl3
        clear sl3
        by_cases hlt : i < M
        · have tj : (i : Int) < (M : Int) := by omega
          have hmod : (i : Int).tmod (n : Int) = ((i % n : Nat) : Int) := by rw [Int.ofNat_tmod]
          have hml : i % n < n := Nat.mod_lt _ (by omega)
          have HFI : Hid (F (i % n) = (fun j => F (j % n)) i) := Lib.hid rfl
          obtain ⟨g, o, rfl, hg, ea⟩ := evs_at (HS.out.below BW.out) hml
          obtain ⟨q, hq⟩ : ∃ q, q = i % n := ⟨_, rfl⟩
          rw [← hq] at hmod hml ea HFI
          clear hq
          obtain ⟨y, hy⟩ : ∃ y, y = F q := ⟨_, rfl⟩
          rw [← hy] at ea HFI
          clear hy
          obtain ⟨x1, x2, x3, x4, x5, x6, x7, x8, x9⟩ := y
          (have y0 := (ea).c0; have y1 := (ea).c1; have y2 := (ea).c2; have y3 := (ea).c3; have y4 := (ea).c4; have y5 := (ea).c5; have y6 := (ea).c6; have y7 := (ea).c7; have y8 := (ea).c8); (try dsimp only at y0 y1 y2 y3 y4 y5 y6 y7 y8)
          have zg := szs hg
          have BB : Hid (Below wr.heap.size wr (wr.alloc (.cells #[.int .i64 x1, .int .i64 x2, .int .i64 x3, .int .i64 x4, .int .i64 x5, .int .i64 x6, .int .i64 x7, .int .i64 x8, .int .i64 x9] 24))) := Lib.hid (by (repeat' (first | (with_reducible exact Below.refl _ _) | (with_reducible assumption) | (with_reducible refine Below.drew ?_) | (with_reducible refine below_drewN ?_ _) | (with_reducible refine Below.alloc ?_ ?_ _) | (with_reducible refine Below.setCell ?_ ?_ _) | go_size)))
          have XB : Hid ((wr.alloc (.cells #[.int .i64 x1, .int .i64 x2, .int .i64 x3, .int .i64 x4, .int .i64 x5, .int .i64 x6, .int .i64 x7, .int .i64 x8, .int .i64 x9] 24)).heap[wr.heap.size]? = some (.cells #[.int .i64 x1, .int .i64 x2, .int .i64 x3, .int .i64 x4, .int .i64 x5, .int .i64 x6, .int .i64 x7, .int .i64 x8, .int .i64 x9] 24 (0, 0))) := Lib.hid (heap_alloc_new wr _)
          have BWB : Hid (Below W.heap.size W (wr.alloc (.cells #[.int .i64 x1, .int .i64 x2, .int .i64 x3, .int .i64 x4, .int .i64 x5, .int .i64 x6, .int .i64 x7, .int .i64 x8, .int .i64 x9] 24))) := Lib.hid (BW.out.trans (BB.out.mono BW.out.size))
          have ROWB : Hid (EvRow (wr.alloc (.cells #[.int .i64 x1, .int .i64 x2, .int .i64 x3, .int .i64 x4, .int .i64 x5, .int .i64 x6, .int .i64 x7, .int .i64 x8, .int .i64 x9] 24)) W.heap.size (.slice b3 i c3) i (fun j => F (j % n))) := Lib.hid (ROW.out.below BB.out)
          have leB : W.heap.size ≤ (wr.alloc (.cells #[.int .i64 x1, .int .i64 x2, .int .i64 x3, .int .i64 x4, .int .i64 x5, .int .i64 x6, .int .i64 x7, .int .i64 x8, .int .i64 x9] 24)).heap.size := BWB.out.size
          clear ea ROW BB
          go_wp2_with (at_builtin; first | (refine wpList_append_E _ rfl (.tmp 56) (.tmp 64) rfl W.heap.size _ i _ rfl ROWB.out wr.heap.size ⟨x1, x2, x3, x4, x5, x6, x7, x8, x9⟩ rfl 24 (0, 0) XB.out (by omega) leB ?_))
          intro v4 w4 r4 b4
          have R4 : Hid (EvRow w4 W.heap.size v4 (i + 1) (fun j => F (j % n))) := Lib.hid (r4.congr (fun j hj => by
            unfold upd
            split
            · rename_i he
              subst he
              exact HFI.out
            · rfl))
          have B4 := Lib.hid (BWB.out.trans b4)
          clear r4 b4 BWB ROWB leB XB
          go_wp2_with fail
          go_roundw
          case rel => exact ⟨i + 1, by go_num, by omega, R4, B4⟩
          case measure => simp [intOf]; omega
        · obtain rfl : i = M := by omega
          have CW := Lib.hid (write15 b3 i c3 _ wr SL3.out (by omega))
          have BW0 := BW
          rcases HL.out with ⟨rfl, hall, he⟩ | ⟨rfl, he⟩
          · by_cases h5 : 512 < i
            · have t5 : (512 : Int) < (i : Int) := by omega
              rw [he, if_pos h5] at CW
              dsimp only at CW
              clear HL
              go_wp2_with fail
              refine CW.out.mono ?_
              rintro e w3 ⟨u3, k3, R3, rfl, l3, r3, b3'⟩
              obtain rfl : k3 = 0 := by have := congrArg List.length l3; rw [ents_len] at this; exact this
              obtain ⟨a4, c4, rfl, s4⟩ := BRow.toSl r3
              have B3 := Lib.hid (BW.out.trans (b3'.mono BW.out.size))
              have CR := Lib.hid (read17 a4 0 c4 R3 w3 s4 (fun i hi => absurd hi (by omega)) (by omega))
              rw [l3, read_empty] at CR
              dsimp only at CR
              clear CW l3 r3 b3' s4
              go_wp2_with fail
              refine CR.out.mono ?_
              rintro e w4 ⟨v4, k4, E4, rfl, l4, r4, b4⟩
              obtain ⟨a5, c5, rfl, _⟩ := EvRow.toSl r4
              have B4 := Lib.hid (B3.out.trans (b4.mono B3.out.size))
              clear CR l4 r4 b4
              go_wp2_with fail
              refine (AW.out _).mono ?_
              rintro e w6 ⟨rfl, b6⟩
              have B6 := Lib.hid (B4.out.trans (b6.mono B4.out.size))
              clear b6 AW
              go_wp2_with fail
              go_returns
              exact ⟨rfl, B6.out⟩
            · have t5 : (i : Int) ≤ 512 := by omega
              rw [he, if_neg h5] at CW
              dsimp only at CW
              have HRF := Lib.hid (read_frames hall (by rw [ents_len]; omega))
              have HBY := Lib.hid (framesB_byte (ents (fun j => F (j % n)) i))
              have HLN := Lib.hid (framesB_len hall)
              clear hall he HL h5
              go_wp2_with fail
              refine CW.out.mono ?_
              rintro e w3 ⟨u3, k3, R3, rfl, l3, r3, b3'⟩
              obtain ⟨a4, c4, rfl, s4⟩ := BRow.toSl r3
              have hk3 : k3 ≤ 104 * 512 := by
                have h1 := congrArg List.length l3
                have h2 := HLN.out
                rw [ents_len] at h1 h2
                have h3 := Nat.mul_le_mul_left 104 (show i ≤ 512 by omega)
                omega
              have B3 := Lib.hid (BW.out.trans (b3'.mono BW.out.size))
              have CR := Lib.hid (read17 a4 k3 c4 R3 w3 s4 (ents_byte l3 HBY.out) (by omega))
              rw [l3, HRF.out] at CR
              dsimp only at CR
              rw [← l3, ents_len] at CR
              clear CW l3 r3 b3' s4 HRF HBY HLN
              go_wp2_with fail
              refine CR.out.mono ?_
              rintro e w4 ⟨v4, k4, E4, rfl, l4, r4, b4⟩
              obtain rfl : k4 = i := by have := congrArg List.length l4; rw [ents_len, ents_len] at this; exact this
              obtain ⟨a5, c5, rfl, _⟩ := EvRow.toSl r4
              have B4 := Lib.hid (B3.out.trans (b4.mono B3.out.size))
              clear CR l4 r4 b4
              go_wp2_with fail
              refine (AW.out _).mono ?_
              rintro e w6 ⟨rfl, b6⟩
              have B6 := Lib.hid (B4.out.trans (b6.mono B4.out.size))
              clear b6 AW
              go_wp2_with fail
              go_returns
              exact ⟨rfl, B6.out⟩
          · rw [he] at CW
            dsimp only at CW
            clear HL
            go_wp2_with fail
            refine CW.out.mono ?_
            rintro e w3 ⟨u3, k3, R3, rfl, l3, r3, b3'⟩
            obtain rfl : k3 = 0 := by have := congrArg List.length l3; rw [ents_len] at this; exact this
            obtain ⟨a4, c4, rfl, s4⟩ := BRow.toSl r3
            have B3 := Lib.hid (BW.out.trans (b3'.mono BW.out.size))
            have CR := Lib.hid (read17 a4 0 c4 R3 w3 s4 (fun i hi => absurd hi (by omega)) (by omega))
            rw [l3, read_empty] at CR
            dsimp only at CR
            clear CW l3 r3 b3' s4
            go_wp2_with fail
            refine CR.out.mono ?_
            rintro e w4 ⟨v4, k4, E4, rfl, l4, r4, b4⟩
            obtain ⟨a5, c5, rfl, _⟩ := EvRow.toSl r4
            have B4 := Lib.hid (B3.out.trans (b4.mono B3.out.size))
            clear CR l4 r4 b4
            go_wp2_with fail
            refine (AW.out _).mono ?_
            rintro e w6 ⟨rfl, b6⟩
            have B6 := Lib.hid (B4.out.trans (b6.mono B4.out.size))
            clear b6 AW
            go_wp2_with fail
            go_returns
            exact ⟨rfl, B6.out⟩
    · clear HLO
      by_cases m1 : 511 ≤ many
      · by_cases m2 : many ≤ 514
        · obtain rfl : n = 0 := by omega
          go_wp2_with fail
          refine (AW.out _).mono ?_
          rintro e w6 ⟨rfl, b6⟩
          have B6 := Lib.hid (B2.out.trans (b6.mono B2.out.size))
          clear b6 AW
          go_wp2_with fail
          go_returns
          exact ⟨rfl, B6.out⟩
        · have m2 : 514 < many := by omega
          go_wp2_with fail
          refine (AW.out _).mono ?_
          rintro e w6 ⟨rfl, b6⟩
          have B6 := Lib.hid (B2.out.trans (b6.mono B2.out.size))
          clear b6 AW
          go_wp2_with fail
          go_returns
          exact ⟨rfl, B6.out⟩
      · have m1 : many < 511 := by omega
        go_wp2_with fail
        refine (AW.out _).mono ?_
        rintro e w6 ⟨rfl, b6⟩
        have B6 := Lib.hid (B2.out.trans (b6.mono B2.out.size))
        clear b6 AW
        go_wp2_with fail
        go_returns
        exact ⟨rfl, B6.out⟩
end Go.Proofs.Ytlnfhlmgnppcbaa
