/- The program's Int: a number read out of bytes. -/
import Derived.Test.YtlnfhlmgnppcbaaWI1
import Derived.Test.YtlnfhlmgnppcbaaBC
namespace Go.Proofs.Ytlnfhlmgnppcbaa
open Go.RowKit Go.ChangeShapes Go.WideShapes Go.Deep
set_option linter.unusedVariables false
set_option linter.unusedSimpArgs false
def i3 (r : Int × Int × Int) : Value := .tuple #[.int .i64 r.1, .int .i64 r.2.1, .int .i64 r.2.2]
theorem intE_out {l : List Nat} {a : Int} (h : a < 0 ∨ (l.length : Int) < a) : intE l a = (0, 0, 1) := by unfold intE; rw [if_pos h]
theorem intE_in {l : List Nat} {p : Nat} (h : p ≤ l.length) {x : Int} {k : Nat} {e : Int} (hf : intF 0 0 (l.drop p) = (x, k, e)) : intE l p = if e = 0 then (x, (p : Int) + (k : Int), 0) else (0, 0, e) := by
  unfold intE
  rw [if_neg (by omega), Int.toNat_natCast, hf]
theorem BSl.byte {w : World} {ao : Option Addr} {m c : Nat} {F : Nat → Nat} (h : BSl w ao m c F) {i : Nat} (hi : i < m) : ∃ g o, ao = some ⟨g, o, none⟩ ∧ g < w.heap.size ∧ w.cell? ⟨g, o + i, none⟩ = some (.int .u8 (F i)) := by
  obtain ⟨g, o, e, hc⟩ := h.cell hi
  have h0 : w.cell? ⟨g, o + i * 1 + 0, none⟩ = some (.int .u8 (F i)) := hc 0 (by decide)
  rw [Nat.mul_one, Nat.add_zero] at h0
  exact ⟨g, o, e, cell_lt h0, h0⟩
theorem ents_drop {E : Type} (B : Nat → E) (n p : Nat) (hp : p ≤ n) : (ents B n).drop p = ents (fun i => B (p + i)) (n - p) := by
  apply List.ext_getElem?
  intro q
  rw [List.getElem?_drop]
  by_cases h : q < n - p
  · rw [ents_get (by omega), ents_get h]
  · rw [List.getElem?_eq_none (by rw [ents_len]; omega), List.getElem?_eq_none (by rw [ents_len]; omega)]
theorem ents_head {E : Type} (B : Nat → E) (n i : Nat) (hi : i < n) : (ents B n).drop i = B i :: (ents B n).drop (i + 1) := by
  rw [List.drop_eq_getElem_cons (by rw [ents_len]; exact hi)]
  congr 1
  have := ents_get (f := B) hi
  rw [List.getElem?_eq_getElem (by rw [ents_len]; exact hi)] at this
  exact Option.some.inj this
set_option maxRecDepth 2000 in
set_option maxHeartbeats 4000000 in
theorem int55 (ao : Option Addr) (n c : Nat) (B : Nat → Nat) (at' : Int) (w : World) (h : BSl w ao n c B) (hB : ∀ i, i < n → B i < 256) (hn : n ≤ 1000000) (ha : inI at') : Calls Try.prog 55 #[.slice ao n c, .int .i64 at'] w fun e w' => e = .returned (i3 (intE (ents B n) at')) ∧ Below w.heap.size w w' := by
  obtain ⟨ha1, ha2⟩ := ha
  have hmc := h.hm
  have hcc := h.hc
  by_cases hneg : at' < 0
  · rw [intE_out (.inl hneg)]
    clear h hB
    go_enter Try.func55, Try.ntmps55
    go_wp2_with fail
    go_returns
    exact ⟨rfl, by (repeat' (first | (with_reducible exact Below.refl _ _) | (with_reducible assumption) | (with_reducible refine Below.drew ?_) | (with_reducible refine below_drewN ?_ _) | (with_reducible refine Below.alloc ?_ ?_ _) | (with_reducible refine Below.setCell ?_ ?_ _) | go_size))⟩
  by_cases hbig : (n : Int) < at'
  · rw [intE_out (.inr (by rw [ents_len]; exact hbig))]
    clear h hB
    go_enter Try.func55, Try.ntmps55
    go_wp2_with fail
    go_returns
    exact ⟨rfl, by (repeat' (first | (with_reducible exact Below.refl _ _) | (with_reducible assumption) | (with_reducible refine Below.drew ?_) | (with_reducible refine below_drewN ?_ _) | (with_reducible refine Below.alloc ?_ ?_ _) | (with_reducible refine Below.setCell ?_ ?_ _) | go_size))⟩
  obtain ⟨p, rfl⟩ := Int.eq_ofNat_of_zero_le (show 0 ≤ at' by omega)
  have hpn : p ≤ n := by omega
  clear hneg hbig ha1 ha2
  obtain ⟨r, hr⟩ : ∃ r, r = i3 (intE (ents B n) p) := ⟨_, rfl⟩
  rw [← hr]
  have HR : Hid (∀ (x : Int) (k : Nat) (e : Int), intF 0 0 (ents (fun i => B (p + i)) (n - p)) = (x, k, e) → r = i3 (if e = 0 then (x, (p : Int) + (k : Int), 0) else (0, 0, e))) := Lib.hid (fun x k e he => by
    rw [hr, intE_in (x := x) (k := k) (e := e) (by rw [ents_len]; exact hpn) (by rw [ents_drop B n p hpn]; exact he)])
  clear hr
  obtain ⟨L, hL⟩ : ∃ L, L = ents (fun i => B (p + i)) (n - p) := ⟨_, rfl⟩
  rw [← hL] at HR
  have HL := Lib.hid hL
  clear hL
  have HB := Lib.hid hB
  have HS := Lib.hid h
  clear h hB
  have tp : decide ((p : Int) < 0) = false := decide_eq_false (by omega)
  have tpn : decide ((n : Int) < (p : Int)) = false := decide_eq_false (by omega)
  have tpi : (p : Int) ≤ (n : Int) := by omega
  rcases ao with _ | a
  · obtain ⟨rfl, rfl⟩ := HS.out.hno rfl
    obtain rfl : p = 0 := by omega
    have hr := HR.out 0 0 4 (by rw [HL.out]; simp [ents, intF_nil])
    have HRR := Lib.hid hr
    clear hr
    go_enter Try.func55, Try.ntmps55
    go_wp2_with fail
    go_loopw [22] (fun s22 wr => s22 = .int .i64 0 ∧ Hid (Below w.heap.size w wr)) (fun _ _ => 0)
    case atStart => exact ⟨rfl, Lib.hid (by (repeat' (first | (with_reducible exact Below.refl _ _) | (with_reducible assumption) | (with_reducible refine Below.drew ?_) | (with_reducible refine below_drewN ?_ _) | (with_reducible refine Below.alloc ?_ ?_ _) | (with_reducible refine Below.setCell ?_ ?_ _) | go_size)))⟩
    case round =>
      obtain ⟨rfl, hrel⟩ := hrel
      go_wp2_with fail
      go_returns
      exact ⟨by rw [HRR.out]; rfl, hrel.out⟩
  by_cases hp : p = n
  · subst hp
    have hr := HR.out 0 0 4 (by rw [HL.out]; simp [ents, intF_nil])
    have HRR := Lib.hid hr
    clear hr
    go_enter Try.func55, Try.ntmps55
    go_wp2_with fail
    all_goals
      go_loopw [22] (fun s22 wr => s22 = .int .i64 0 ∧ Hid (Below w.heap.size w wr)) (fun _ _ => 0)
      case atStart => exact ⟨rfl, Lib.hid (by (repeat' (first | (with_reducible exact Below.refl _ _) | (with_reducible assumption) | (with_reducible refine Below.drew ?_) | (with_reducible refine below_drewN ?_ _) | (with_reducible refine Below.alloc ?_ ?_ _) | (with_reducible refine Below.setCell ?_ ?_ _) | go_size)))⟩
      case round =>
        obtain ⟨rfl, hrel⟩ := hrel
        go_wp2_with fail
        go_returns
        exact ⟨by rw [HRR.out]; rfl, hrel.out⟩
  · have tpc : ¬ c = p := by omega
    go_enter Try.func55, Try.ntmps55
    go_wp2_with fail
    go_loopw [7, 22] (fun s7 s22 wr => ∃ (i z : Nat), s7 = .int .u64 z ∧ s22 = .int .i64 i ∧ i ≤ n - p ∧ i ≤ 10 ∧ z < 18446744073709551616 ∧ Hid ((i ≤ 9 → z < 2 ^ (7 * i)) ∧ intF 0 0 L = intF i z (L.drop i) ∧ Below w.heap.size w wr)) (fun _ s22 _ => n - p - (intOf s22).toNat)
    case atStart => exact ⟨0, 0, rfl, rfl, by omega, by omega, by decide, Lib.hid ⟨fun _ => by decide, rfl, by (repeat' (first | (with_reducible exact Below.refl _ _) | (with_reducible assumption) | (with_reducible refine Below.drew ?_) | (with_reducible refine below_drewN ?_ _) | (with_reducible refine Below.alloc ?_ ?_ _) | (with_reducible refine Below.setCell ?_ ?_ _) | go_size))⟩⟩
    case round =>
      obtain ⟨i, z, rfl, rfl, hi, hi10, hz, hrel⟩ := hrel
      have HREL := hrel
      clear hrel
      by_cases hlt : i < n - p
      · have tl : (i : Int) < ((n - p : Nat) : Int) := by omega
        obtain ⟨g', o', e', hg, A0⟩ := BSl.byte (HS.out.below HREL.out.2.2) (show p + i < n by omega)
        cases e'
        rw [← Nat.add_assoc] at A0
        have zg := szs hg
        have hx := HB.out (p + i) (by omega)
        have HLI : Hid (L.drop i = B (p + i) :: L.drop (i + 1)) := Lib.hid (by rw [HL.out]; exact ents_head _ _ i hlt)
        obtain ⟨x, hx'⟩ : ∃ x, x = B (p + i) := ⟨_, rfl⟩
        rw [← hx'] at A0 HLI hx
        clear hx'
        have HI := Lib.hid (HREL.out.2.1.trans (by rw [HLI.out, intF_cons]))
        by_cases h10 : i = 10
        · subst h10
          have hr := HR.out 0 0 3 (by rw [HI.out, if_pos rfl])
          have HRR := Lib.hid hr
          clear hr
          go_wp2_with fail
          go_returns
          exact ⟨by rw [HRR.out]; rfl, by have := HREL.out.2.2; (have hszz := (this).size; (repeat' (first | (with_reducible exact Below.refl _ _) | (with_reducible assumption) | (with_reducible refine Below.drew ?_) | (with_reducible refine below_drewN ?_ _) | (with_reducible refine Below.alloc ?_ ?_ _) | (with_reducible refine Below.setCell ?_ ?_ _) | go_size)))⟩
        · have t10 : ((i : Int) == 10) = false := by simp; omega
          have L7 := low7 hx
          have hsh : (7 * (i : Int)).toNat = 7 * i := by omega
          have hz1 := HREL.out.1
          obtain ⟨z', hz'⟩ := or_step (x := x) hz hz1 (show i ≤ 9 by omega)
          have hz2 := hz'.2.1
          have HZ := Lib.hid hz'
          clear hz' hz1
          by_cases hb : 128 ≤ x
          · have T7 := top7_yes hx hb
            go_wp2_with fail
            rw [HZ.out.1]
            refine ⟨⟨i + 1, z', rfl, by go_num, by omega, by omega, hz2, Lib.hid ⟨fun h9 => ?_, ?_, by have := HREL.out.2.2; (have hszz := (this).size; (repeat' (first | (with_reducible exact Below.refl _ _) | (with_reducible assumption) | (with_reducible refine Below.drew ?_) | (with_reducible refine below_drewN ?_ _) | (with_reducible refine Below.alloc ?_ ?_ _) | (with_reducible refine Below.setCell ?_ ?_ _) | go_size)))⟩⟩, by simp [intOf]; omega⟩
            · rw [HZ.out.2.2 (by omega)]
              exact (read_fits (i := i) (by omega) (HREL.out.1 (by omega)) (by omega) (by omega)).2
            · rw [HI.out, if_neg h10, if_pos hb]
              by_cases h9 : i = 9
              · subst h9; exact intF_ten _ _ _
              · rw [HZ.out.2.2 (by omega), show x % 128 = x - 128 by omega]
          · have T7 := top7_no (x := x) (by omega)
            have U8 : (x : Int) % 128 = x := by omega
            by_cases e1 : 0 < i ∧ x = 0
            · obtain ⟨e1, rfl⟩ := e1
              have hr := HR.out 0 0 3 (by rw [HI.out, if_neg h10, if_neg (by omega), if_pos (.inl ⟨e1, rfl⟩)])
              have HRR := Lib.hid hr
              have t1 : decide ((0 : Int) < (i : Int)) = true := decide_eq_true (by omega)
              clear hr
              go_wp2_with fail
              all_goals go_returns
              all_goals exact ⟨by rw [HRR.out]; rfl, by have := HREL.out.2.2; (have hszz := (this).size; (repeat' (first | (with_reducible exact Below.refl _ _) | (with_reducible assumption) | (with_reducible refine Below.drew ?_) | (with_reducible refine below_drewN ?_ _) | (with_reducible refine Below.alloc ?_ ?_ _) | (with_reducible refine Below.setCell ?_ ?_ _) | go_size)))⟩
            · by_cases e2 : i = 9 ∧ 1 < x
              · obtain ⟨rfl, e2⟩ := e2
                have hr := HR.out 0 0 3 (by rw [HI.out, if_neg h10, if_neg hb, if_pos (.inr ⟨rfl, e2⟩)])
                have HRR := Lib.hid hr
                have t1 : ((x : Int) == 0) = false := by simp; omega
                have t2 : decide ((1 : Int) < (x : Int)) = true := decide_eq_true (by omega)
                clear hr
                go_wp2_with fail
                all_goals go_returns
                all_goals exact ⟨by rw [HRR.out]; rfl, by have := HREL.out.2.2; (have hszz := (this).size; (repeat' (first | (with_reducible exact Below.refl _ _) | (with_reducible assumption) | (with_reducible refine Below.drew ?_) | (with_reducible refine below_drewN ?_ _) | (with_reducible refine Below.alloc ?_ ?_ _) | (with_reducible refine Below.setCell ?_ ?_ _) | go_size)))⟩
              · have hr := HR.out _ _ 0 (by rw [HI.out, if_neg h10, if_neg hb, if_neg (by omega)])
                have h9 : i = 9 → x % 128 ≤ 1 := by omega
                rw [show x * 2 ^ (7 * i) = x % 128 * 2 ^ (7 * i) by rw [Nat.mod_eq_of_lt (by omega)], ← HZ.out.2.2 h9] at hr
                have UB := unzz_bits hz2
                have hr2 : r = .tuple #[.int .i64 (bits .xor .i64 (wrap64 ((z' : Int) / 2)) (wrap64 (-(wrap64 ((z' % 2 : Nat) : Int))))), .int .i64 ((p : Int) + (i : Int) + 1), .int .i64 0] := by
                  rw [hr, if_pos rfl, i3, ← UB, show (p : Int) + ((i + 1 : Nat) : Int) = (p : Int) + (i : Int) + 1 by omega]
                  simp only [wrap64, IntKind.wrap_i64]
                have HRR := Lib.hid hr2
                clear hr2 UB
                have B1 := bit1 hz2
                have ZZ := HZ.out.1
                clear hr
                rw [U8] at ZZ
                replace ZZ := Lib.hid ZZ
                replace B1 := Lib.hid B1
                have hway : i = 0 ∨ (0 < i ∧ x ≠ 0 ∧ i ≠ 9) ∨ (x ≠ 0 ∧ i = 9 ∧ x ≤ 1) := by omega
                rcases hway with w3 | ⟨w3, w1, w2⟩ | ⟨w1, w3, w2⟩
                · have t1 : decide ((0 : Int) < (i : Int)) = false := decide_eq_false (by omega)
                  have t2 : ((i : Int) == 9) = false := by simp; omega
                  clear w3
                  go_wp2_with fail
                  all_goals simp only [ZZ.out, B1.out]
                  all_goals go_returns
                  all_goals exact ⟨by rw [HRR.out]; rfl, by have := HREL.out.2.2; (have hszz := (this).size; (repeat' (first | (with_reducible exact Below.refl _ _) | (with_reducible assumption) | (with_reducible refine Below.drew ?_) | (with_reducible refine below_drewN ?_ _) | (with_reducible refine Below.alloc ?_ ?_ _) | (with_reducible refine Below.setCell ?_ ?_ _) | go_size)))⟩
                · have t1 : ((x : Int) == 0) = false := by simp; omega
                  have t2 : ((i : Int) == 9) = false := by simp; omega
                  go_wp2_with fail
                  all_goals simp only [ZZ.out, B1.out]
                  all_goals go_returns
                  all_goals exact ⟨by rw [HRR.out]; rfl, by have := HREL.out.2.2; (have hszz := (this).size; (repeat' (first | (with_reducible exact Below.refl _ _) | (with_reducible assumption) | (with_reducible refine Below.drew ?_) | (with_reducible refine below_drewN ?_ _) | (with_reducible refine Below.alloc ?_ ?_ _) | (with_reducible refine Below.setCell ?_ ?_ _) | go_size)))⟩
                · have t1 : ((x : Int) == 0) = false := by simp; omega
                  have t3 : ((i : Int) == 9) = true := by simp; omega
                  have t2 : decide ((1 : Int) < (x : Int)) = false := decide_eq_false (by omega)
                  clear w3
                  go_wp2_with fail
                  all_goals simp only [ZZ.out, B1.out]
                  all_goals go_returns
                  all_goals exact ⟨by rw [HRR.out]; rfl, by have := HREL.out.2.2; (have hszz := (this).size; (repeat' (first | (with_reducible exact Below.refl _ _) | (with_reducible assumption) | (with_reducible refine Below.drew ?_) | (with_reducible refine below_drewN ?_ _) | (with_reducible refine Below.alloc ?_ ?_ _) | (with_reducible refine Below.setCell ?_ ?_ _) | go_size)))⟩
      · obtain rfl : i = n - p := by omega
        have hd : L.drop (n - p) = [] := by rw [HL.out]; exact List.drop_eq_nil_of_le (by rw [ents_len]; omega)
        have HI := Lib.hid (HREL.out.2.1.trans (by rw [hd, intF_nil]))
        clear hd
        by_cases h10 : 10 ≤ n - p
        · have hr := HR.out 0 0 3 (by rw [HI.out, if_pos h10])
          have HRR := Lib.hid hr
          have t1 : (10 : Int) ≤ ((n - p : Nat) : Int) := by omega
          have t2 : (10 : Int) ≤ (n : Int) - (p : Int) := by omega
          clear hr
          go_wp2_with fail
          go_returns
          exact ⟨by rw [HRR.out]; rfl, HREL.out.2.2⟩
        · have hr := HR.out 0 0 4 (by rw [HI.out, if_neg h10])
          have HRR := Lib.hid hr
          have t1 : ((n - p : Nat) : Int) < 10 := by omega
          have t2 : (n : Int) - (p : Int) < 10 := by omega
          clear hr
          go_wp2_with fail
          go_returns
          exact ⟨by rw [HRR.out]; rfl, HREL.out.2.2⟩
end Go.Proofs.Ytlnfhlmgnppcbaa
