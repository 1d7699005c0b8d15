/- Contracts: Bounds of layer drift and its closure. -/
import Derived.Test.YtmhnkfcbbjbpfaaDC
namespace Go.Proofs.Ytmhnkfcbbjbpfaa
open Go.RowKit
set_option linter.unusedVariables false
set_option linter.unusedSimpArgs false

/-- The ends of Bounds behind k synchronizations. -/
def bLo (L : Nat → Sy) (p t : Int) : Nat → Int
  | 0 => 0
  | k + 1 => max (bLo L p t k) (alLo (L k) p t)
def bHi (L : Nat → Sy) (p t : Int) : Nat → Int
  | 0 => 4294943999
  | k + 1 => min (bHi L p t k) (alHi (L k) p t)
theorem bLo_succ (L : Nat → Sy) (p t : Int) (k : Nat) : bLo L p t (k + 1) = max (bLo L p t k) (alLo (L k) p t) := rfl
theorem bHi_succ (L : Nat → Sy) (p t : Int) (k : Nat) : bHi L p t (k + 1) = min (bHi L p t k) (alHi (L k) p t) := rfl
open Classical in
noncomputable def boundsV (len : Nat) (L : Nat → Sy) (p t : Int) : Value :=
  if syncE len L ≠ 0 then .tuple #[.agg #[.int .i64 0, .int .i64 0], .int .i64 (syncE len L)]
  else if ¬ (isRate p = true ∧ isMom t = true) then .tuple #[.agg #[.int .i64 0, .int .i64 0], .int .i64 1]
  else if bHi L p t len < bLo L p t len then .tuple #[.agg #[.int .i64 0, .int .i64 0], .int .i64 10]
  else .tuple #[.agg #[.int .i64 (bLo L p t len), .int .i64 (bHi L p t len)], .int .i64 0]
theorem check_okS {len : Nat} {L : Nat → Sy} (h : syncE len L = 0) : 0 < len ∧ len ≤ 32 ∧ (∀ i, i < len → okS (L i)) ∧ (∀ i, i + 1 < len → (L i).loc < (L (i + 1)).loc) := by
  unfold syncE at h
  split at h
  · cases h
  split at h
  · cases h
  split at h
  · cases h
  split at h
  · cases h
  rename_i h0 h1 h2 h3
  refine ⟨by omega, by omega, fun i hi => ?_, fun i hi => ?_⟩
  · rw [← badS_no]
    cases hb : badS (L i)
    · rfl
    · exact absurd ⟨i, hi, hb⟩ h2
  · rcases Int.lt_or_le (L i).loc (L (i + 1)).loc with h | h
    · exact h
    · exact absurd ⟨i, hi, h⟩ h3

theorem clos65 (lo hi a b : Int) (O : Nat) (w : World) (h0 : w.cell? ⟨O, 0, none⟩ = some (.int .i64 a)) (h1 : w.cell? ⟨O, 1, none⟩ = some (.int .i64 b)) (f0 : w.frozen? ⟨O, 0, none⟩ = false) (f1 : w.frozen? ⟨O, 1, none⟩ = false) :
    Calls Try.prog 65 #[.int .i64 lo, .int .i64 hi, .pointer (some ⟨O, 0, none⟩)] w fun e w' => e = .returned (.tuple #[]) ∧ (w.setCell ⟨O, 0, none⟩ (.int .i64 (max a lo))).setCell ⟨O, 1, none⟩ (.int .i64 (min b hi)) = w' := by
  go_enter Try.func65, Try.ntmps65
  go_wp2
  all_goals go_returns
  all_goals refine ⟨rfl, ?_⟩
  all_goals (first | rfl | (rw [show max a lo = lo by omega, show min b hi = hi by omega]; done) | (rw [show max a lo = lo by omega, show min b hi = b by omega]; done) | (rw [show max a lo = a by omega, show min b hi = hi by omega]; done) | (rw [show max a lo = a by omega, show min b hi = b by omega]; done))

set_option maxHeartbeats 2000000 in
theorem bounds54 (a : Option Addr) (len cap : Nat) (L : Nat → Sy) (p t : Int) (w : World) (hl : len ≤ cap) (hm : cap ≤ 9223372036854775807) (hS : SySl w a len L) :
    Calls Try.prog 54 #[.slice a len cap, .int .i64 p, .int .i64 t] w fun e w' => e = .returned (boundsV len L p t) ∧ Below w.heap.size w w' := by
  by_cases c0 : syncE len L = 0
  rotate_left
  · have E : boundsV len L p t = .tuple #[.agg #[.int .i64 0, .int .i64 0], .int .i64 (syncE len L)] := by rw [boundsV, if_pos c0]
    rw [E]
    have c0' : (syncE len L == 0) = false := by simpa using c0
    have hS2 : ∀ o, SySl (w.alloc o) a len L := fun o => hS.kept ((Below.refl _ _).alloc (Nat.le_refl _) _)
    have H2 := Lib.hid hS2
    clear hS hS2
    go_enter Try.func54, Try.ntmps54
    go_wp2_with (go_at_call 62; refine (check62 a len cap L _ hl hm (H2.out _)).mono ?_; rintro e w1 ⟨rfl, hb⟩; have hk := bcell hb)
    refine bodyPost_ret (v := .tuple #[.agg #[.int .i64 0, .int .i64 0], .int .i64 (syncE len L)]) (by simp [results, Try.results54, go_sem, hk]) rfl ⟨rfl, ?_⟩
    have hb2 := (((Below.refl w.heap.size w).alloc (Nat.le_refl _) _)).trans (hb.mono (by go_size))
    (repeat' (first | (with_reducible exact Below.refl _ _) | (with_reducible assumption) | (with_reducible refine Below.drew ?_) | (with_reducible refine below_drewN ?_ _) | (with_reducible refine Below.alloc ?_ ?_ _) | (with_reducible refine Below.setCell ?_ ?_ _) | go_size))
  have hSA : ∀ w1, Below (w.alloc (.cells #[.int .i64 0, .int .i64 0] 69)).heap.size (w.alloc (.cells #[.int .i64 0, .int .i64 0] 69)) w1 → Below w.heap.size w w1 := fun w1 hb => (((Below.refl w.heap.size w).alloc (Nat.le_refl _) _)).trans (hb.mono (by go_size))
  have hS2 : ∀ o, SySl (w.alloc o) a len L := fun o => hS.kept ((Below.refl _ _).alloc (Nat.le_refl _) _)
  have H2 := Lib.hid hS2
  have HA := Lib.hid hSA
  clear hS2 hSA
  by_cases c1 : isRate p = true ∧ isMom t = true
  rotate_left
  · have E : boundsV len L p t = .tuple #[.agg #[.int .i64 0, .int .i64 0], .int .i64 1] := by rw [boundsV, if_neg (by simpa using c0), if_pos c1]
    rw [E]
    have C := fun w h => (check62 a len cap L w hl hm h)
    rw [c0] at C
    clear c0 E
    have c1' : isRate p = false ∨ (isRate p = true ∧ isMom t = false) := by
      cases h1 : isRate p <;> cases h2 : isMom t <;> simp [h1, h2] at c1 ⊢
    clear c1
    rcases c1' with g1 | ⟨g1, g2⟩
    all_goals
      go_enter Try.func54, Try.ntmps54
      go_wp2_with (first
        | (go_at_call 62; refine (C _ (H2.out _)).mono ?_; rintro e w1 ⟨rfl, hb⟩; have hk := bcell hb)
        | (go_at_call 63; refine (rate63 _ _).mono ?_; rintro e w' ⟨rfl, rfl⟩)
        | (go_at_call 64; refine (moment64 _ _).mono ?_; rintro e w' ⟨rfl, rfl⟩))
      refine bodyPost_ret (v := .tuple #[.agg #[.int .i64 0, .int .i64 0], .int .i64 1]) (by simp [results, Try.results54, go_sem, hk]) rfl ⟨rfl, ?_⟩
      have hb2 := HA.out _ hb
      (repeat' (first | (with_reducible exact Below.refl _ _) | (with_reducible assumption) | (with_reducible refine Below.drew ?_) | (with_reducible refine below_drewN ?_ _) | (with_reducible refine Below.alloc ?_ ?_ _) | (with_reducible refine Below.setCell ?_ ?_ _) | go_size))
  obtain ⟨g1, g2⟩ := c1
  obtain ⟨p0, p1⟩ := isRate_iff.1 g1
  obtain ⟨t0, t1⟩ := isMom_iff.1 g2
  obtain ⟨n0, n1, hok, hord⟩ := check_okS c0
  have E : boundsV len L p t = if bHi L p t len < bLo L p t len then .tuple #[.agg #[.int .i64 0, .int .i64 0], .int .i64 10] else .tuple #[.agg #[.int .i64 (bLo L p t len), .int .i64 (bHi L p t len)], .int .i64 0] := by
    rw [boundsV, if_neg (by simpa using c0), if_neg (by simp [g1, g2])]
  rw [E]
  have C := fun w h => (check62 a len cap L w hl hm h)
  rw [c0] at C
  clear c0 E
  obtain ⟨b, off, rfl, hcc⟩ := hS.all (by omega)
  have HS := Lib.hid hcc
  have HO := Lib.hid hok
  clear hS hcc hok hord
  go_enter Try.func54, Try.ntmps54
  go_wp2_with (first
        | (go_at_call 62; refine (C _ (H2.out _)).mono ?_; rintro e w1 ⟨rfl, hb⟩; have hk := bcell hb)
        | (go_at_call 63; refine (rate63 _ _).mono ?_; rintro e w' ⟨rfl, rfl⟩)
        | (go_at_call 64; refine (moment64 _ _).mono ?_; rintro e w' ⟨rfl, rfl⟩))
  have hR : w.heap.size < w1.heap.size := by have := hb.size; simp at this; omega
  have zR := szs hR
  have hW := HA.out _ hb
  go_loopw [34] (fun c wr => ∃ k : Nat, k ≤ len ∧ c = .int .i64 k ∧ Below w.heap.size w wr ∧
      ((wr.cell? ⟨w.heap.size, 0, none⟩ = some (.int .i64 0) ∧ wr.cell? ⟨w.heap.size, 1, none⟩ = some (.int .i64 0)) ∧ wr.frozen? ⟨w.heap.size, 0, none⟩ = false ∧ wr.frozen? ⟨w.heap.size, 1, none⟩ = false) ∧
      ((wr.cell? ⟨w1.heap.size, 0, none⟩ = some (.int .i64 (bLo L p t k)) ∧ wr.cell? ⟨w1.heap.size, 1, none⟩ = some (.int .i64 (bHi L p t k))) ∧ wr.frozen? ⟨w1.heap.size, 0, none⟩ = false ∧ wr.frozen? ⟨w1.heap.size, 1, none⟩ = false)) (fun c _ => len - (intOf c).toNat)
  case atStart =>
    refine ⟨0, Nat.zero_le _, rfl, by (have hszz := (hW).size; (repeat' (first | (with_reducible exact Below.refl _ _) | (with_reducible assumption) | (with_reducible refine Below.drew ?_) | (with_reducible refine below_drewN ?_ _) | (with_reducible refine Below.alloc ?_ ?_ _) | (with_reducible refine Below.setCell ?_ ?_ _) | go_size))), ?_, ?_⟩
    · simp [go_sem, hk, zR]
    · simp only [bLo, bHi]; simp [go_sem]
  case round =>
    obtain ⟨k, hk', rfl, hbel, ⟨⟨r0, r1⟩, s0, s1⟩, ⟨q0, q1⟩, f0, f1⟩ := hrel
    clear hk hb hW
    have zO := szs (cell_lt q0)
    have zR2 := szs (cell_lt r0)
    dsimp only at zO zR2
    by_cases hlt : k < len
    · obtain ⟨d0, d1, d2⟩ := HS.out k hlt
      have e0 := cell_kept hbel d0
      have e1 := cell_kept hbel d1
      have e2 := cell_kept hbel d2
      have i0 : (k : Int) < (len : Int) := by omega
      obtain ⟨⟨y0, y1⟩, y2, y3, y4⟩ := HO.out k hlt
      clear d0 d1 d2
      by_cases h : (L k).loc ≤ t
      · have eL : Hid (bLo L p t (k + 1) = max (bLo L p t k) ((L k).frm + elLo (t - (L k).loc) p)) := by rw [bLo_succ, alLo, if_pos h]; rfl
        have eH : Hid (bHi L p t (k + 1) = min (bHi L p t k) ((L k).til + elHi (t - (L k).loc) p)) := by rw [bHi_succ, alHi, if_pos h]; rfl
        have bd := el_bd (t - (L k).loc) p (by omega) (by omega) p0 p1
        go_wp2_with (go_at_call 66; refine (elapsed66 (t - (L k).loc) p _ (by omega) (by omega) p0 p1).mono ?_; rintro e w2 ⟨rfl, hb2⟩; have hk2 := bcell hb2; have z2 := szs (a := wr.heap.size) (b := w2.heap.size) (by have := hb2.size; simp at this; omega); have z3 := szs (a := w1.heap.size) (b := w2.heap.size) (by have := z2.1; have := zO.1; omega); have z4 := szs (a := w.heap.size) (b := w2.heap.size) (by have := z2.1; have := zR2.1; omega))
        refine (clos65 _ _ (bLo L p t k) (bHi L p t k) w1.heap.size _ (by simp [go_sem, hk2, zO, z3, q0]) (by simp [go_sem, hk2, zO, z3, q1]) (by simp [go_sem, hk2, zO, z3, f0]) (by simp [go_sem, hk2, zO, z3, f1])).mono ?_
        rintro e w3 ⟨rfl, rfl⟩
        have hb3 : Below w.heap.size w w2 := (hbel.alloc (by omega) _).trans (hb2.mono (by go_size))
        go_wp2
        go_roundw
        case rel =>
          refine ⟨k + 1, by omega, by go_num, ?_, ?_, ?_⟩
          · (have hszz := (hb3).size; (repeat' (first | (with_reducible exact Below.refl _ _) | (with_reducible assumption) | (with_reducible refine Below.drew ?_) | (with_reducible refine below_drewN ?_ _) | (with_reducible refine Below.alloc ?_ ?_ _) | (with_reducible refine Below.setCell ?_ ?_ _) | go_size)))
          · simp [go_sem, hk2, zO, z3, zR2, z4, r0, r1, s0, s1, hR, Nat.ne_of_lt hR, Nat.ne_of_gt hR]
          · rw [eL.out, eH.out]; simp [go_sem, hk2, zO, z3, zR2, z4, q0, q1, f0, f1]
        case measure => simp [intOf]; omega
      · have h' : t < (L k).loc := by omega
        have eL : Hid (bLo L p t (k + 1) = max (bLo L p t k) ((L k).frm - elHi ((L k).loc - t) p)) := by rw [bLo_succ, alLo, if_neg h]; rfl
        have eH : Hid (bHi L p t (k + 1) = min (bHi L p t k) ((L k).til - elLo ((L k).loc - t) p)) := by rw [bHi_succ, alHi, if_neg h]; rfl
        have bd := el_bd ((L k).loc - t) p (by omega) (by omega) p0 p1
        go_wp2_with (go_at_call 66; refine (elapsed66 ((L k).loc - t) p _ (by omega) (by omega) p0 p1).mono ?_; rintro e w2 ⟨rfl, hb2⟩; have hk2 := bcell hb2; have z2 := szs (a := wr.heap.size) (b := w2.heap.size) (by have := hb2.size; simp at this; omega); have z3 := szs (a := w1.heap.size) (b := w2.heap.size) (by have := z2.1; have := zO.1; omega); have z4 := szs (a := w.heap.size) (b := w2.heap.size) (by have := z2.1; have := zR2.1; omega))
        refine (clos65 _ _ (bLo L p t k) (bHi L p t k) w1.heap.size _ (by simp [go_sem, hk2, zO, z3, q0]) (by simp [go_sem, hk2, zO, z3, q1]) (by simp [go_sem, hk2, zO, z3, f0]) (by simp [go_sem, hk2, zO, z3, f1])).mono ?_
        rintro e w3 ⟨rfl, rfl⟩
        have hb3 : Below w.heap.size w w2 := (hbel.alloc (by omega) _).trans (hb2.mono (by go_size))
        go_wp2
        go_roundw
        case rel =>
          refine ⟨k + 1, by omega, by go_num, ?_, ?_, ?_⟩
          · (have hszz := (hb3).size; (repeat' (first | (with_reducible exact Below.refl _ _) | (with_reducible assumption) | (with_reducible refine Below.drew ?_) | (with_reducible refine below_drewN ?_ _) | (with_reducible refine Below.alloc ?_ ?_ _) | (with_reducible refine Below.setCell ?_ ?_ _) | go_size)))
          · simp [go_sem, hk2, zO, z3, zR2, z4, r0, r1, s0, s1, hR, Nat.ne_of_lt hR, Nat.ne_of_gt hR]
          · rw [eL.out, eH.out]; simp [go_sem, hk2, zO, z3, zR2, z4, q0, q1, f0, f1]
        case measure => simp [intOf]; omega
    · obtain rfl : k = len := by omega
      by_cases hx : bHi L p t k < bLo L p t k
      · go_wp2
        refine bodyPost_ret (v := .tuple #[.agg #[.int .i64 0, .int .i64 0], .int .i64 10]) (by simp [results, Try.results54, go_sem, r0, r1]) rfl ⟨rfl, ?_⟩
        (have hszz := (hbel).size; (repeat' (first | (with_reducible exact Below.refl _ _) | (with_reducible assumption) | (with_reducible refine Below.drew ?_) | (with_reducible refine below_drewN ?_ _) | (with_reducible refine Below.alloc ?_ ?_ _) | (with_reducible refine Below.setCell ?_ ?_ _) | go_size)))
      · go_wp2
        refine bodyPost_ret (v := .tuple #[.agg #[.int .i64 (bLo L p t k), .int .i64 (bHi L p t k)], .int .i64 0]) (by simp [results, Try.results54, go_sem, r0, r1]) rfl ⟨rfl, ?_⟩
        (have hszz := (hbel).size; (repeat' (first | (with_reducible exact Below.refl _ _) | (with_reducible assumption) | (with_reducible refine Below.drew ?_) | (with_reducible refine below_drewN ?_ _) | (with_reducible refine Below.alloc ?_ ?_ _) | (with_reducible refine Below.setCell ?_ ?_ _) | go_size)))
end Go.Proofs.Ytmhnkfcbbjbpfaa
