/- The laws' own small functions: few, the examples. -/
import Derived.Test.YtanpefjbmpohdaaPL2
import Derived.Test.YtanpefjbmpohdaaP11
import Derived.Test.YtanpefjbmpohdaaD16
import Derived.Test.YtanpefjbmpohdaaBD21
namespace Go.Proofs.Ytanpefjbmpohdaa
open Go.RowKit Go.ChangeShapes Go.WideShapes Go.Deep
set_option linter.unusedVariables false
set_option linter.unusedSimpArgs false
def fewB (m k : Nat) : Bool := decide (m ≤ 40 ∧ k ≤ 12)
theorem few9 (ao am : Option Addr) (m c k c2 : Nat) (w : World) (h1 : m ≤ c) (h2 : c ≤ 9223372036854775807) (h3 : k ≤ c2) (h4 : c2 ≤ 9223372036854775807) :
    Calls Try.prog 9 #[.slice ao m c, .slice am k c2] w fun e w' => e = .returned (.bool (fewB m k)) ∧ w = w' := by
  by_cases hm : m ≤ 40
  · by_cases hk : k ≤ 12
    · have e : fewB m k = true := by simp [fewB, hm, hk]
      have HE := Lib.hid e
      have t1 : (m : Int) ≤ 40 := by omega
      have t2 : (k : Int) ≤ 12 := by omega
      clear e hm hk
      go_enter Try.func9, Try.ntmps9
      go_wp2_with fail
      go_returns
      exact ⟨by rw [HE.out]; rfl, rfl⟩
    · have e : fewB m k = false := by simp [fewB, hk]
      have HE := Lib.hid e
      have t1 : (m : Int) ≤ 40 := by omega
      have t2 : (12 : Int) < (k : Int) := by omega
      clear e hm hk
      go_enter Try.func9, Try.ntmps9
      go_wp2_with fail
      go_returns
      exact ⟨by rw [HE.out]; show Ending.returned (.bool (decide ((k : Int) ≤ 12))) = _; rw [decide_eq_false (by omega)], rfl⟩
  · have e : fewB m k = false := by simp [fewB, hm]
    have HE := Lib.hid e
    have t1 : (40 : Int) < (m : Int) := by omega
    clear e hm
    go_enter Try.func9, Try.ntmps9
    go_wp2_with fail
    go_returns
    exact ⟨by rw [HE.out]; rfl, rfl⟩
set_option maxHeartbeats 1000000 in
theorem same15 (a1 a2 : Option Addr) (n c1 c2 : Nat) (L : Nat → Wk) (w : World) (h1 : Sl w 4 a1 n c1 (wf L)) (h2 : Sl w 4 a2 n c2 (wf L)) :
    Calls Try.prog 15 #[.slice a1 n c1, .slice a2 n c2] w fun e w' => e = .returned (.bool true) ∧ Below w.heap.size w w' := by
  have q1 := h1.hm
  have q2 := h1.hc
  have q3 := h2.hm
  have q4 := h2.hc
  have S1 := Lib.hid h1
  have S2 := Lib.hid h2
  have tn : ((n : Int) != (n : Int)) = false := by simp
  clear h1 h2
  go_enter Try.func15, Try.ntmps15
  go_wp2_with fail
  go_loopw [5] (fun i wr => ∃ t : Nat, i = .int .i64 t ∧ t ≤ n ∧ Hid (Below w.heap.size w wr)) (fun i _ => n - (intOf i).toNat)
  case atStart => exact ⟨0, rfl, by omega, Lib.hid (by (repeat' (first | (with_reducible exact Below.refl _ _) | (with_reducible assumption) | (with_reducible refine Below.drew ?_) | (with_reducible refine below_drewN ?_ _) | (with_reducible refine Below.alloc ?_ ?_ _) | (with_reducible refine Below.setCell ?_ ?_ _) | go_size)))⟩
  case round =>
    obtain ⟨t, rfl, ht, hrel⟩ := hrel
    by_cases hlt : t < n
    · have tt : (t : Int) < (n : Int) := by omega
      obtain ⟨g, o, rfl, hg, x0, x1, x2, x3⟩ := (S1.out.below hrel.out).work hlt
      obtain ⟨g', o', rfl, hg', y0, y1, y2, y3⟩ := (S2.out.below hrel.out).work hlt
      have zg := szs hg
      have zg' := szs hg'
      generalize L t = x at *
      obtain ⟨x00, x01, x02, x03⟩ := x
      dsimp only at x0 x1 x2 x3 y0 y1 y2 y3
      go_wp2_with fail
      (refine region_all (fun i : Nat => World.drewN _ i) mixed (by kernel_rfl) ⟨1, rfl⟩ ?_; (repeat (any_goals (first | go_big_quiet_step (fail) | quiet_step (fail) | (refine wpQuiet_step (fun K hK => ?_); go_simp; split <;> (refine hK _ ?_; clear hK K))))); (all_goals (refine wpQuiet_nil (fun nq => ?_))))
      go_wp2_with fail
      go_roundw
      case rel => exact ⟨t + 1, by go_num, by omega, Lib.hid (by have := hrel.out; (have hszz := (this).size; (repeat' (first | (with_reducible exact Below.refl _ _) | (with_reducible assumption) | (with_reducible refine Below.drew ?_) | (with_reducible refine below_drewN ?_ _) | (with_reducible refine Below.alloc ?_ ?_ _) | (with_reducible refine Below.setCell ?_ ?_ _) | go_size))))⟩
      case measure => simp [intOf]; omega
    · obtain rfl : t = n := by omega
      go_wp2_with fail
      go_returns
      exact ⟨rfl, hrel.out⟩
/-- The examples. -/
def Jx : Nat → Jb
  | 0 => ⟨1, 30, 0⟩
  | 1 => ⟨2, 50, 0⟩
  | _ => ⟨3, 20, 1⟩
def Mx : Nat → Int
  | 0 => 3
  | _ => 1
def Lx : Nat → Wk
  | 0 => ⟨1, 0, 0, 50⟩
  | 1 => ⟨0, 1, 0, 30⟩
  | _ => ⟨2, 0, 50, 70⟩
theorem x_chk : chkE 3 Jx 2 Mx = 0 := by decide
theorem x_bnd : bndV 3 Jx 2 Mx = 50 := by decide
theorem x_pl0 : pl 3 Jx 2 Mx 0 = Lx 0 := by rfl
theorem x_pl1 : pl 3 Jx 2 Mx 1 = Lx 1 := by rfl
theorem x_pl2 : pl 3 Jx 2 Mx 2 = Lx 2 := by rfl
theorem x_end : endL (pl 3 Jx 2 Mx) 3 = 70 := by
  rw [end_congr (L' := Lx) (fun i hi => by rcases (by omega : i = 0 ∨ i = 1 ∨ i = 2) with rfl | rfl | rfl; exact x_pl0; exact x_pl1; exact x_pl2)]
  rfl
theorem x_valid : validP 3 Jx 2 Mx 3 (pl 3 Jx 2 Mx) := plan_valid x_chk
theorem cells_sl {w : World} {g s n c : Nat} {f : Nat → List Value} {t : TypeId} {cs : Array Value} (h : w.heap[g]? = some (.cells cs t (0, 0))) (hn : n ≤ c) (hc : c ≤ 1000) (hf : ∀ i, (f i).length = s) (hcs : ∀ i, i < n → ∀ j, j < s → cs[i * s + j]? = (f i)[j]?) : Sl w s (some ⟨g, 0, none⟩) n c f :=
  ⟨hn, by omega, (fun e => (by cases e)), hf, fun i hi => ⟨g, 0, rfl, fun j hj => by rw [Nat.zero_add]; exact (cell_at h (i * s + j)).trans (hcs i hi j hj)⟩⟩
/-- All but the first. -/
theorem Sl.tail {w : World} {g o n c : Nat} {L : Nat → Wk} (h : Sl w 4 (some ⟨g, o, none⟩) n c (wf L)) (hn : 1 ≤ n) : Sl w 4 (some ⟨g, o + 4, none⟩) (n - 1) (c - 1) (wf (fun i => L (i + 1))) := by
  have h1 := h.hm
  have h2 := h.hc
  refine ⟨by omega, by omega, (fun e => (by cases e)), fun i => rfl, fun i hi => ?_⟩
  obtain ⟨g', o', e, hc⟩ := h.cell (show i + 1 < n by omega)
  cases e
  refine ⟨g, o + 4, rfl, fun j hj => ?_⟩
  have := hc j hj
  rw [show o + (i + 1) * 4 + j = o + 4 + i * 4 + j by omega] at this
  exact this
theorem sample23 (w : World) : Calls Try.prog 23 #[] w fun e w' => ∃ a1 a2 c1 c2, e = .returned (.tuple #[.slice a1 3 c1, .slice a2 2 c2]) ∧ Sl w' 3 a1 3 c1 (jf Jx) ∧ Sl w' 1 a2 2 c2 (mf Mx) ∧ Below w.heap.size w w' := by
  go_enter Try.func23, Try.ntmps23
  go_wp2_with fail
  obtain ⟨w1, hw1⟩ : ∃ w1, w1 = w.alloc (.cells #[.int .i64 1, .int .i64 30, .int .i64 0, .int .i64 2, .int .i64 50, .int .i64 0, .int .i64 3, .int .i64 20, .int .i64 1] 40) := ⟨_, rfl⟩
  have hz : w1.heap.size = w.heap.size + 1 := by rw [hw1]; simp
  have b1 : Below w.heap.size w w1 := by rw [hw1]; exact (Below.refl _ _).alloc (Nat.le_refl _) _
  have x1 : w1.heap[w.heap.size]? = some (.cells #[.int .i64 1, .int .i64 30, .int .i64 0, .int .i64 2, .int .i64 50, .int .i64 0, .int .i64 3, .int .i64 20, .int .i64 1] 40) := by rw [hw1]; exact heap_alloc_new w _
  rw [← hw1, ← hz]
  have b2 : Below w1.heap.size w1 (w1.alloc (.cells #[.int .i64 3, .int .i64 1] 38)) := (Below.refl _ _).alloc (Nat.le_refl _) _
  go_returns
  refine ⟨_, _, 3, 2, rfl, (cells_sl (s := 3) x1 (by omega) (by omega) (fun i => rfl) (fun i hi j hj => ?_)).below b2, cells_sl (s := 1) (heap_alloc_new w1 _) (by omega) (by omega) (fun i => rfl) (fun i hi j hj => ?_), b1.trans (b2.mono b1.size)⟩
  · rcases (by omega : i = 0 ∨ i = 1 ∨ i = 2) with rfl | rfl | rfl <;> rcases (by omega : j = 0 ∨ j = 1 ∨ j = 2) with rfl | rfl | rfl <;> rfl
  · obtain rfl : j = 0 := by omega
    rcases (by omega : i = 0 ∨ i = 1) with rfl | rfl <;> rfl
theorem x_plN : plN 3 Jx 2 Mx = 3 := by decide
theorem x_til : ∀ i, i < 3 → inI (pl 3 Jx 2 Mx i).til := fun i hi => by
  rcases (by omega : i = 0 ∨ i = 1 ∨ i = 2) with rfl | rfl | rfl
  · rw [x_pl0]; unfold inI; decide
  · rw [x_pl1]; unfold inI; decide
  · rw [x_pl2]; unfold inI; decide
set_option maxHeartbeats 4000000 in
theorem awake10 (w : World) : Calls Try.prog 10 #[] w fun e w' => e = .returned (.bool true) ∧ Below w.heap.size w w' := by
  have HSA := Lib.hid (fun w' => sample23 w')
  go_enter Try.func10, Try.ntmps10
  go_wp2_with fail
  refine (HSA.out _).mono ?_
  rintro e w1 ⟨a1, a2, c1, c2, rfl, s1, s2, b1⟩
  have q1 := s1.hm
  have q2 := s1.hc
  have q3 := s2.hm
  have q4 := s2.hc
  have S1 := Lib.hid s1
  have S2 := Lib.hid s2
  have B1 := Lib.hid b1
  have HP := Lib.hid (plan11 a1 a2 3 c1 2 c2 Jx Mx w1 s1 s2)
  clear s1 s2 b1 HSA
  go_wp2_with fail
  refine HP.out.mono ?_
  rintro e w2 ⟨ao, cap, rfl, sl, b2⟩
  rw [x_plN] at sl ⊢
  rw [x_chk]
  have B2 := Lib.hid (B1.out.trans (b2.mono B1.out.size))
  have S3 := Lib.hid (S1.out.below b2)
  have S4 := Lib.hid (S2.out.below b2)
  have r1 := sl.hm
  have r2 := sl.hc
  have SL := Lib.hid sl
  have HB := Lib.hid (bound20 a1 a2 3 c1 2 c2 Jx Mx w2 S3.out S4.out)
  clear sl b2 HP S1 S2 B1
  go_wp2_with fail
  refine HB.out.mono ?_
  rintro e w3 ⟨rfl, b3⟩
  rw [x_chk, if_pos rfl, x_bnd]
  have B3 := Lib.hid (B2.out.trans (b3.mono B2.out.size))
  have S5 := Lib.hid (S3.out.below b3)
  have S6 := Lib.hid (S4.out.below b3)
  have SM := Lib.hid (SL.out.below b3)
  clear b3 HB S3 S4 B2 SL
  go_wp2_with fail
  obtain ⟨w4, hw4⟩ : ∃ w4, w4 = w3.alloc (.cells #[.int .i64 1, .int .i64 0, .int .i64 0, .int .i64 50, .int .i64 0, .int .i64 1, .int .i64 0, .int .i64 30, .int .i64 2, .int .i64 0, .int .i64 50, .int .i64 70] 43) := ⟨_, rfl⟩
  have b4 : Below w3.heap.size w3 w4 := by rw [hw4]; exact (Below.refl _ _).alloc (Nat.le_refl _) _
  have x4 : w4.heap[w3.heap.size]? = some (.cells #[.int .i64 1, .int .i64 0, .int .i64 0, .int .i64 50, .int .i64 0, .int .i64 1, .int .i64 0, .int .i64 30, .int .i64 2, .int .i64 0, .int .i64 50, .int .i64 70] 43) := by rw [hw4]; exact heap_alloc_new w3 _
  have SX : Sl w4 4 (some ⟨w3.heap.size, 0, none⟩) 3 3 (wf (pl 3 Jx 2 Mx)) := cells_sl x4 (by omega) (by omega) (fun i => rfl) (fun i hi j hj => by
    rcases (by omega : i = 0 ∨ i = 1 ∨ i = 2) with rfl | rfl | rfl
    all_goals
      unfold wf
      first | rw [x_pl0] | rw [x_pl1] | rw [x_pl2]
      rcases (by omega : j = 0 ∨ j = 1 ∨ j = 2 ∨ j = 3) with rfl | rfl | rfl | rfl <;> rfl)
  have C15 := Lib.hid (same15 ao _ 3 cap 3 (pl 3 Jx 2 Mx) w4 (SM.out.below b4) SX)
  have B4 := Lib.hid (B3.out.trans (b4.mono B3.out.size))
  have S7 := Lib.hid (S5.out.below b4)
  have S8 := Lib.hid (S6.out.below b4)
  have SN := Lib.hid (SM.out.below b4)
  rw [← hw4]
  clear b4 x4 hw4 SX SM S5 S6 B3
  refine C15.out.mono ?_
  rintro e w5 ⟨rfl, b5⟩
  have B5 := Lib.hid (B4.out.trans (b5.mono B4.out.size))
  have T7 := Lib.hid (S7.out.below b5)
  have T8 := Lib.hid (S8.out.below b5)
  have TN := Lib.hid (SN.out.below b5)
  have C18 := Lib.hid (end18 ao 3 cap (pl 3 Jx 2 Mx) w5 TN.out)
  clear b5 C15 S7 S8 SN B4
  go_wp2_with fail
  refine C18.out.mono ?_
  rintro e w6 ⟨rfl, b6⟩
  rw [x_end]
  have B6 := Lib.hid (B5.out.trans (b6.mono B5.out.size))
  have U7 := Lib.hid (T7.out.below b6)
  have U8 := Lib.hid (T8.out.below b6)
  have UN := Lib.hid (TN.out.below b6)
  have C16 := Lib.hid (valid16 a1 a2 ao 3 c1 2 c2 3 cap Jx Mx (pl 3 Jx 2 Mx) w6 U7.out U8.out UN.out x_til)
  clear b6 C18 T7 T8 TN B5
  go_wp2_with fail
  refine C16.out.mono ?_
  rintro e w7 ⟨rfl, b7⟩
  rw [vB_iff.2 x_valid]
  have B7 := Lib.hid (B6.out.trans (b7.mono B6.out.size))
  have V7 := Lib.hid (U7.out.below b7)
  have V8 := Lib.hid (U8.out.below b7)
  have VN := UN.out.below b7
  obtain ⟨g, o, rfl, _⟩ := VN.work (show 0 < 3 by omega)
  have VM : Sl w7 4 (some ⟨g, o + 4, none⟩) 2 (cap - 1) (wf (fun i => pl 3 Jx 2 Mx (i + 1))) := VN.tail (by omega)
  have C17 := Lib.hid (valid16 a1 a2 _ 3 c1 2 c2 2 (cap - 1) Jx Mx (fun i => pl 3 Jx 2 Mx (i + 1)) w7 V7.out V8.out VM (fun i hi => x_til (i + 1) (by omega)))
  have c1ne : ¬ cap = 1 := by omega
  clear b7 C16 U7 U8 UN B6 VN VM V7 V8
  go_wp2_with fail
  refine C17.out.mono ?_
  rintro e w8 ⟨rfl, b8⟩
  rw [vB_len (by omega)]
  have B8 := Lib.hid (B7.out.trans (b8.mono B7.out.size))
  clear b8
  go_wp2_with fail
  go_returns
  exact ⟨rfl, B8.out⟩
end Go.Proofs.Ytanpefjbmpohdaa
