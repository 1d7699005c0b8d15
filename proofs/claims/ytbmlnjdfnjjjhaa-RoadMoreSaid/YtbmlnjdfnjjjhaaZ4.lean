/- The examples of the chapter walked. -/
import Derived.Test.YtbmlnjdfnjjjhaaZ3
namespace Go.Proofs.Ytbmlnjdfnjjjhaa
open Go.RowKit
set_option linter.unusedVariables false
set_option linter.unusedSimpArgs false
open Rd
theorem ints_lit {w : World} {b : Nat} {cs : Array Value} {e : TypeId} {fz : Nat × Nat} (h : w.heap[b]? = some (.cells cs e fz)) (n : Nat) (f : Nat → Int) (hf : ∀ i, i < n → cs[i]? = some (.int .i64 (f i))) : Ints w (some ⟨b, 0, none⟩) n f := fun i hi => ⟨b, 0, rfl, fun j hj => by
  obtain rfl : j = 0 := by omega
  rw [Nat.zero_add, Nat.mul_one, Nat.add_zero, cell_at h, hf i hi]; rfl⟩
theorem ints_one {w : World} {b : Nat} {x : Int} {e : TypeId} {fz : Nat × Nat} (h : w.heap[b]? = some (.cells #[.int .i64 x] e fz)) : Ints w (some ⟨b, 0, none⟩) 1 (fun i => [x].getD i 0) := by
  refine ints_lit h 1 _ fun i hi => ?_
  obtain rfl : i = 0 := by omega
  rfl
theorem Ints.congr {w : World} {ao : Option Addr} {n : Nat} {f f' : Nat → Int} (h : Ints w ao n f) (hf : ∀ i, i < n → f i = f' i) : Ints w ao n f' := fun i hi => by
  obtain ⟨g, o, e, hc⟩ := h i hi
  exact ⟨g, o, e, fun j hj => by rw [hc j hj]; dsimp only; rw [hf i hi]⟩
theorem sqTimes (w : World) (b : Nat) (h : Net w (some ⟨b, 0, none⟩) 4 4 sqE) : Calls Try.prog 11 #[.agg #[.int .i64 4, .slice (some ⟨b, 0, none⟩) 4 4], .int .i64 0] w fun e w' =>
    ∃ b', e = .returned (.tuple #[.slice (some ⟨b', 0, none⟩) 4 4, .int .i64 0]) ∧ Ints w' (some ⟨b', 0, none⟩) 4 (fun i => [0, 5, 10, -1].getD i 0) ∧ Below w.heap.size w w' := by
  refine (times11 4 _ 4 4 sqE 0 w h).mono ?_
  rintro e w' ⟨hb, h⟩
  rcases h with ⟨h, _⟩ | ⟨_, h, _⟩ | ⟨n, s, b', _, hn, hs, _, _, he, hN⟩
  · exact absurd sq_ok h
  · exact absurd h (by decide)
  · obtain rfl : n = 4 := by omega
    exact ⟨b', he, hN.ints.congr (fun i hi => sq_times i hi), hb⟩
theorem sqWay (w : World) (b : Nat) (h : Net w (some ⟨b, 0, none⟩) 4 4 sqE) (t x : Nat) (ht : t < 4) (hc : Rd.Can gB t 0) (he : edg gB t 0 = 1) (hl : wayL 4 4 sqE t 1 0 = [(x : Int)]) : Calls Try.prog 19 #[.agg #[.int .i64 4, .slice (some ⟨b, 0, none⟩) 4 4], .int .i64 0, .int .i64 t] w fun e w' =>
    ∃ a c, e = .returned (.tuple #[.slice a 1 c, .int .i64 0]) ∧ 1 ≤ c ∧ c ≤ 9223372036854775807 ∧ Ints w' a 1 (fun i => [(x : Int)].getD i 0) ∧ Below w.heap.size w w' := by
  refine (way19 4 _ 4 4 sqE 0 t w h).mono ?_
  rintro e w' ⟨hb, h⟩
  rcases h with ⟨h, _⟩ | ⟨_, h, _⟩ | ⟨n, s, t', _, hn, hs, _, ht', _, _, h⟩
  · exact absurd sq_ok h
  · simp [nodeB] at h; omega
  · obtain rfl : n = 4 := by omega
    obtain rfl : t' = t := by omega
    rcases h with ⟨h, _⟩ | ⟨v, _, he', hL⟩
    · exact absurd hc h
    · have e1 : edg (gr Ed.til Ed.frm 4 4 sqE) t' 0 = 1 := he
      rw [e1, show (1 : Int).toNat = 1 from rfl, hl] at hL
      obtain ⟨a, c, rfl, h1, h2, h3⟩ := hL.ints
      exact ⟨a, c, he', h1, h2, h3, hb⟩
theorem sqWay3 (w : World) (b : Nat) (h : Net w (some ⟨b, 0, none⟩) 4 4 sqE) : Calls Try.prog 19 #[.agg #[.int .i64 4, .slice (some ⟨b, 0, none⟩) 4 4], .int .i64 0, .int .i64 3] w fun e w' =>
    e = .returned (.tuple #[.slice none 0 0, .int .i64 15]) ∧ Below w.heap.size w w' := by
  refine (way19 4 _ 4 4 sqE 0 3 w h).mono ?_
  rintro e w' ⟨hb, h⟩
  rcases h with ⟨h, _⟩ | ⟨_, h, _⟩ | ⟨n, s, t', _, hn, hs, _, ht', _, _, h⟩
  · exact absurd sq_ok h
  · exact absurd h (by decide)
  · obtain rfl : n = 4 := by omega
    rcases h with ⟨_, h⟩ | ⟨v, h, _⟩
    · exact ⟨h, hb⟩
    · exact absurd h sq_w3
def sqK : Nat → Int := fun i => [2, 0].getD i 0
def sqT : Nat → Nat → Int := fun i j => ([[0, -1], [10, 0]].getD i []).getD j 0
theorem sqT_eq (i j : Nat) (hi : i < 2) (hj : j < 2) : sec gF (sqK i) (sqK j) = sqT i j := by
  rcases (by omega : i = 0 ∨ i = 1) with rfl | rfl <;> rcases (by omega : j = 0 ∨ j = 1) with rfl | rfl
  · exact sq_22.sec.1
  · exact (not_can sq_20).1
  · exact sq_t2.sec.1
  · exact sq_t0.sec.1
theorem sqTable (w : World) (b b2 : Nat) (h : Net w (some ⟨b, 0, none⟩) 4 4 sqE) (hk : Ints w (some ⟨b2, 0, none⟩) 2 sqK) : Calls Try.prog 16 #[.agg #[.int .i64 4, .slice (some ⟨b, 0, none⟩) 4 4], .slice (some ⟨b2, 0, none⟩) 2 2] w fun e w' =>
    ∃ v, e = .returned (.tuple #[v, .int .i64 0]) ∧ Tab w' w.heap.size v 2 2 sqT ∧ Below w.heap.size w w' := by
  refine (table16 4 _ 4 4 sqE _ 2 2 sqK w h hk (by omega) (by omega)).mono ?_
  rintro e w' ⟨hb, h⟩
  have h0 : tabE 4 4 sqE 2 sqK = 0 := by
    unfold tabE
    rw [if_neg (by rw [sq_ok]; simp), if_neg (by omega)]
    decide
  rcases h with ⟨h, _⟩ | ⟨n, v, _, hn, _, _, he, hT⟩
  · exact absurd h0 h
  · obtain rfl : n = 4 := by omega
    exact ⟨v, he, hT.congr sqT_eq, hb⟩
theorem tab_lit {w : World} {base b0 b1 b2 : Nat} (h0 : w.heap[b0]? = some (.cells #[.int .i64 0, .int .i64 (-1)] 3)) (h1 : w.heap[b1]? = some (.cells #[.int .i64 10, .int .i64 0] 3)) (h2 : w.heap[b2]? = some (.cells #[.slice (some ⟨b0, 0, none⟩) 2 2, .slice (some ⟨b1, 0, none⟩) 2 2] 27)) (hb : base ≤ b0 ∧ b0 < b1 ∧ b1 < b2) :
    Tab w base (.slice (some ⟨b2, 0, none⟩) 2 2) 2 2 sqT := by
  refine ⟨fun i => if i = 0 then (b0, 2) else (b1, 2), Row.of_block h2 (by omega) (fun _ => rfl) rfl (by decide), fun i hi => ?_⟩
  rcases (by omega : i = 0 ∨ i = 1) with rfl | rfl
  · refine ⟨hb.1, by simp [Value.ownBlock]; omega, by simp, by simp, fun j hj => ?_⟩
    rcases (by omega : j = 0 ∨ j = 1) with rfl | rfl
    · exact cell_at h0 0
    · exact cell_at h0 1
  · refine ⟨by simp; omega, by simp [Value.ownBlock]; omega, by simp, by simp, fun j hj => ?_⟩
    rcases (by omega : j = 0 ∨ j = 1) with rfl | rfl
    · exact cell_at h1 0
    · exact cell_at h1 1
set_option maxHeartbeats 4000000 in
theorem awake10 (w : World) : Calls Try.prog 10 #[] w fun e w' => e = .returned (.bool true) ∧ Below w.heap.size w w' := by
  go_enter Try.func10, Try.ntmps10
  go_wp2_with fail
  refine (square23 w).mono ?_
  rintro e w1 ⟨b1, rfl, n1, h1⟩
  have H1 := Lib.hid h1
  have T1 := Lib.hid (sqTimes w1 b1 n1)
  clear n1 h1
  go_wp2_with fail
  refine T1.out.mono ?_
  rintro e w2 ⟨c1, rfl, i2, h2⟩
  have H2 := Lib.hid (H1.out.trans (h2.mono H1.out.size))
  have I2 := Lib.hid i2
  clear i2 h2
  go_wp2_with fail
  refine (square23 w2).mono ?_
  rintro e w3 ⟨b3, rfl, n3, h3⟩
  have H3 := Lib.hid (H2.out.trans (h3.mono H2.out.size))
  have I3 := Lib.hid (I2.out.below h3)
  have W3 := sqWay w3 b3 n3 2 2 (by omega) ⟨_, _, sq_w2⟩ sq_w2.sec.2 sq_way2
  have W3 := Lib.hid W3
  clear n3 h3
  go_wp2_with fail
  refine W3.out.mono ?_
  rintro e w4 ⟨a4, c4, rfl, u4, v4, i4, h4⟩
  have H4 := Lib.hid (H3.out.trans (h4.mono H3.out.size))
  have I4 := Lib.hid (And.intro (I3.out.below h4) i4)
  clear i4 h4
  go_wp2_with fail
  refine (square23 w4).mono ?_
  rintro e w5 ⟨b5, rfl, n5, h5⟩
  have H5 := Lib.hid (H4.out.trans (h5.mono H4.out.size))
  have I5 := Lib.hid (And.intro (I4.out.1.below h5) (I4.out.2.below h5))
  have W5 := Lib.hid (sqWay w5 b5 n5 1 0 (by omega) ⟨_, _, sq_w1⟩ sq_w1.sec.2 sq_way1)
  clear n5 h5
  go_wp2_with fail
  refine W5.out.mono ?_
  rintro e w6 ⟨a6, c6, rfl, u6, v6, i6, h6⟩
  have H6 := Lib.hid (H5.out.trans (h6.mono H5.out.size))
  have I6 := Lib.hid (And.intro (I5.out.1.below h6) (And.intro (I5.out.2.below h6) i6))
  clear i6 h6
  go_wp2_with fail
  refine (square23 w6).mono ?_
  rintro e w7 ⟨b7, rfl, n7, h7⟩
  have H7 := Lib.hid (H6.out.trans (h7.mono H6.out.size))
  have I7 := Lib.hid (And.intro (I6.out.1.below h7) (And.intro (I6.out.2.1.below h7) (I6.out.2.2.below h7)))
  have W7 := Lib.hid (sqWay3 w7 b7 n7)
  clear n7 h7
  go_wp2_with fail
  refine W7.out.mono ?_
  rintro e w8 ⟨rfl, h8⟩
  have H8 := Lib.hid (H7.out.trans (h8.mono H7.out.size))
  have I8 := Lib.hid (And.intro (I7.out.1.below h8) (And.intro (I7.out.2.1.below h8) (I7.out.2.2.below h8)))
  clear h8
  go_wp2_with fail
  refine (square23 w8).mono ?_
  rintro e w9 ⟨b9, rfl, n9, h9⟩
  have ba : Below w9.heap.size w9 (w9.alloc (.cells #[.int .i64 2, .int .i64 0] 3)) := (Below.refl _ _).alloc (Nat.le_refl _) _
  have h9' := h9.trans (ba.mono h9.size)
  have H9 := Lib.hid (H8.out.trans (h9'.mono H8.out.size))
  have I9 := Lib.hid (And.intro (I8.out.1.below h9') (And.intro (I8.out.2.1.below h9') (I8.out.2.2.below h9')))
  have TB := Lib.hid (sqTable _ b9 w9.heap.size (n9.below ba) (ints_lit (heap_alloc_new w9 (.cells #[.int .i64 2, .int .i64 0] 3)) 2 sqK (fun i hi => by rcases (by omega : i = 0 ∨ i = 1) with rfl | rfl <;> rfl)))
  clear n9 h9 h9' ba
  go_wp2_with fail
  refine TB.out.mono ?_
  rintro e wa ⟨v, rfl, tb, ha⟩
  have bb : Below wa.heap.size wa (wa.alloc (.cells #[.int .i64 0, .int .i64 5, .int .i64 10, .int .i64 (-1)] 3)) := (Below.refl _ _).alloc (Nat.le_refl _) _
  have HA := Lib.hid (H9.out.trans (ha.mono H9.out.size))
  have IA := Lib.hid (And.intro (I9.out.1.below ha) (And.intro (I9.out.2.1.below ha) (I9.out.2.2.below ha)))
  have TA := Lib.hid tb
  have S1 := Lib.hid (same15 _ _ _ 4 4 4 _ (IA.out.1.below bb) (ints_lit (heap_alloc_new wa (.cells #[.int .i64 0, .int .i64 5, .int .i64 10, .int .i64 (-1)] 3)) 4 (fun i => [0, 5, 10, -1].getD i 0) (fun i hi => by rcases (by omega : i = 0 ∨ i = 1 ∨ i = 2 ∨ i = 3) with rfl | rfl | rfl | rfl <;> rfl)) (by omega) (by omega) (by omega) (by omega))
  have HB0 := Lib.hid bb
  clear tb ha bb
  go_wp2_with fail
  refine S1.out.mono ?_
  rintro e wb ⟨rfl, hb⟩
  have hb' := HB0.out.trans (hb.mono HB0.out.size)
  have HB := Lib.hid (HA.out.trans (hb'.mono HA.out.size))
  have IB := Lib.hid (And.intro (IA.out.2.1.below hb') (IA.out.2.2.below hb'))
  have TBb := Lib.hid (TA.out.below hb')
  have bc : Below wb.heap.size wb (wb.alloc (.cells #[.int .i64 2] 3)) := (Below.refl _ _).alloc (Nat.le_refl _) _
  have S2 := Lib.hid (same15 _ _ _ 1 c4 1 _ (IB.out.1.below bc) (ints_one (heap_alloc_new wb (.cells #[.int .i64 2] 3))) u4 (by omega) v4 (by omega))
  have HC0 := Lib.hid bc
  clear hb hb' bc
  go_wp2_with fail
  refine S2.out.mono ?_
  rintro e wc ⟨rfl, hc⟩
  have hc' := HC0.out.trans (hc.mono HC0.out.size)
  have HC := Lib.hid (HB.out.trans (hc'.mono HB.out.size))
  have IC := Lib.hid (IB.out.2.below hc')
  have TC := Lib.hid (TBb.out.below hc')
  have bd : Below wc.heap.size wc (wc.alloc (.cells #[.int .i64 0] 3)) := (Below.refl _ _).alloc (Nat.le_refl _) _
  have S3 := Lib.hid (same15 _ _ _ 1 c6 1 _ (IC.out.below bd) (ints_one (heap_alloc_new wc (.cells #[.int .i64 0] 3))) u6 (by omega) v6 (by omega))
  have HD0 := Lib.hid bd
  clear hc hc' bd
  go_wp2_with fail
  refine S3.out.mono ?_
  rintro e wd ⟨rfl, hd⟩
  have hd' := HD0.out.trans (hd.mono HD0.out.size)
  have HD := Lib.hid (HC.out.trans (hd'.mono HC.out.size))
  have TD := TC.out.below hd'
  have be : Below wd.heap.size wd (((wd.alloc (.cells #[.int .i64 0, .int .i64 (-1)] 3)).alloc (.cells #[.int .i64 10, .int .i64 0] 3)).alloc (.cells #[.slice (some ⟨wd.heap.size, 0, none⟩) 2 2, .slice (some ⟨wd.heap.size + 1, 0, none⟩) 2 2] 27)) := by (repeat' (first | (with_reducible exact Below.refl _ _) | (with_reducible assumption) | (with_reducible refine Below.drew ?_) | (with_reducible refine below_drewN ?_ _) | (with_reducible refine Below.alloc ?_ ?_ _) | (with_reducible refine Below.setCell ?_ ?_ _) | go_size))
  have y0 : (((wd.alloc (.cells #[.int .i64 0, .int .i64 (-1)] 3)).alloc (.cells #[.int .i64 10, .int .i64 0] 3)).alloc (.cells #[.slice (some ⟨wd.heap.size, 0, none⟩) 2 2, .slice (some ⟨wd.heap.size + 1, 0, none⟩) 2 2] 27)).heap[wd.heap.size]? = some (.cells #[.int .i64 0, .int .i64 (-1)] 3) := by
    rw [Below.heap_alloc _ _ _ (by simp; omega), Below.heap_alloc _ _ _ (by simp)]; exact heap_alloc_new _ _
  have y1 : (((wd.alloc (.cells #[.int .i64 0, .int .i64 (-1)] 3)).alloc (.cells #[.int .i64 10, .int .i64 0] 3)).alloc (.cells #[.slice (some ⟨wd.heap.size, 0, none⟩) 2 2, .slice (some ⟨wd.heap.size + 1, 0, none⟩) 2 2] 27)).heap[wd.heap.size + 1]? = some (.cells #[.int .i64 10, .int .i64 0] 3) := by
    rw [Below.heap_alloc _ _ _ (by simp)]
    have := heap_alloc_new (wd.alloc (.cells #[.int .i64 0, .int .i64 (-1)] 3)) (.cells #[.int .i64 10, .int .i64 0] 3)
    simpa using this
  have y2 : (((wd.alloc (.cells #[.int .i64 0, .int .i64 (-1)] 3)).alloc (.cells #[.int .i64 10, .int .i64 0] 3)).alloc (.cells #[.slice (some ⟨wd.heap.size, 0, none⟩) 2 2, .slice (some ⟨wd.heap.size + 1, 0, none⟩) 2 2] 27)).heap[wd.heap.size + 2]? = some (.cells #[.slice (some ⟨wd.heap.size, 0, none⟩) 2 2, .slice (some ⟨wd.heap.size + 1, 0, none⟩) 2 2] 27) := by
    have := heap_alloc_new ((wd.alloc (.cells #[.int .i64 0, .int .i64 (-1)] 3)).alloc (.cells #[.int .i64 10, .int .i64 0] 3)) (.cells #[.slice (some ⟨wd.heap.size, 0, none⟩) 2 2, .slice (some ⟨wd.heap.size + 1, 0, none⟩) 2 2] 27)
    simpa using this
  have S4 := Lib.hid (sameTable18 _ _ wd.heap.size _ _ 2 2 sqT (TD.below be) (tab_lit (base := wd.heap.size) y0 y1 y2 ⟨Nat.le_refl _, Nat.lt_succ_self _, Nat.lt_succ_self _⟩))
  have HE0 := Lib.hid be
  clear hd hd' be y0 y1 y2 TD
  go_wp2_with fail
  refine S4.out.mono ?_
  rintro e we ⟨rfl, he⟩
  have he' := HE0.out.trans (he.mono HE0.out.size)
  have HE := Lib.hid (HD.out.trans (he'.mono HD.out.size))
  clear he he'
  go_wp2_with fail
  go_returns
  exact ⟨rfl, HE.out⟩
end Go.Proofs.Ytbmlnjdfnjjjhaa
