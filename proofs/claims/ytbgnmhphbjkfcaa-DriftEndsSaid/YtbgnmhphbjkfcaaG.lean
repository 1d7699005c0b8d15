/- Contract: the examples of the chapter hold. -/
import Derived.Test.YtbgnmhphbjkfcaaE
import Derived.Laws.StructEq
namespace Go.Proofs.Ytbgnmhphbjkfcaa
open Go.RowKit
set_option linter.unusedVariables false
set_option linter.unusedSimpArgs false

theorem boundsV_ok {len : Nat} {L : Nat → Sy} {p t : Int} (hc : checkE len L = 0) (hp : isRate p = true) (ht : isMom t = true) {lo hi : Int} (h1 : bLo L p t len = lo) (h2 : bHi L p t len = hi) (h : ¬ hi < lo) :
    boundsV len L p t = .tuple #[.agg #[.int .i64 lo, .int .i64 hi], .int .i64 0] := by
  rw [boundsV, if_neg (by simp [hc]), if_neg (by simp [hp, ht]), h1, h2, if_neg h]
theorem boundsV_none {len : Nat} {L : Nat → Sy} {p t : Int} (hc : checkE len L = 0) (hp : isRate p = true) (ht : isMom t = true) {lo hi : Int} (h1 : bLo L p t len = lo) (h2 : bHi L p t len = hi) (h : hi < lo) :
    boundsV len L p t = .tuple #[.agg #[.int .i64 0, .int .i64 0], .int .i64 10] := by
  rw [boundsV, if_neg (by simp [hc]), if_neg (by simp [hp, ht]), h1, h2, if_pos h]
/-- The synchronizations of a list. -/
def ofL (l : List Sy) (i : Nat) : Sy := l.getD i ⟨0, 0, 0⟩
def one : List Sy := [⟨980, 1000, 1000⟩]
def two : List Sy := [⟨0, 100, 110⟩, ⟨1000, 1095, 1105⟩]
def thr : List Sy := [⟨0, 100, 100⟩, ⟨1000, 1200, 1200⟩]
theorem one_ok : checkE 1 (ofL one) = 0 :=
  checkE_ok (by decide) (by decide) (fun i hi => by obtain rfl : i = 0 := (by omega); decide) (fun i hi => by omega)
theorem two_ok : checkE 2 (ofL two) = 0 :=
  checkE_ok (by decide) (by decide) (fun i hi => by rcases (show i = 0 ∨ i = 1 by omega) with rfl | rfl <;> decide) (fun i hi => by obtain rfl : i = 0 := (by omega); decide)
theorem thr_ok : checkE 2 (ofL thr) = 0 :=
  checkE_ok (by decide) (by decide) (fun i hi => by rcases (show i = 0 ∨ i = 1 by omega) with rfl | rfl <;> decide) (fun i hi => by obtain rfl : i = 0 := (by omega); decide)
theorem ex1 : elapsedV 600 1000 = .tuple #[.agg #[.int .i64 599, .int .i64 601], .int .i64 0] := by
  rw [elapsedV, if_pos (by decide), show elLo 600 1000 = 599 by decide, show elHi 600 1000 = 601 by decide]
theorem ex2 : boundsV 1 (ofL one) 1000 1580 = .tuple #[.agg #[.int .i64 1599, .int .i64 1601], .int .i64 0] := boundsV_ok one_ok (by decide) (by decide) (by decide) (by decide) (by decide)
theorem ex3 : boundsV 1 (ofL one) 1000 380 = .tuple #[.agg #[.int .i64 399, .int .i64 401], .int .i64 0] := boundsV_ok one_ok (by decide) (by decide) (by decide) (by decide) (by decide)
theorem ex4 : boundsV 2 (ofL two) 0 500 = .tuple #[.agg #[.int .i64 600, .int .i64 605], .int .i64 0] := boundsV_ok two_ok (by decide) (by decide) (by decide) (by decide) (by decide)
theorem ex5 : boundsV 2 (ofL thr) 1000 500 = .tuple #[.agg #[.int .i64 0, .int .i64 0], .int .i64 10] := boundsV_none (lo := 699) (hi := 601) thr_ok (by decide) (by decide) (by decide) (by decide) (by decide)
theorem nil_empty : checkE 0 (ofL []) = 10 := by simp [checkE]

/-- A new block of synchronizations. -/
theorem sl_one (w : World) (b : Nat) (h0 : w.cell? ⟨b, 0, none⟩ = some (.int .i64 980)) (h1 : w.cell? ⟨b, 1, none⟩ = some (.int .i64 1000)) (h2 : w.cell? ⟨b, 2, none⟩ = some (.int .i64 1000)) : Sl w (some ⟨b, 0, none⟩) 1 (ofL one) :=
  fun i hi => by obtain rfl : i = 0 := by omega
                 exact ⟨b, 0, rfl, h0, h1, h2⟩
theorem sl_two (l : List Sy) (y z : Sy) (w : World) (b : Nat) (h0 : w.cell? ⟨b, 0, none⟩ = some (.int .i64 y.loc)) (h1 : w.cell? ⟨b, 1, none⟩ = some (.int .i64 y.frm)) (h2 : w.cell? ⟨b, 2, none⟩ = some (.int .i64 y.til))
    (h3 : w.cell? ⟨b, 3, none⟩ = some (.int .i64 z.loc)) (h4 : w.cell? ⟨b, 4, none⟩ = some (.int .i64 z.frm)) (h5 : w.cell? ⟨b, 5, none⟩ = some (.int .i64 z.til)) (hl : l = [y, z]) : Sl w (some ⟨b, 0, none⟩) 2 (ofL l) := by
  subst hl
  intro i hi
  rcases (show i = 0 ∨ i = 1 by omega) with rfl | rfl
  · exact ⟨b, 0, rfl, h0, h1, h2⟩
  · exact ⟨b, 0, rfl, h3, h4, h5⟩

set_option maxHeartbeats 2000000 in
theorem awake12 (w : World) : Calls Try.prog 12 #[] w fun e w' => e = .returned (.bool true) ∧ Below w.heap.size w w' := by
  have C0 := elapsed10 600 1000 w
  rw [ex1] at C0
  go_enter Try.func12, Try.ntmps12
  go_wp2_with fail
  refine C0.mono ?_
  rintro e w1 ⟨rfl, hb1⟩
  clear C0
  go_wp2_with fail
  have C1 := fun W h => bounds13 (some ⟨w1.heap.size + 1, 0, none⟩) 1 1 (ofL one) 1000 1580 W (by omega) (by omega) h
  rw [ex2] at C1
  refine (C1 _ (sl_one _ _ (by simp [go_sem]) (by simp [go_sem]) (by simp [go_sem]))).mono ?_
  rintro e w2 ⟨rfl, hb2⟩
  clear C1
  have x0 : w2.cell? ⟨w1.heap.size, 0, none⟩ = some (.int .i64 599) := cell_kept hb2 (by simp [go_sem])
  have x1 : w2.cell? ⟨w1.heap.size, 1, none⟩ = some (.int .i64 601) := cell_kept hb2 (by simp [go_sem])
  have hs : Sl w2 (some ⟨w1.heap.size + 1, 0, none⟩) 1 (ofL one) := Sl.kept (sl_one _ _ (by simp [go_sem]) (by simp [go_sem]) (by simp [go_sem])) hb2
  have HB : Below w.heap.size w w2 := ((hb1.alloc hb1.size _).alloc (by have := hb1.size; go_size) _).trans (hb2.mono (by have := hb1.size; go_size))
  have HS := Lib.hid hs
  clear hs hb1 hb2
  go_wp2_with fail
  have C2 := fun W h => bounds13 (some ⟨w1.heap.size + 1, 0, none⟩) 1 1 (ofL one) 1000 380 W (by omega) (by omega) h
  rw [ex3] at C2
  refine (C2 _ (HS.out.kept ((Below.refl _ _).alloc (Nat.le_refl _) _))).mono ?_
  rintro e w3 ⟨rfl, hb3⟩
  clear C2
  have ka : ∀ {a : Addr} {v : Value}, w2.cell? a = some v → w3.cell? a = some v := fun h => cell_kept hb3 (cell_kept ((Below.refl _ _).alloc (Nat.le_refl _) _) h)
  have x2 := ka x0
  have x3 := ka x1
  have y0 : w3.cell? ⟨w2.heap.size, 0, none⟩ = some (.int .i64 1599) := cell_kept hb3 (by simp [go_sem])
  have y1 : w3.cell? ⟨w2.heap.size, 1, none⟩ = some (.int .i64 1601) := cell_kept hb3 (by simp [go_sem])
  have HB3 : Below w.heap.size w w3 := (HB.alloc HB.size _).trans (hb3.mono (by have := HB.size; go_size))
  have HS3 := Lib.hid ((HS.out.kept ((Below.refl _ _).alloc (Nat.le_refl _) _)).kept hb3)
  clear ka hb3 x0 x1 HB HS
  go_wp2_with fail
  have C3 := fun W h => bounds13 (some ⟨w3.heap.size + 1, 0, none⟩) 2 2 (ofL two) 0 500 W (by omega) (by omega) h
  rw [ex4] at C3
  refine (C3 _ (sl_two two _ _ _ _ (by simp [go_sem]) (by simp [go_sem]) (by simp [go_sem]) (by simp [go_sem]) (by simp [go_sem]) (by simp [go_sem]) rfl)).mono ?_
  rintro e w4 ⟨rfl, hb4⟩
  clear C3
  have ka : ∀ {a : Addr} {v : Value}, w3.cell? a = some v → w4.cell? a = some v := fun h => cell_kept hb4 (cell_kept (((Below.refl _ _).alloc (Nat.le_refl _) _).alloc (by go_size) _) h)
  have x4 := ka x2
  have x5 := ka x3
  have y2 := ka y0
  have y3 := ka y1
  have z0 : w4.cell? ⟨w3.heap.size, 0, none⟩ = some (.int .i64 399) := cell_kept hb4 (by simp [go_sem])
  have z1 : w4.cell? ⟨w3.heap.size, 1, none⟩ = some (.int .i64 401) := cell_kept hb4 (by simp [go_sem])
  have HB4 : Below w.heap.size w w4 := ((HB3.alloc HB3.size _).alloc (by have := HB3.size; go_size) _).trans (hb4.mono (by have := HB3.size; go_size))
  have HS4 := Lib.hid ((HS3.out.kept (((Below.refl _ _).alloc (Nat.le_refl _) _).alloc (by go_size) _)).kept hb4)
  clear ka hb4 x2 x3 y0 y1 HB3 HS3
  go_wp2_with fail
  have C4 := fun W h => bounds13 (some ⟨w4.heap.size + 1, 0, none⟩) 2 2 (ofL thr) 1000 500 W (by omega) (by omega) h
  rw [ex5] at C4
  refine (C4 _ (sl_two thr _ _ _ _ (by simp [go_sem]) (by simp [go_sem]) (by simp [go_sem]) (by simp [go_sem]) (by simp [go_sem]) (by simp [go_sem]) rfl)).mono ?_
  rintro e w5 ⟨rfl, hb5⟩
  clear C4
  have ka : ∀ {a : Addr} {v : Value}, w4.cell? a = some v → w5.cell? a = some v := fun h => cell_kept hb5 (cell_kept (((Below.refl _ _).alloc (Nat.le_refl _) _).alloc (by go_size) _) h)
  have x6 := ka x4
  have x7 := ka x5
  have y4 := ka y2
  have y5 := ka y3
  have z2 := ka z0
  have z3 := ka z1
  have v0 : w5.cell? ⟨w4.heap.size, 0, none⟩ = some (.int .i64 600) := cell_kept hb5 (by simp [go_sem])
  have v1 : w5.cell? ⟨w4.heap.size, 1, none⟩ = some (.int .i64 605) := cell_kept hb5 (by simp [go_sem])
  have HB5 : Below w.heap.size w w5 := ((HB4.alloc HB4.size _).alloc (by have := HB4.size; go_size) _).trans (hb5.mono (by have := HB4.size; go_size))
  have HS5 := Lib.hid ((HS4.out.kept (((Below.refl _ _).alloc (Nat.le_refl _) _).alloc (by go_size) _)).kept hb5)
  clear ka hb5 x4 x5 y2 y3 z0 z1 HB4 HS4
  go_wp2_with fail
  have C5 := fun W h => check15 none 0 0 (ofL []) W (by omega) (by omega) h
  rw [nil_empty] at C5
  refine (C5 _ (fun i hi => absurd hi (by omega))).mono ?_
  rintro e w6 ⟨rfl, hb6⟩
  clear C5
  have hk6 := bcell hb6
  have HS6 := Lib.hid ((HS5.out.kept ((Below.refl _ _).alloc (Nat.le_refl _) _)).kept hb6)
  have ka : ∀ {a : Addr} {v : Value}, w5.cell? a = some v → w6.cell? a = some v := fun h => cell_kept hb6 (cell_kept ((Below.refl _ _).alloc (Nat.le_refl _) _) h)
  have x8 := ka x6
  have x9 := ka x7
  have y6 := ka y4
  have y7 := ka y5
  have z4 := ka z2
  have z5 := ka z3
  have v2 := ka v0
  have v3 := ka v1
  have HB6 : Below w.heap.size w w6 := (HB5.alloc HB5.size _).trans (hb6.mono (by have := HB5.size; go_size))
  clear ka hb6 hk6 x6 x7 y4 y5 z2 z3 v0 v1 HB5 HS5
  go_wp2_with fail
  have C6 := fun W h => check15 (some ⟨w1.heap.size + 1, 0, none⟩) 1 1 (ofL one) W (by omega) (by omega) h
  rw [one_ok] at C6
  refine (C6 _ HS6.out).mono ?_
  rintro e w7 ⟨rfl, hb7⟩
  clear C6
  have x0 := cell_kept hb7 x8
  have x1 := cell_kept hb7 x9
  have y0 := cell_kept hb7 y6
  have y1 := cell_kept hb7 y7
  have z0 := cell_kept hb7 z4
  have z1 := cell_kept hb7 z5
  have v0 := cell_kept hb7 v2
  have v1 := cell_kept hb7 v3
  have HB7 : Below w.heap.size w w7 := HB6.trans (hb7.mono HB6.size)
  clear x8 x9 y6 y7 z4 z5 v2 v3 HB6 HS6 hb7
  go_wp2
  go_returns
  exact ⟨rfl, HB7⟩
end Go.Proofs.Ytbgnmhphbjkfcaa
