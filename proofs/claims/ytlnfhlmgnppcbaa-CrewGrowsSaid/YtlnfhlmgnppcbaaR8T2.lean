/- The program's travel times walked. -/
import Derived.Test.YtlnfhlmgnppcbaaR8T0
import Derived.Test.YtlnfhlmgnppcbaaR8P1
import Derived.Test.YtlnfhlmgnppcbaaR8B13
namespace Go.Proofs.Ytlnfhlmgnppcbaa
open Go.RowKit
set_option linter.unusedVariables false
set_option linter.unusedSimpArgs false
set_option maxRecDepth 8000
open Rd
def outTo (f : Int → Int) (k : Nat) : Int → Int := fun i => if i < k then f i else 0
theorem outTo_up (f : Int → Int) (k : Nat) (i : Int) : upz (outTo f k) k (f k) i = outTo f (k + 1) i := by
  unfold upz outTo
  by_cases e : i = k
  · subst e; simp; omega
  · by_cases e2 : i < k
    · rw [if_neg e, if_pos e2, if_pos (by omega)]
    · rw [if_neg e, if_neg e2, if_neg (by omega)]
theorem outTo_all (f : Int → Int) {n : Nat} (i : Nat) (h : i < n) : outTo f n i = f i := by unfold outTo; rw [if_pos (by omega)]
set_option maxHeartbeats 4000000 in
set_option maxRecDepth 100000 in
theorem times123 (n m c : Nat) (ao : Option Addr) (E : Nat → Ed) (src : Nat) (w : World) (hw : Net w ao m c E) (hr : Right n m E) (hs : src < n) :
    Calls Try.prog 123 #[.agg #[.int .i64 n, .slice ao m c], .int .i64 src] w fun e w' => ∃ b, e = .returned (.slice (some ⟨b, 0, none⟩) n n) ∧ Nums w' w.heap.size b n (sec (gr Ed.frm Ed.til n m E) src) ∧ Below w.heap.size w w' := by
  obtain ⟨w0, hw0⟩ : ∃ w0, w0 = w.alloc (.cells #[.int .i64 n, .slice ao m c] 77) := ⟨_, rfl⟩
  have b0 : Below w.heap.size w w0 := by rw [hw0]; exact (Below.refl _ _).alloc (Nat.le_refl _) _
  have x0 : w0.heap[w.heap.size]? = some (.cells #[.int .i64 n, .slice ao m c] 77) := by rw [hw0]; exact heap_alloc_new w _
  have r0 : w0.cell? ⟨w.heap.size, 0, none⟩ = some (.int .i64 n) := cell_at x0 0
  have B0 := Lib.hid b0
  have HW := Lib.hid hw0
  have zb : w.heap.size < w0.heap.size := block_lt x0
  have hn2 := hr.n2
  have SP := Lib.hid (spread135 n m c ao E src w0 (hw.below b0) hr hs)
  have hM := mk42 n hn2
  have HB0 := Lib.hid b0
  clear hw b0 x0 hw0 hr hs
  go_enter Try.func123, Try.ntmps123
  go_wp2_with fail
  rw [← HW.out]
  clear HW
  refine SP.out.mono ?_
  rintro e w1 ⟨b1, b2, fd, bs, be, rfl, hne, rw1, rw2, hfin, hb1⟩
  have d0 := cell_kept hb1 r0
  have zd := szs (cell_lt d0)
  dsimp only at zd
  have R1 := Lib.hid rw1
  have R2 := Lib.hid rw2
  have FIN := Lib.hid hfin
  have B1 := Lib.hid hb1
  have l1 : w0.heap.size ≤ b1 ∧ b1 < w1.heap.size := World.ownsRow.lt rw1 b1 rfl
  have l2 : w0.heap.size ≤ b2 ∧ b2 < w1.heap.size := World.ownsRow.lt rw2 b2 rfl
  clear rw1 rw2 hfin hb1 hne
  obtain ⟨M, hm⟩ : ∃ M, M = madeCells #[.int .i64 0] (n * 1) := ⟨_, rfl⟩
  rw [← hm] at hM
  have HM := Lib.hid hm
  clear hm
  go_wp2_with fail
  obtain ⟨w2, hw2⟩ : ∃ w2, w2 = w1.alloc (.cells M 3) := ⟨_, rfl⟩
  rw [← hw2]
  have b2' : Below w1.heap.size w1 w2 := by rw [hw2]; exact (Below.refl _ _).alloc (Nat.le_refl _) _
  have x2 : w2.heap[w1.heap.size]? = some (.cells M 3) := by rw [hw2]; exact heap_alloc_new w1 _
  have z2 : w1.heap.size < w2.heap.size := block_lt x2
  have y0 : Nums w2 w1.heap.size w1.heap.size n (fun _ => 0) := Row.of_made (z := #[.int .i64 0]) rfl (by decide) (by rw [← HM.out]; exact x2) (Nat.le_refl _) (by unfold maxLen; omega)
  have Y0 := Lib.hid (y0.congr (f' := outTo (sec (gr Ed.frm Ed.til n m E) src) 0) (fun i _ => by unfold outTo; rw [if_neg (by omega)]))
  have R1' := Lib.hid (Row.off (X := fun _ => False) R1.out (Off.of_below b2') (fun _ _ h => h))
  have R2' := Lib.hid (Row.off (X := fun _ => False) R2.out (Off.of_below b2') (fun _ _ h => h))
  have BW := Lib.hid ((B0.out.trans (B1.out.mono B0.out.size)).trans (b2'.mono (by have := B0.out.size; have := B1.out.size; omega)))
  clear x2 y0 hw2 b2' d0 zd hM HM
  go_loopw [20] (fun i wr => ∃ k : Nat, i = .int .i64 k ∧ k ≤ n ∧ Hid (Nums wr w1.heap.size w1.heap.size n (outTo (sec (gr Ed.frm Ed.til n m E) src) k) ∧ Off (fun b => b = w1.heap.size) w2 wr)) (fun i _ => n - (intOf i).toNat)
  case atStart => exact ⟨0, rfl, by omega, Y0.out, Off.refl _ _⟩
  case round =>
    clear Y0
    obtain ⟨k, rfl, hk, hrel⟩ := hrel
    by_cases hlt : k < n
    · have tk : (k : Int) < (n : Int) := by omega
      have p1 := hrel.out.1.cell hlt
      have p2 := hrel.out.1.free
      have rr1 := Row.off R1'.out hrel.out.2 (fun g hg h => by cases hg; dsimp only at h; omega)
      have rr2 := Row.off R2'.out hrel.out.2 (fun g hg h => by cases hg; dsimp only at h; omega)
      have p3 : wr.cell? ⟨b1, k * 2, none⟩ = some (.int .i64 (bs k)) := Row.cell rr1 (lf_len bs be) hlt (by decide : 0 < 2)
      have p4 : wr.cell? ⟨b2, k, none⟩ = some (.bool (fd k)) := by have := Row.cell rr2 (ff_len fd) hlt (by decide : 0 < 1); simpa [ff] using this
      have z3 := szs hrel.out.1.lt.2
      have z4 := szs (cell_lt p3)
      have z5 := szs (cell_lt p4)
      dsimp only at z4 z5
      have nb1 : w1.heap.size ≠ b1 := by omega
      have nb2 : w1.heap.size ≠ b2 := by omega
      have nb3 : b1 ≠ w1.heap.size := by omega
      have nb4 : b2 ≠ w1.heap.size := by omega
      have fk := FIN.out (k : Int)
      obtain ⟨f, hf⟩ : ∃ f, f = fd k := ⟨_, rfl⟩
      rw [← hf] at p4 fk
      have u1 := hrel.out.1.set hlt (-1)
      have o1 : Off (fun b => b = w1.heap.size) w2 (wr.setCell ⟨w1.heap.size, k, none⟩ (.int .i64 (-1))) := hrel.out.2.setCell (fun _ => rfl) _
      cases f
      · have nc : ¬ Rd.Can (gr Ed.frm Ed.til n m E) src k := fun h => by have := fk.1.2 h; cases this
        have HE := Lib.hid (And.intro (u1.congr (f' := outTo (sec (gr Ed.frm Ed.til n m E) src) (k + 1)) (fun i _ => by rw [← outTo_up, (not_can nc).1])) o1)
        clear fk u1 o1 hf rr1 rr2 nc
        go_wp2_with fail
        go_roundw
        case rel => exact ⟨k + 1, by go_num, by omega, HE.out⟩
        case measure => simp [intOf]; omega
      · have hc : bs k = sec (gr Ed.frm Ed.til n m E) src k := (fk.2 (fk.1.1 rfl)).1
        have u2 := u1.set hlt (bs k)
        have o2 : Off (fun b => b = w1.heap.size) w2 ((wr.setCell ⟨w1.heap.size, k, none⟩ (.int .i64 (-1))).setCell ⟨w1.heap.size, k, none⟩ (.int .i64 (bs k))) := o1.setCell (fun _ => rfl) _
        have HE := Lib.hid (And.intro (u2.congr (f' := outTo (sec (gr Ed.frm Ed.til n m E) src) (k + 1)) (fun i _ => by
          rw [← outTo_up, ← hc]
          unfold upz
          by_cases e : (i : Int) = k
          · rw [if_pos e, if_pos e]
          · rw [if_neg e, if_neg e, if_neg e])) o2)
        generalize bs k = bk at *
        clear fk u1 u2 o1 o2 hf rr1 rr2 hc
        go_wp2_with fail
        go_roundw
        case rel => exact ⟨k + 1, by go_num, by omega, HE.out⟩
        case measure => simp [intOf]; omega
    · obtain rfl : k = n := by omega
      have HE := Lib.hid ((hrel.out.1.congr (outTo_all _)).base_mono (base := w.heap.size) (by omega))
      have BE := Lib.hid (BW.out.trans (hrel.out.2.toBelow (by omega) (fun b hb e => by omega)))
      go_wp2_with fail
      go_returns
      exact ⟨_, rfl, HE.out, BE.out⟩
end Go.Proofs.Ytlnfhlmgnppcbaa
