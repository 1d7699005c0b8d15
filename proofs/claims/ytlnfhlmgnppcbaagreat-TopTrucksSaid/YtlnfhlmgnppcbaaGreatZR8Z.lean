/- General theorems of this seat, in one text. -/
import Derived.Test.YtlnfhlmgnppcbaaGreatZR8Y
import Derived.BigRegion
namespace Go.Proofs.YtlnfhlmgnppcbaaGreat
open Go.RowKit
set_option linter.unusedVariables false
set_option linter.unusedSimpArgs false
set_option maxRecDepth 8000
open Rd
def vf (f : Int → Int) : Nat → List Value := fun i => [.int .i64 (f i)]
theorem vf_len (f : Int → Int) (i : Nat) : (vf f i).length = 1 := rfl
theorem vf_up (f : Int → Int) (v : Nat) (x : Int) (j : Nat) : upd (vf f) v [.int .i64 x] j = vf (upz f v x) j := by
  by_cases e : j = v
  · subst e; rw [upd_same]; simp [vf, upz_same]
  · rw [upd_ne e]; simp [vf, upz_ne (show (j : Int) ≠ (v : Int) by omega)]
def Nums (w : World) (base b n : Nat) (f : Int → Int) : Prop := Row w base 3 1 (.slice (some ⟨b, 0, none⟩) n n) n (vf f)
theorem Nums.off {X : Nat → Prop} {w w' : World} {base b n : Nat} {f : Int → Int} (h : Nums w base b n f) (ho : Off X w w') (hX : ¬ X b) : Nums w' base b n f := Row.off h ho (fun g hg e => by cases hg; exact hX e)
theorem Nums.below {w w' : World} {base b n : Nat} {f : Int → Int} (h : Nums w base b n f) (hb : Below w.heap.size w w') : Nums w' base b n f := h.off (X := fun _ => False) (Off.of_below hb) (fun h => h)
theorem Nums.set {w : World} {base b n : Nat} {f : Int → Int} (h : Nums w base b n f) {i : Nat} (hi : i < n) (x : Int) : Nums (w.setCell ⟨b, i, none⟩ (.int .i64 x)) base b n (upz f i x) := by
  have a1 := Row.put h (vf_len f) hi [.int .i64 x] rfl
  have := Row.congr a1 (fun j _ => vf_up f i x j)
  unfold Nums
  simpa [putCells] using this
theorem Nums.cell {w : World} {base b n : Nat} {f : Int → Int} (h : Nums w base b n f) {i : Nat} (hi : i < n) : w.cell? ⟨b, i, none⟩ = some (.int .i64 (f i)) := by
  have := Row.cell h (vf_len f) hi (by decide : 0 < 1); simpa [vf] using this
theorem Nums.lt {w : World} {base b n : Nat} {f : Int → Int} (h : Nums w base b n f) : base ≤ b ∧ b < w.heap.size := World.ownsRow.lt h b rfl
theorem Nums.free {w : World} {base b n : Nat} {f : Int → Int} (h : Nums w base b n f) (j : Nat) : w.frozen? ⟨b, j, none⟩ = false := Row.free h j
theorem Nums.congr {w : World} {base b n : Nat} {f f' : Int → Int} (h : Nums w base b n f) (hf : ∀ i : Nat, i < n → f i = f' i) : Nums w base b n f' := Row.congr h (fun i hi => by unfold vf; rw [hf i hi])
theorem Nums.base_mono {w : World} {B base b n : Nat} {f : Int → Int} (h : Nums w B b n f) (hb : base ≤ B) : Nums w base b n f := Row.base_mono h hb
structure Two (W0 wr : World) (b1 b2 n : Nat) (sv ev : Int → Int) : Prop where
  h1 : Nums wr W0.heap.size b1 n sv
  h2 : Nums wr W0.heap.size b2 n ev
  hb : Below W0.heap.size W0 wr
theorem Two.below {W0 w w' : World} {b1 b2 n : Nat} {sv ev : Int → Int} (h : Two W0 w b1 b2 n sv ev) (hb : Below w.heap.size w w') : Two W0 w' b1 b2 n sv ev := ⟨h.h1.below hb, h.h2.below hb, h.hb.trans (hb.mono h.hb.size)⟩
theorem Two.set {W0 w : World} {b1 b2 n : Nat} {sv ev : Int → Int} (h : Two W0 w b1 b2 n sv ev) (hne : b1 ≠ b2) {i : Nat} (hi : i < n) (x y : Int) :
    Two W0 ((w.setCell ⟨b1, i, none⟩ (.int .i64 x)).setCell ⟨b2, i, none⟩ (.int .i64 y)) b1 b2 n (upz sv i x) (upz ev i y) := by
  have o1 : Off (fun b => b = b1) w (w.setCell ⟨b1, i, none⟩ (.int .i64 x)) := (Off.refl (fun b => b = b1) w).setCell (fun _ => rfl) _
  have o2 : Off (fun b => b = b2) (w.setCell ⟨b1, i, none⟩ (.int .i64 x)) ((w.setCell ⟨b1, i, none⟩ (.int .i64 x)).setCell ⟨b2, i, none⟩ (.int .i64 y)) := (Off.refl (fun b => b = b2) _).setCell (fun _ => rfl) _
  refine ⟨(h.h1.set hi x).off o2 hne, (h.h2.off o1 (fun e => hne e.symm)).set hi y, ?_⟩
  have l1 := h.h1.lt.1
  have l2 := h.h2.lt.1
  have s := h.hb.size
  exact (h.hb.trans (o1.toBelow s (fun k hk e => by omega))).trans (o2.toBelow (by have := o1.size; omega) (fun k hk e => by omega))
def Far (w : World) (n : Nat) (g : Gr) (src : Int) (e : Ending) (w' : World) : Prop :=
  ∃ (b1 b2 : Nat) (sv ev : Int → Int), e = .returned (.tuple #[.slice (some ⟨b1, 0, none⟩) n n, .slice (some ⟨b2, 0, none⟩) n n]) ∧ b1 ≠ b2 ∧ Two w w' b1 b2 n sv ev ∧
    ∀ v : Int, 0 ≤ v → v < n → (Rd.Can g src v → sv v = sec g src v ∧ ev v = edg g src v) ∧ (¬ Rd.Can g src v → sv v = 1099511627776 ∧ ev v = 1099511627776)
end Go.Proofs.YtlnfhlmgnppcbaaGreat
namespace Go.Proofs.YtlnfhlmgnppcbaaGreat
open Go.RowKit
set_option linter.unusedVariables false
set_option linter.unusedSimpArgs false
set_option maxRecDepth 8000
open Rd
def outTo (f : Int → Int) (k : Nat) : Int → Int := fun i => if i < k then f i else 0
theorem outTo_up (f : Int → Int) (k : Nat) (i : Int) : upz (outTo f k) k (f k) i = outTo f (k + 1) i := by
  unfold upz outTo
  by_cases e : i = k
  · subst e; simp; omega
  · by_cases e2 : i < k
    · rw [if_neg e, if_pos e2, if_pos (by omega)]
    · rw [if_neg e, if_neg e2, if_neg (by omega)]
theorem outTo_all (f : Int → Int) {n : Nat} (i : Nat) (h : i < n) : outTo f n i = f i := by unfold outTo; rw [if_pos (by omega)]
set_option maxHeartbeats 4000000 in
set_option maxRecDepth 100000 in
theorem times115 (n m c : Nat) (ao : Option Addr) (E : Nat → Ed) (src : Nat) (w : World) (hw : Net w ao m c E) (hr : Right n m E) (hs : src < n) :
    Calls Tryz.prog 115 #[.agg #[.int .i64 n, .slice ao m c], .int .i64 src] w fun e w' => ∃ b, e = .returned (.slice (some ⟨b, 0, none⟩) n n) ∧ Nums w' w.heap.size b n (sec (gr Ed.frm Ed.til n m E) src) ∧ Below w.heap.size w w' := by
  obtain ⟨w0, hw0⟩ : ∃ w0, w0 = w.alloc (.cells #[.int .i64 n, .slice ao m c] 28) := ⟨_, rfl⟩
  have b0 : Below w.heap.size w w0 := by rw [hw0]; exact (Below.refl _ _).alloc (Nat.le_refl _) _
  have x0 : w0.heap[w.heap.size]? = some (.cells #[.int .i64 n, .slice ao m c] 28) := by rw [hw0]; exact heap_alloc_new w _
  have r0 : w0.cell? ⟨w.heap.size, 0, none⟩ = some (.int .i64 n) := cell_at x0 0
  have B0 := Lib.hid b0
  have HW := Lib.hid hw0
  have zb : w.heap.size < w0.heap.size := block_lt x0
  have hn2 := hr.n2
  have SP := Lib.hid (spread132 n m c ao E src w0 (hw.below b0) hr hs)
  have hM := mk22 n hn2
  have HB0 := Lib.hid b0
  clear hw b0 x0 hw0 hr hs
  go_enter Tryz.func115, Tryz.ntmps115
  go_wp2_with fail
  rw [← HW.out]
  clear HW
  refine SP.out.mono ?_
  rintro e w1 ⟨b1, b2, fd, bs, be, rfl, hne, rw1, rw2, hfin, hb1⟩
  have d0 := cell_kept hb1 r0
  have zd := szs (cell_lt d0)
  dsimp only at zd
  have R1 := Lib.hid rw1
  have R2 := Lib.hid rw2
  have FIN := Lib.hid hfin
  have B1 := Lib.hid hb1
  have l1 : w0.heap.size ≤ b1 ∧ b1 < w1.heap.size := World.ownsRow.lt rw1 b1 rfl
  have l2 : w0.heap.size ≤ b2 ∧ b2 < w1.heap.size := World.ownsRow.lt rw2 b2 rfl
  clear rw1 rw2 hfin hb1 hne
  obtain ⟨M, hm⟩ : ∃ M, M = madeCells #[.int .i64 0] (n * 1) := ⟨_, rfl⟩
  rw [← hm] at hM
  have HM := Lib.hid hm
  clear hm
  go_wp2_with fail
  obtain ⟨w2, hw2⟩ : ∃ w2, w2 = w1.alloc (.cells M 3) := ⟨_, rfl⟩
  rw [← hw2]
  have b2' : Below w1.heap.size w1 w2 := by rw [hw2]; exact (Below.refl _ _).alloc (Nat.le_refl _) _
  have x2 : w2.heap[w1.heap.size]? = some (.cells M 3) := by rw [hw2]; exact heap_alloc_new w1 _
  have z2 : w1.heap.size < w2.heap.size := block_lt x2
  have y0 : Nums w2 w1.heap.size w1.heap.size n (fun _ => 0) := Row.of_made (z := #[.int .i64 0]) rfl (by decide) (by rw [← HM.out]; exact x2) (Nat.le_refl _) (by unfold maxLen; omega)
  have Y0 := Lib.hid (y0.congr (f' := outTo (sec (gr Ed.frm Ed.til n m E) src) 0) (fun i _ => by unfold outTo; rw [if_neg (by omega)]))
  have R1' := Lib.hid (Row.off (X := fun _ => False) R1.out (Off.of_below b2') (fun _ _ h => h))
  have R2' := Lib.hid (Row.off (X := fun _ => False) R2.out (Off.of_below b2') (fun _ _ h => h))
  have BW := Lib.hid ((B0.out.trans (B1.out.mono B0.out.size)).trans (b2'.mono (by have := B0.out.size; have := B1.out.size; omega)))
  clear x2 y0 hw2 b2' d0 zd hM HM
  go_loopw [20] (fun i wr => ∃ k : Nat, i = .int .i64 k ∧ k ≤ n ∧ Hid (Nums wr w1.heap.size w1.heap.size n (outTo (sec (gr Ed.frm Ed.til n m E) src) k) ∧ Off (fun b => b = w1.heap.size) w2 wr)) (fun i _ => n - (intOf i).toNat)
  case atStart => exact ⟨0, rfl, by omega, Y0.out, Off.refl _ _⟩
  case round =>
    clear Y0
    obtain ⟨k, rfl, hk, hrel⟩ := hrel
    by_cases hlt : k < n
    · have tk : (k : Int) < (n : Int) := by omega
      have p1 := hrel.out.1.cell hlt
      have p2 := hrel.out.1.free
      have rr1 := Row.off R1'.out hrel.out.2 (fun g hg h => by cases hg; dsimp only at h; omega)
      have rr2 := Row.off R2'.out hrel.out.2 (fun g hg h => by cases hg; dsimp only at h; omega)
      have p3 : wr.cell? ⟨b1, k * 2, none⟩ = some (.int .i64 (bs k)) := Row.cell rr1 (lf_len bs be) hlt (by decide : 0 < 2)
      have p4 : wr.cell? ⟨b2, k, none⟩ = some (.bool (fd k)) := by have := Row.cell rr2 (ff_len fd) hlt (by decide : 0 < 1); simpa [ff] using this
      have z3 := szs hrel.out.1.lt.2
      have z4 := szs (cell_lt p3)
      have z5 := szs (cell_lt p4)
      dsimp only at z4 z5
      have nb1 : w1.heap.size ≠ b1 := by omega
      have nb2 : w1.heap.size ≠ b2 := by omega
      have nb3 : b1 ≠ w1.heap.size := by omega
      have nb4 : b2 ≠ w1.heap.size := by omega
      have fk := FIN.out (k : Int)
      obtain ⟨f, hf⟩ : ∃ f, f = fd k := ⟨_, rfl⟩
      rw [← hf] at p4 fk
      have u1 := hrel.out.1.set hlt (-1)
      have o1 : Off (fun b => b = w1.heap.size) w2 (wr.setCell ⟨w1.heap.size, k, none⟩ (.int .i64 (-1))) := hrel.out.2.setCell (fun _ => rfl) _
      cases f
      · have nc : ¬ Rd.Can (gr Ed.frm Ed.til n m E) src k := fun h => by have := fk.1.2 h; cases this
        have HE := Lib.hid (And.intro (u1.congr (f' := outTo (sec (gr Ed.frm Ed.til n m E) src) (k + 1)) (fun i _ => by rw [← outTo_up, (not_can nc).1])) o1)
        clear fk u1 o1 hf rr1 rr2 nc
        go_wp2_with fail
        go_roundw
        case rel => exact ⟨k + 1, by go_num, by omega, HE.out⟩
        case measure => simp [intOf]; omega
      · have hc : bs k = sec (gr Ed.frm Ed.til n m E) src k := (fk.2 (fk.1.1 rfl)).1
        have u2 := u1.set hlt (bs k)
        have o2 : Off (fun b => b = w1.heap.size) w2 ((wr.setCell ⟨w1.heap.size, k, none⟩ (.int .i64 (-1))).setCell ⟨w1.heap.size, k, none⟩ (.int .i64 (bs k))) := o1.setCell (fun _ => rfl) _
        have HE := Lib.hid (And.intro (u2.congr (f' := outTo (sec (gr Ed.frm Ed.til n m E) src) (k + 1)) (fun i _ => by
          rw [← outTo_up, ← hc]
          unfold upz
          by_cases e : (i : Int) = k
          · rw [if_pos e, if_pos e]
          · rw [if_neg e, if_neg e, if_neg e])) o2)
        generalize bs k = bk at *
        clear fk u1 u2 o1 o2 hf rr1 rr2 hc
        go_wp2_with fail
        go_roundw
        case rel => exact ⟨k + 1, by go_num, by omega, HE.out⟩
        case measure => simp [intOf]; omega
    · obtain rfl : k = n := by omega
      have HE := Lib.hid ((hrel.out.1.congr (outTo_all _)).base_mono (base := w.heap.size) (by omega))
      have BE := Lib.hid (BW.out.trans (hrel.out.2.toBelow (by omega) (fun b hb e => by omega)))
      go_wp2_with fail
      go_returns
      exact ⟨_, rfl, HE.out, BE.out⟩
end Go.Proofs.YtlnfhlmgnppcbaaGreat
namespace Go.Proofs.YtlnfhlmgnppcbaaGreat
open Go.RowKit
set_option linter.unusedVariables false
set_option linter.unusedSimpArgs false
set_option maxRecDepth 8000
open Rd
def Tm (N : Int) (m : Nat) (E : Nat → Ed) (src : Int) (w : World) (e : Ending) (w' : World) : Prop :=
  Below w.heap.size w w' ∧
    ((roadE N m E ≠ 0 ∧ e = .returned (.tuple #[.slice none 0 0, .int .i64 (roadE N m E)])) ∨
     (roadE N m E = 0 ∧ nodeB N src = false ∧ e = .returned (.tuple #[.slice none 0 0, .int .i64 7])) ∨
     (∃ n s b : Nat, roadE N m E = 0 ∧ N = n ∧ src = s ∧ s < n ∧ Right n m E ∧ e = .returned (.tuple #[.slice (some ⟨b, 0, none⟩) n n, .int .i64 0]) ∧ Nums w' w.heap.size b n (sec (gr Ed.frm Ed.til n m E) src)))
set_option maxHeartbeats 2000000 in
theorem times78 (N : Int) (ao : Option Addr) (m c : Nat) (E : Nat → Ed) (src : Int) (w : World) (hw : Net w ao m c E) :
    Calls Tryz.prog 78 #[.agg #[.int .i64 N, .slice ao m c], .int .i64 src] w fun e w' => Tm N m E src w e w' := by
  obtain ⟨w0, hw0⟩ : ∃ w0, w0 = w.alloc (.cells #[.int .i64 N, .slice ao m c] 28) := ⟨_, rfl⟩
  have b0 : Below w.heap.size w w0 := by rw [hw0]; exact (Below.refl _ _).alloc (Nat.le_refl _) _
  have x0 : w0.heap[w.heap.size]? = some (.cells #[.int .i64 N, .slice ao m c] 28) := by rw [hw0]; exact heap_alloc_new w _
  have r0 : w0.cell? ⟨w.heap.size, 0, none⟩ = some (.int .i64 N) := cell_at x0 0
  have r1 : w0.cell? ⟨w.heap.size, 1, none⟩ = some (.slice ao m c) := cell_at x0 1
  have B0 := Lib.hid b0
  have HW := Lib.hid hw0
  have zb : w.heap.size < w0.heap.size := block_lt x0
  have n0 := Lib.hid (hw.below b0)
  have CK := check74 N ao m c E w0 n0.out
  obtain ⟨x, hx⟩ : ∃ x, x = roadE N m E := ⟨_, rfl⟩
  rw [← hx] at CK
  have HCK := Lib.hid CK
  have HX := Lib.hid hx
  clear hw b0 x0 hw0 CK hx
  by_cases h0 : x = 0
  · subst h0
    have ND := fun w1 => node113 N src (.slice ao m c) w1 rfl
    obtain ⟨q, hq⟩ : ∃ q, q = nodeB N src := ⟨_, rfl⟩
    rw [← hq] at ND
    have HND := Lib.hid ND
    have HQ := Lib.hid hq
    clear ND hq
    go_enter Tryz.func78, Tryz.ntmps78
    go_wp2_with fail
    rw [← HW.out]
    clear HW
    refine HCK.out.mono ?_
    rintro e w1 ⟨rfl, b1⟩
    have d0 := cell_kept b1 r0
    have d1 := cell_kept b1 r1
    have zd := szs (cell_lt d0)
    dsimp only at zd
    have B1 := Lib.hid b1
    have n1 := Lib.hid (n0.out.below b1)
    clear b1
    go_wp2_with fail
    refine (HND.out _).mono ?_
    rintro e w2 ⟨rfl, b2⟩
    have e0 := cell_kept b2 d0
    have e1 := cell_kept b2 d1
    have ze := szs (cell_lt e0)
    dsimp only at ze
    have B2 := Lib.hid ((B0.out.trans (B1.out.mono B0.out.size)).trans (b2.mono (by have := B0.out.size; have := B1.out.size; omega)))
    have n2 := Lib.hid (n1.out.below b2)
    clear b2
    cases q
    · go_wp2_with fail
      go_returns
      exact ⟨B2.out, .inr (.inl ⟨HX.out.symm, HQ.out.symm, rfl⟩)⟩
    · obtain ⟨n, hn, hr⟩ := right_of HX.out.symm
      have hq : 0 ≤ src ∧ src < N := by have := HQ.out; simp [nodeB] at this; exact this
      obtain ⟨s, hs⟩ : ∃ s : Nat, src = (s : Int) := ⟨src.toNat, by omega⟩
      subst hn hs
      have hsn : s < n := by omega
      have TM := Lib.hid (times115 n m c ao E s w2 n2.out hr hsn)
      have HR := Lib.hid hr
      clear hr
      go_wp2_with fail
      refine TM.out.mono ?_
      rintro e w3 ⟨b, rfl, hN, b3⟩
      have HN := Lib.hid (hN.base_mono (base := w.heap.size) B2.out.size)
      have B3 := Lib.hid (B2.out.trans (b3.mono B2.out.size))
      clear hN b3
      go_wp2_with fail
      go_returns
      exact ⟨B3.out, .inr (.inr ⟨n, s, b, HX.out.symm, rfl, rfl, hsn, HR.out, rfl, HN.out⟩)⟩
  · have h0' : (x != 0) = true := by simp [h0]
    have H0 := Lib.hid h0
    clear h0
    go_enter Tryz.func78, Tryz.ntmps78
    go_wp2_with fail
    rw [← HW.out]
    clear HW
    refine HCK.out.mono ?_
    rintro e w1 ⟨rfl, b1⟩
    have B1 := Lib.hid b1
    clear b1
    go_wp2_with fail
    go_returns
    exact ⟨B0.out.trans (B1.out.mono B0.out.size), .inl ⟨by rw [← HX.out]; exact H0.out, by rw [← HX.out]; rfl⟩⟩
end Go.Proofs.YtlnfhlmgnppcbaaGreat
namespace Go.Proofs.YtlnfhlmgnppcbaaGreat
open Go.RowKit
set_option linter.unusedVariables false
set_option linter.unusedSimpArgs false
set_option maxRecDepth 8000
open Rd
def farTo (k : Nat) : Int → Int := fun i => if i < k then 1099511627776 else 0
end Go.Proofs.YtlnfhlmgnppcbaaGreat
namespace Go.Proofs.YtlnfhlmgnppcbaaGreat
open Go.RowKit
set_option linter.unusedVariables false
set_option linter.unusedSimpArgs false
set_option maxRecDepth 8000
open Rd
def bkE (E : Nat → Ed) : Nat → Ed := fun i => ⟨(E i).til, (E i).frm, (E i).sec⟩
theorem Right.back {n m : Nat} {E : Nat → Ed} (h : Right n m E) : Right n m (bkE E) := ⟨h.n1, h.n2, h.m2, h.ht, h.hf, h.hs⟩
def unFar (f : Int → Int) (k : Nat) : Int → Int := fun i => if i < k then (if f i = 1099511627776 then -1 else f i) else f i
end Go.Proofs.YtlnfhlmgnppcbaaGreat
