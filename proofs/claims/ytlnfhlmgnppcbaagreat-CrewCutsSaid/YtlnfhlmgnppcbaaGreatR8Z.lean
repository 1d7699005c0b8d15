/- General theorems of this seat, in one text. -/
import Derived.Test.YtlnfhlmgnppcbaaGreatR8Y
import Derived.BigRegion
/- Two rows of numbers side by side. -/
namespace Go.Proofs.YtlnfhlmgnppcbaaGreat
open Go.RowKit
set_option linter.unusedVariables false
set_option linter.unusedSimpArgs false
set_option maxRecDepth 8000
open Rd
def vf (f : Int → Int) : Nat → List Value := fun i => [.int .i64 (f i)]
theorem vf_len (f : Int → Int) (i : Nat) : (vf f i).length = 1 := rfl
theorem vf_up (f : Int → Int) (v : Nat) (x : Int) (j : Nat) : upd (vf f) v [.int .i64 x] j = vf (upz f v x) j := by
  by_cases e : j = v
  · subst e; rw [upd_same]; simp [vf, upz_same]
  · rw [upd_ne e]; simp [vf, upz_ne (show (j : Int) ≠ (v : Int) by omega)]
/-- A row of numbers. -/
def Nums (w : World) (base b n : Nat) (f : Int → Int) : Prop := Row w base 3 1 (.slice (some ⟨b, 0, none⟩) n n) n (vf f)
theorem Nums.off {X : Nat → Prop} {w w' : World} {base b n : Nat} {f : Int → Int} (h : Nums w base b n f) (ho : Off X w w') (hX : ¬ X b) : Nums w' base b n f := Row.off h ho (fun g hg e => by cases hg; exact hX e)
theorem Nums.below {w w' : World} {base b n : Nat} {f : Int → Int} (h : Nums w base b n f) (hb : Below w.heap.size w w') : Nums w' base b n f := h.off (X := fun _ => False) (Off.of_below hb) (fun h => h)
theorem Nums.set {w : World} {base b n : Nat} {f : Int → Int} (h : Nums w base b n f) {i : Nat} (hi : i < n) (x : Int) : Nums (w.setCell ⟨b, i, none⟩ (.int .i64 x)) base b n (upz f i x) := by
  have a1 := Row.put h (vf_len f) hi [.int .i64 x] rfl
  have := Row.congr a1 (fun j _ => vf_up f i x j)
  unfold Nums
  simpa [putCells] using this
theorem Nums.cell {w : World} {base b n : Nat} {f : Int → Int} (h : Nums w base b n f) {i : Nat} (hi : i < n) : w.cell? ⟨b, i, none⟩ = some (.int .i64 (f i)) := by
  have := Row.cell h (vf_len f) hi (by decide : 0 < 1); simpa [vf] using this
theorem Nums.lt {w : World} {base b n : Nat} {f : Int → Int} (h : Nums w base b n f) : base ≤ b ∧ b < w.heap.size := World.ownsRow.lt h b rfl
theorem Nums.free {w : World} {base b n : Nat} {f : Int → Int} (h : Nums w base b n f) (j : Nat) : w.frozen? ⟨b, j, none⟩ = false := Row.free h j
theorem Nums.congr {w : World} {base b n : Nat} {f f' : Int → Int} (h : Nums w base b n f) (hf : ∀ i : Nat, i < n → f i = f' i) : Nums w base b n f' := Row.congr h (fun i hi => by unfold vf; rw [hf i hi])
theorem Nums.base_mono {w : World} {B base b n : Nat} {f : Int → Int} (h : Nums w B b n f) (hb : base ≤ B) : Nums w base b n f := Row.base_mono h hb
/-- Two rows of numbers, made since. -/
structure Two (W0 wr : World) (b1 b2 n : Nat) (sv ev : Int → Int) : Prop where
  h1 : Nums wr W0.heap.size b1 n sv
  h2 : Nums wr W0.heap.size b2 n ev
  hb : Below W0.heap.size W0 wr
theorem Two.below {W0 w w' : World} {b1 b2 n : Nat} {sv ev : Int → Int} (h : Two W0 w b1 b2 n sv ev) (hb : Below w.heap.size w w') : Two W0 w' b1 b2 n sv ev := ⟨h.h1.below hb, h.h2.below hb, h.hb.trans (hb.mono h.hb.size)⟩
theorem Two.set {W0 w : World} {b1 b2 n : Nat} {sv ev : Int → Int} (h : Two W0 w b1 b2 n sv ev) (hne : b1 ≠ b2) {i : Nat} (hi : i < n) (x y : Int) :
    Two W0 ((w.setCell ⟨b1, i, none⟩ (.int .i64 x)).setCell ⟨b2, i, none⟩ (.int .i64 y)) b1 b2 n (upz sv i x) (upz ev i y) := by
  have o1 : Off (fun b => b = b1) w (w.setCell ⟨b1, i, none⟩ (.int .i64 x)) := (Off.refl (fun b => b = b1) w).setCell (fun _ => rfl) _
  have o2 : Off (fun b => b = b2) (w.setCell ⟨b1, i, none⟩ (.int .i64 x)) ((w.setCell ⟨b1, i, none⟩ (.int .i64 x)).setCell ⟨b2, i, none⟩ (.int .i64 y)) := (Off.refl (fun b => b = b2) _).setCell (fun _ => rfl) _
  refine ⟨(h.h1.set hi x).off o2 hne, (h.h2.off o1 (fun e => hne e.symm)).set hi y, ?_⟩
  have l1 := h.h1.lt.1
  have l2 := h.h2.lt.1
  have s := h.hb.size
  exact (h.hb.trans (o1.toBelow s (fun k hk e => by omega))).trans (o2.toBelow (by have := o1.size; omega) (fun k hk e => by omega))
/-- What the rounds leave. -/
def Far (w : World) (n : Nat) (g : Gr) (src : Int) (e : Ending) (w' : World) : Prop :=
  ∃ (b1 b2 : Nat) (sv ev : Int → Int), e = .returned (.tuple #[.slice (some ⟨b1, 0, none⟩) n n, .slice (some ⟨b2, 0, none⟩) n n]) ∧ b1 ≠ b2 ∧ Two w w' b1 b2 n sv ev ∧
    ∀ v : Int, 0 ≤ v → v < n → (Rd.Can g src v → sv v = sec g src v ∧ ev v = edg g src v) ∧ (¬ Rd.Can g src v → sv v = 1099511627776 ∧ ev v = 1099511627776)
end Go.Proofs.YtlnfhlmgnppcbaaGreat

/- The program's travel times walked. -/
namespace Go.Proofs.YtlnfhlmgnppcbaaGreat
open Go.RowKit
set_option linter.unusedVariables false
set_option linter.unusedSimpArgs false
set_option maxRecDepth 8000
open Rd
def outTo (f : Int → Int) (k : Nat) : Int → Int := fun i => if i < k then f i else 0
theorem outTo_up (f : Int → Int) (k : Nat) (i : Int) : upz (outTo f k) k (f k) i = outTo f (k + 1) i := by
  unfold upz outTo
  by_cases e : i = k
  · subst e; simp; omega
  · by_cases e2 : i < k
    · rw [if_neg e, if_pos e2, if_pos (by omega)]
    · rw [if_neg e, if_neg e2, if_neg (by omega)]
theorem outTo_all (f : Int → Int) {n : Nat} (i : Nat) (h : i < n) : outTo f n i = f i := by unfold outTo; rw [if_pos (by omega)]
set_option maxHeartbeats 4000000 in
set_option maxRecDepth 100000 in
theorem times115 (n m c : Nat) (ao : Option Addr) (E : Nat → Ed) (src : Nat) (w : World) (hw : Net w ao m c E) (hr : Right n m E) (hs : src < n) :
    Calls Tryz.prog 115 #[.agg #[.int .i64 n, .slice ao m c], .int .i64 src] w fun e w' => ∃ b, e = .returned (.slice (some ⟨b, 0, none⟩) n n) ∧ Nums w' w.heap.size b n (sec (gr Ed.frm Ed.til n m E) src) ∧ Below w.heap.size w w' := by
  obtain ⟨w0, hw0⟩ : ∃ w0, w0 = w.alloc (.cells #[.int .i64 n, .slice ao m c] 28) := ⟨_, rfl⟩
  have b0 : Below w.heap.size w w0 := by rw [hw0]; exact (Below.refl _ _).alloc (Nat.le_refl _) _
  have x0 : w0.heap[w.heap.size]? = some (.cells #[.int .i64 n, .slice ao m c] 28) := by rw [hw0]; exact heap_alloc_new w _
  have r0 : w0.cell? ⟨w.heap.size, 0, none⟩ = some (.int .i64 n) := cell_at x0 0
  have B0 := Lib.hid b0
  have HW := Lib.hid hw0
  have zb : w.heap.size < w0.heap.size := block_lt x0
  have hn2 := hr.n2
  have SP := Lib.hid (spread132 n m c ao E src w0 (hw.below b0) hr hs)
  have hM := mk22 n hn2
  have HB0 := Lib.hid b0
  clear hw b0 x0 hw0 hr hs
  go_enter Tryz.func115, Tryz.ntmps115
  go_wp2_with fail
  rw [← HW.out]
  clear HW
  refine SP.out.mono ?_
  rintro e w1 ⟨b1, b2, fd, bs, be, rfl, hne, rw1, rw2, hfin, hb1⟩
  have d0 := cell_kept hb1 r0
  have zd := szs (cell_lt d0)
  dsimp only at zd
  have R1 := Lib.hid rw1
  have R2 := Lib.hid rw2
  have FIN := Lib.hid hfin
  have B1 := Lib.hid hb1
  have l1 : w0.heap.size ≤ b1 ∧ b1 < w1.heap.size := World.ownsRow.lt rw1 b1 rfl
  have l2 : w0.heap.size ≤ b2 ∧ b2 < w1.heap.size := World.ownsRow.lt rw2 b2 rfl
  clear rw1 rw2 hfin hb1 hne
  obtain ⟨M, hm⟩ : ∃ M, M = madeCells #[.int .i64 0] (n * 1) := ⟨_, rfl⟩
  rw [← hm] at hM
  have HM := Lib.hid hm
  clear hm
  go_wp2_with fail
  obtain ⟨w2, hw2⟩ : ∃ w2, w2 = w1.alloc (.cells M 3) := ⟨_, rfl⟩
  rw [← hw2]
  have b2' : Below w1.heap.size w1 w2 := by rw [hw2]; exact (Below.refl _ _).alloc (Nat.le_refl _) _
  have x2 : w2.heap[w1.heap.size]? = some (.cells M 3) := by rw [hw2]; exact heap_alloc_new w1 _
  have z2 : w1.heap.size < w2.heap.size := block_lt x2
  have y0 : Nums w2 w1.heap.size w1.heap.size n (fun _ => 0) := Row.of_made (z := #[.int .i64 0]) rfl (by decide) (by rw [← HM.out]; exact x2) (Nat.le_refl _) (by unfold maxLen; omega)
  have Y0 := Lib.hid (y0.congr (f' := outTo (sec (gr Ed.frm Ed.til n m E) src) 0) (fun i _ => by unfold outTo; rw [if_neg (by omega)]))
  have R1' := Lib.hid (Row.off (X := fun _ => False) R1.out (Off.of_below b2') (fun _ _ h => h))
  have R2' := Lib.hid (Row.off (X := fun _ => False) R2.out (Off.of_below b2') (fun _ _ h => h))
  have BW := Lib.hid ((B0.out.trans (B1.out.mono B0.out.size)).trans (b2'.mono (by have := B0.out.size; have := B1.out.size; omega)))
  clear x2 y0 hw2 b2' d0 zd hM HM
  go_loopw [20] (fun i wr => ∃ k : Nat, i = .int .i64 k ∧ k ≤ n ∧ Hid (Nums wr w1.heap.size w1.heap.size n (outTo (sec (gr Ed.frm Ed.til n m E) src) k) ∧ Off (fun b => b = w1.heap.size) w2 wr)) (fun i _ => n - (intOf i).toNat)
  case atStart => exact ⟨0, rfl, by omega, Y0.out, Off.refl _ _⟩
  case round =>
    clear Y0
    obtain ⟨k, rfl, hk, hrel⟩ := hrel
    by_cases hlt : k < n
    · have tk : (k : Int) < (n : Int) := by omega
      have p1 := hrel.out.1.cell hlt
      have p2 := hrel.out.1.free
      have rr1 := Row.off R1'.out hrel.out.2 (fun g hg h => by cases hg; dsimp only at h; omega)
      have rr2 := Row.off R2'.out hrel.out.2 (fun g hg h => by cases hg; dsimp only at h; omega)
      have p3 : wr.cell? ⟨b1, k * 2, none⟩ = some (.int .i64 (bs k)) := Row.cell rr1 (lf_len bs be) hlt (by decide : 0 < 2)
      have p4 : wr.cell? ⟨b2, k, none⟩ = some (.bool (fd k)) := by have := Row.cell rr2 (ff_len fd) hlt (by decide : 0 < 1); simpa [ff] using this
      have z3 := szs hrel.out.1.lt.2
      have z4 := szs (cell_lt p3)
      have z5 := szs (cell_lt p4)
      dsimp only at z4 z5
      have nb1 : w1.heap.size ≠ b1 := by omega
      have nb2 : w1.heap.size ≠ b2 := by omega
      have nb3 : b1 ≠ w1.heap.size := by omega
      have nb4 : b2 ≠ w1.heap.size := by omega
      have fk := FIN.out (k : Int)
      obtain ⟨f, hf⟩ : ∃ f, f = fd k := ⟨_, rfl⟩
      rw [← hf] at p4 fk
      have u1 := hrel.out.1.set hlt (-1)
      have o1 : Off (fun b => b = w1.heap.size) w2 (wr.setCell ⟨w1.heap.size, k, none⟩ (.int .i64 (-1))) := hrel.out.2.setCell (fun _ => rfl) _
      cases f
      · have nc : ¬ Rd.Can (gr Ed.frm Ed.til n m E) src k := fun h => by have := fk.1.2 h; cases this
        have HE := Lib.hid (And.intro (u1.congr (f' := outTo (sec (gr Ed.frm Ed.til n m E) src) (k + 1)) (fun i _ => by rw [← outTo_up, (not_can nc).1])) o1)
        clear fk u1 o1 hf rr1 rr2 nc
        go_wp2_with fail
        go_roundw
        case rel => exact ⟨k + 1, by go_num, by omega, HE.out⟩
        case measure => simp [intOf]; omega
      · have hc : bs k = sec (gr Ed.frm Ed.til n m E) src k := (fk.2 (fk.1.1 rfl)).1
        have u2 := u1.set hlt (bs k)
        have o2 : Off (fun b => b = w1.heap.size) w2 ((wr.setCell ⟨w1.heap.size, k, none⟩ (.int .i64 (-1))).setCell ⟨w1.heap.size, k, none⟩ (.int .i64 (bs k))) := o1.setCell (fun _ => rfl) _
        have HE := Lib.hid (And.intro (u2.congr (f' := outTo (sec (gr Ed.frm Ed.til n m E) src) (k + 1)) (fun i _ => by
          rw [← outTo_up, ← hc]
          unfold upz
          by_cases e : (i : Int) = k
          · rw [if_pos e, if_pos e]
          · rw [if_neg e, if_neg e, if_neg e])) o2)
        generalize bs k = bk at *
        clear fk u1 u2 o1 o2 hf rr1 rr2 hc
        go_wp2_with fail
        go_roundw
        case rel => exact ⟨k + 1, by go_num, by omega, HE.out⟩
        case measure => simp [intOf]; omega
    · obtain rfl : k = n := by omega
      have HE := Lib.hid ((hrel.out.1.congr (outTo_all _)).base_mono (base := w.heap.size) (by omega))
      have BE := Lib.hid (BW.out.trans (hrel.out.2.toBelow (by omega) (fun b hb e => by omega)))
      go_wp2_with fail
      go_returns
      exact ⟨_, rfl, HE.out, BE.out⟩
end Go.Proofs.YtlnfhlmgnppcbaaGreat

/- Times of the program. -/
namespace Go.Proofs.YtlnfhlmgnppcbaaGreat
open Go.RowKit
set_option linter.unusedVariables false
set_option linter.unusedSimpArgs false
set_option maxRecDepth 8000
open Rd
/-- What Times returns. -/
def Tm (N : Int) (m : Nat) (E : Nat → Ed) (src : Int) (w : World) (e : Ending) (w' : World) : Prop :=
  Below w.heap.size w w' ∧
    ((roadE N m E ≠ 0 ∧ e = .returned (.tuple #[.slice none 0 0, .int .i64 (roadE N m E)])) ∨
     (roadE N m E = 0 ∧ nodeB N src = false ∧ e = .returned (.tuple #[.slice none 0 0, .int .i64 7])) ∨
     (∃ n s b : Nat, roadE N m E = 0 ∧ N = n ∧ src = s ∧ s < n ∧ Right n m E ∧ e = .returned (.tuple #[.slice (some ⟨b, 0, none⟩) n n, .int .i64 0]) ∧ Nums w' w.heap.size b n (sec (gr Ed.frm Ed.til n m E) src)))
set_option maxHeartbeats 2000000 in
theorem times78 (N : Int) (ao : Option Addr) (m c : Nat) (E : Nat → Ed) (src : Int) (w : World) (hw : Net w ao m c E) :
    Calls Tryz.prog 78 #[.agg #[.int .i64 N, .slice ao m c], .int .i64 src] w fun e w' => Tm N m E src w e w' := by
  obtain ⟨w0, hw0⟩ : ∃ w0, w0 = w.alloc (.cells #[.int .i64 N, .slice ao m c] 28) := ⟨_, rfl⟩
  have b0 : Below w.heap.size w w0 := by rw [hw0]; exact (Below.refl _ _).alloc (Nat.le_refl _) _
  have x0 : w0.heap[w.heap.size]? = some (.cells #[.int .i64 N, .slice ao m c] 28) := by rw [hw0]; exact heap_alloc_new w _
  have r0 : w0.cell? ⟨w.heap.size, 0, none⟩ = some (.int .i64 N) := cell_at x0 0
  have r1 : w0.cell? ⟨w.heap.size, 1, none⟩ = some (.slice ao m c) := cell_at x0 1
  have B0 := Lib.hid b0
  have HW := Lib.hid hw0
  have zb : w.heap.size < w0.heap.size := block_lt x0
  have n0 := Lib.hid (hw.below b0)
  have CK := check74 N ao m c E w0 n0.out
  obtain ⟨x, hx⟩ : ∃ x, x = roadE N m E := ⟨_, rfl⟩
  rw [← hx] at CK
  have HCK := Lib.hid CK
  have HX := Lib.hid hx
  clear hw b0 x0 hw0 CK hx
  by_cases h0 : x = 0
  · subst h0
    have ND := fun w1 => node113 N src (.slice ao m c) w1 rfl
    obtain ⟨q, hq⟩ : ∃ q, q = nodeB N src := ⟨_, rfl⟩
    rw [← hq] at ND
    have HND := Lib.hid ND
    have HQ := Lib.hid hq
    clear ND hq
    go_enter Tryz.func78, Tryz.ntmps78
    go_wp2_with fail
    rw [← HW.out]
    clear HW
    refine HCK.out.mono ?_
    rintro e w1 ⟨rfl, b1⟩
    have d0 := cell_kept b1 r0
    have d1 := cell_kept b1 r1
    have zd := szs (cell_lt d0)
    dsimp only at zd
    have B1 := Lib.hid b1
    have n1 := Lib.hid (n0.out.below b1)
    clear b1
    go_wp2_with fail
    refine (HND.out _).mono ?_
    rintro e w2 ⟨rfl, b2⟩
    have e0 := cell_kept b2 d0
    have e1 := cell_kept b2 d1
    have ze := szs (cell_lt e0)
    dsimp only at ze
    have B2 := Lib.hid ((B0.out.trans (B1.out.mono B0.out.size)).trans (b2.mono (by have := B0.out.size; have := B1.out.size; omega)))
    have n2 := Lib.hid (n1.out.below b2)
    clear b2
    cases q
    · go_wp2_with fail
      go_returns
      exact ⟨B2.out, .inr (.inl ⟨HX.out.symm, HQ.out.symm, rfl⟩)⟩
    · obtain ⟨n, hn, hr⟩ := right_of HX.out.symm
      have hq : 0 ≤ src ∧ src < N := by have := HQ.out; simp [nodeB] at this; exact this
      obtain ⟨s, hs⟩ : ∃ s : Nat, src = (s : Int) := ⟨src.toNat, by omega⟩
      subst hn hs
      have hsn : s < n := by omega
      have TM := Lib.hid (times115 n m c ao E s w2 n2.out hr hsn)
      have HR := Lib.hid hr
      clear hr
      go_wp2_with fail
      refine TM.out.mono ?_
      rintro e w3 ⟨b, rfl, hN, b3⟩
      have HN := Lib.hid (hN.base_mono (base := w.heap.size) B2.out.size)
      have B3 := Lib.hid (B2.out.trans (b3.mono B2.out.size))
      clear hN b3
      go_wp2_with fail
      go_returns
      exact ⟨B3.out, .inr (.inr ⟨n, s, b, HX.out.symm, rfl, rfl, hsn, HR.out, rfl, HN.out⟩)⟩
  · have h0' : (x != 0) = true := by simp [h0]
    have H0 := Lib.hid h0
    clear h0
    go_enter Tryz.func78, Tryz.ntmps78
    go_wp2_with fail
    rw [← HW.out]
    clear HW
    refine HCK.out.mono ?_
    rintro e w1 ⟨rfl, b1⟩
    have B1 := Lib.hid b1
    clear b1
    go_wp2_with fail
    go_returns
    exact ⟨B0.out.trans (B1.out.mono B0.out.size), .inl ⟨by rw [← HX.out]; exact H0.out, by rw [← HX.out]; rfl⟩⟩
end Go.Proofs.YtlnfhlmgnppcbaaGreat

/- The reference's rounds over all edges walked. Condition: the network is right. -/
namespace Go.Proofs.YtlnfhlmgnppcbaaGreat
open Go.RowKit
set_option linter.unusedVariables false
set_option linter.unusedSimpArgs false
set_option maxRecDepth 8000
open Rd
def farTo (k : Nat) : Int → Int := fun i => if i < k then 1099511627776 else 0
theorem farTo_up (k : Nat) (i : Int) : upz (farTo k) k 1099511627776 i = farTo (k + 1) i := by
  unfold upz farTo
  by_cases e : i = k
  · subst e; simp; omega
  · by_cases e2 : i < k
    · rw [if_neg e, if_pos e2, if_pos (by omega)]
    · rw [if_neg e, if_neg e2, if_neg (by omega)]
set_option maxHeartbeats 4000000 in
set_option maxRecDepth 100000 in
theorem to63 (n m c : Nat) (ao : Option Addr) (E : Nat → Ed) (src : Nat) (w : World) (hw : Net w ao m c E) (hr : Right n m E) (hs : src < n) :
    Calls Tryz.prog 63 #[.agg #[.int .i64 n, .slice ao m c], .int .i64 src] w fun e w' => Far w n (gr Ed.til Ed.frm n m E) src e w' := by
  obtain ⟨w0, hw0⟩ : ∃ w0, w0 = w.alloc (.cells #[.int .i64 n, .slice ao m c] 28) := ⟨_, rfl⟩
  have b0 : Below w.heap.size w w0 := by rw [hw0]; exact (Below.refl _ _).alloc (Nat.le_refl _) _
  have x0 : w0.heap[w.heap.size]? = some (.cells #[.int .i64 n, .slice ao m c] 28) := by rw [hw0]; exact heap_alloc_new w _
  have n0 := Lib.hid (hw.below b0)
  have r0 : w0.cell? ⟨w.heap.size, 0, none⟩ = some (.int .i64 n) := cell_at x0 0
  have r1 : w0.cell? ⟨w.heap.size, 1, none⟩ = some (.slice ao m c) := cell_at x0 1
  have B0 := Lib.hid b0
  have HW := Lib.hid hw0
  have zb : w.heap.size < w0.heap.size := block_lt x0
  have hn2 := hr.n2
  have hn1 := hr.n1
  have hm512 := hr.m2
  have HR := Lib.hid hr
  have OK := Lib.hid hr.bwd
  have hsn : (src : Int) < (n : Int) := by omega
  have HS := Lib.hid (show 0 ≤ (src : Int) ∧ (src : Int) < ((gr Ed.til Ed.frm n m E).n : Int) from ⟨by omega, hsn⟩)
  have hM := mk22 n hn2
  obtain ⟨M, hm⟩ : ∃ M, M = madeCells #[.int .i64 0] (n * 1) := ⟨_, rfl⟩
  rw [← hm] at hM
  have HM := Lib.hid hm
  clear hw b0 x0 hw0 hr hs hm
  go_enter Tryz.func63, Tryz.ntmps63
  go_wp2_with fail
  rw [← HW.out]
  clear HW
  obtain ⟨ι, hne, Fw, fb, hF⟩ := grow_family w0
  have hF : ∀ w', (gPlan w0 (fun _ => undef) [] [] []).D () w' → ∃ i, w' = Fw i := hF
  have fr0 := fun i => cell_kept (fb i) r0
  (refine region_chain (gPlan w0 (fun _ => undef) [] [(2, fun b => .slice (some ⟨b, 0, none⟩) n n, .cells M 3), (5, fun b => .slice (some ⟨b, 0, none⟩) n n, .cells M 3)] []) () [] [0, 1, 2, 3, 4, 5, 6, 7] [] mixed (by kernel_rfl) (by kernel_rfl) (gPlan_ok (by simp) (by simp)) (gPlan_start _ _ _ _ _) ?_; refine wpPure_nil ?_; simp only [List.map_cons, List.map_nil, Array.getD_eq_getD_getElem?, List.getElem?_toArray, List.getElem?_cons_zero, List.getElem?_cons_succ, Option.getD_some])
  (repeat (refine wpChain_quiet hF rfl rfl rfl ?_; intro K hK; go_big_quiet_op; go_big_quiet_on))
  (refine wpChain_alloc _ _ rfl (List.mem_cons_self ..) rfl (fun w' => by go_simp) (fun b1 hb1 => ?_); simp only [Act.put, List.setIfInBounds_toArray, List.set_cons_succ, List.set_cons_zero])
  (repeat (refine wpChain_quiet hF rfl rfl rfl ?_; intro K hK; go_big_quiet_op; go_big_quiet_on))
  (refine wpChain_alloc _ _ rfl (List.mem_cons_of_mem _ (List.mem_cons_self ..)) rfl (fun w' => by go_simp) (fun b2 hb2 => ?_); simp only [Act.put, List.setIfInBounds_toArray, List.set_cons_succ, List.set_cons_zero])
  (repeat (refine wpChain_quiet hF rfl rfl rfl ?_; intro K hK; go_big_quiet_op; go_big_quiet_on))
  refine wpChain_nil (fun w4 hb4 hl4 => ?_)
  have hx1 : w4.heap[b1]? = some (.cells M 3) := (hl4.2 (2, b1, .cells M 3) (by simp)).2
  have hx2 : w4.heap[b2]? = some (.cells M 3) := (hl4.2 (5, b2, .cells M 3) (by simp)).2
  have hnd := hl4.1
  have hg1 : w0.heap.size ≤ b1 := (hl4.2 (2, b1, .cells M 3) (by simp)).1
  have hg2 : w0.heap.size ≤ b2 := (hl4.2 (5, b2, .cells M 3) (by simp)).1
  have hne12 : b1 ≠ b2 := by
    simp at hnd; first | exact hnd | exact fun e => hnd e.symm
  have hne12' : b2 ≠ b1 := fun e => hne12 e.symm
  have hb4 : Below w0.heap.size w0 w4 := hb4
  have y1 : Nums w4 w0.heap.size b1 n (fun _ => 0) := Row.of_made (z := #[.int .i64 0]) rfl (by decide) (by rw [← HM.out]; exact hx1) hg1 (by unfold maxLen; omega)
  have y2 : Nums w4 w0.heap.size b2 n (fun _ => 0) := Row.of_made (z := #[.int .i64 0]) rfl (by decide) (by rw [← HM.out]; exact hx2) hg2 (by unfold maxLen; omega)
  have f0 : ∀ i : Nat, (0 : Int) = farTo 0 i := fun i => by unfold farTo; rw [if_neg (by omega)]
  have T4 := Lib.hid (show Two w0 w4 b1 b2 n (farTo 0) (farTo 0) from ⟨y1.congr (fun i _ => f0 i), y2.congr (fun i _ => f0 i), hb4⟩)
  clear hb4 hl4 hx1 hx2 hnd hF fb fr0 y1 y2 hM HM f0
  refine onlyN_intro ?_
  go_wp2_with fail
  go_loopw [8] (fun i wr => ∃ k : Nat, i = .int .i64 k ∧ k ≤ n ∧ Hid (Two w0 wr b1 b2 n (farTo k) (farTo k))) (fun i _ => n - (intOf i).toNat)
  case atStart => exact ⟨0, rfl, by omega, T4.out⟩
  case round =>
    clear T4
    obtain ⟨k, rfl, hk, hrel⟩ := hrel
    have d0 := cell_kept hrel.out.hb r0
    have zd := szs (cell_lt d0)
    dsimp only at zd
    by_cases hlt : k < n
    · have tk : (k : Int) < (n : Int) := by omega
      have c1 := hrel.out.h1.cell hlt
      have c2 := hrel.out.h2.cell hlt
      have c3 := hrel.out.h1.free
      have c4 := hrel.out.h2.free
      have z1 := szs hrel.out.h1.lt.2
      have z2 := szs hrel.out.h2.lt.2
      have T5 := Lib.hid (hrel.out.set hne12 hlt 1099511627776 1099511627776)
      go_wp2_with fail
      go_roundw
      case rel => exact ⟨k + 1, by go_num, by omega, ⟨T5.out.h1.congr (fun i _ => farTo_up k i), T5.out.h2.congr (fun i _ => farTo_up k i), T5.out.hb⟩⟩
      case measure => simp [intOf]; omega
    · obtain rfl : k = n := by omega
      have c1 := hrel.out.h1.cell (i := src) (by omega)
      have c2 := hrel.out.h2.cell (i := src) (by omega)
      have c3 := hrel.out.h1.free
      have c4 := hrel.out.h2.free
      have z1 := szs hrel.out.h1.lt.2
      have z2 := szs hrel.out.h2.lt.2
      have ff : ∀ i : Nat, i < k → upz (farTo k) src 0 i = upz (fun _ => 1099511627776) src 0 i := fun i hi => by
        unfold upz farTo; by_cases e : (i : Int) = src
        · rw [if_pos e, if_pos e]
        · rw [if_neg e, if_neg e, if_pos (by omega)]
      have t5 := hrel.out.set hne12 (i := src) (by omega) 0 0
      have T5 := Lib.hid (show Two w0 _ b1 b2 k _ _ from ⟨t5.h1.congr ff, t5.h2.congr ff, t5.hb⟩)
      have BF := Lib.hid (Bf.start OK.out HS.out)
      clear ff t5 hrel
      go_wp2_with fail
      go_loopw [9] (fun i wr => ∃ (r : Nat) (sv ev : Int → Int), i = .int .i64 r ∧ r ≤ k ∧ Hid (Bf (gr Ed.til Ed.frm k m E) src r 0 sv ev ∧ Two w0 wr b1 b2 k sv ev)) (fun i _ => k - (intOf i).toNat)
      case atStart => exact ⟨0, _, _, rfl, by omega, BF.out, T5.out⟩
      case round =>
        clear T5 BF
        obtain ⟨r, sv, ev, rfl, hr, hrel⟩ := hrel
        have d0 := cell_kept hrel.out.2.hb r0
        have zd := szs (cell_lt d0)
        dsimp only at zd
        by_cases hrk : r < k
        · have tr : (r : Int) < (k : Int) := by omega
          have HO := hrel
          clear hrel
          go_wp2_with fail
          go_loopw [10] (fun i wr => ∃ (j : Nat) (sv ev : Int → Int), i = .int .i64 j ∧ j ≤ m ∧ Hid (Bf (gr Ed.til Ed.frm k m E) src r j sv ev ∧ Two w0 wr b1 b2 k sv ev)) (fun i _ => m - (intOf i).toNat)
          case atStart => exact ⟨0, sv, ev, rfl, by omega, HO.out⟩
          case round =>
            clear HO d0 zd
            obtain ⟨j, sv, ev, rfl, hj, hrel⟩ := hrel
            have d1 := cell_kept hrel.out.2.hb r1
            have zd := szs (cell_lt d1)
            dsimp only at zd
            by_cases hjm : j < m
            · obtain ⟨g, o, hao, hg, e0, e1, e2⟩ := (n0.out.below hrel.out.2.hb).cells hjm
              subst hao
              have zg := szs hg
              have tj : (j : Int) < (m : Int) := by omega
              have rj := HR.out.hs j hjm
              have hA : 0 ≤ (E j).til ∧ (E j).til < (k : Int) := OK.out.ha j hjm
              have hB : 0 ≤ (E j).frm ∧ (E j).frm < (k : Int) := OK.out.hb j hjm
              obtain ⟨ua, hua⟩ : ∃ u : Nat, (E j).til = (u : Int) := ⟨(E j).til.toNat, by omega⟩
              obtain ⟨ub, hub⟩ : ∃ u : Nat, (E j).frm = (u : Int) := ⟨(E j).frm.toNat, by omega⟩
              obtain ⟨sc, hsc⟩ : ∃ s, s = (E j).sec := ⟨_, rfl⟩
              have hak : ua < k := by omega
              have hbk : ub < k := by omega
              have tak : (ua : Int) < (k : Int) := by omega
              have tbk : (ub : Int) < (k : Int) := by omega
              rw [hub] at e0
              rw [hua] at e1
              rw [← hsc] at e2 rj
              obtain ⟨rj0, rj1⟩ := rj
              have big : r * m ≤ 64 * 512 := Nat.mul_le_mul (by omega) hm512
              have bd : ∀ v : Nat, v < k → (0 ≤ sv v ∧ sv v ≤ 1099511627776) ∧ 0 ≤ ev v ∧ ev v ≤ 1099511627776 := fun v hv => by
                rcases hrel.out.1.h1 (v : Int) (by omega) (show (v : Int) < (k : Int) by omega) with ⟨h1, h2⟩ | ⟨h1, h2⟩
                · omega
                · have := h1.nonneg OK.out; have h2 : sv v ≤ 1000 * ((r * m + j : Nat) : Int) := h2; omega
              have bda := bd ua hak
              have bdb := bd ub hbk
              have p1 := hrel.out.2.h1.cell hak
              have p2 := hrel.out.2.h2.cell hak
              have p3 := hrel.out.2.h1.cell hbk
              have p4 := hrel.out.2.h2.cell hbk
              have p5 := hrel.out.2.h1.free
              have p6 := hrel.out.2.h2.free
              have KEEP := Lib.hid (fun h => hrel.out.1.keep OK.out HS.out hn2 hjm h)
              have BET := Lib.hid (fun h1 h2 h3 => hrel.out.1.better OK.out HS.out hn2 hjm h1 h2 h3 (show r * m + j < 100000 by omega))
              have eA : (gr Ed.til Ed.frm k m E).a j = (ua : Int) := hua
              have eB : (gr Ed.til Ed.frm k m E).b j = (ub : Int) := hub
              have eC : (gr Ed.til Ed.frm k m E).c j = sc := hsc.symm
              rw [eA, eB, eC] at KEEP BET
              obtain ⟨su, hsu⟩ : ∃ x, x = sv ua := ⟨_, rfl⟩
              obtain ⟨eu, heu⟩ : ∃ x, x = ev ua := ⟨_, rfl⟩
              obtain ⟨sb, hsb⟩ : ∃ x, x = sv ub := ⟨_, rfl⟩
              obtain ⟨eb, heb⟩ : ∃ x, x = ev ub := ⟨_, rfl⟩
              rw [← hsu, ← heu, ← hsb, ← heb] at KEEP BET
              rw [← hsu, ← heu] at bda
              rw [← hsb, ← heb] at bdb
              rw [← hsu] at p1
              rw [← heu] at p2
              rw [← hsb] at p3
              rw [← heb] at p4
              obtain ⟨⟨a1, a2⟩, a3, a4⟩ := bda
              obtain ⟨⟨a5, a6⟩, a7, a8⟩ := bdb
              have z1 := szs hrel.out.2.h1.lt.2
              have z2 := szs hrel.out.2.h2.lt.2
              have TW := Lib.hid hrel.out.2
              clear hA hB hua hub hsc big bd hsu heu hsb heb eA eB eC hrel
              go_wp2_with fail
              (refine region_all (fun i : Nat => World.drewN _ i) mixed (by kernel_rfl) ⟨1, rfl⟩ ?_; (repeat (any_goals (first | go_big_quiet_step (fail) | quiet_step (fail) | (refine wpQuiet_step (fun K hK => ?_); go_simp; split <;> (refine hK _ ?_; clear hK K))))); (all_goals (refine wpQuiet_nil (fun nq => ?_))))
              obtain ⟨w5, hw5⟩ : ∃ w5, w5 = (wr.alloc (.cells #[.int .i64 ub, .int .i64 ua, .int .i64 sc] 130)).drewN nq := ⟨_, rfl⟩
              rw [← hw5]
              have b5 : Below wr.heap.size wr w5 := by rw [hw5]; exact below_drewN ((Below.refl _ _).alloc (Nat.le_refl _) _) _
              have x5 : w5.heap[wr.heap.size]? = some (.cells #[.int .i64 ub, .int .i64 ua, .int .i64 sc] 130) := by
                have hx := heap_alloc_new wr (.cells #[.int .i64 ub, .int .i64 ua, .int .i64 sc] 130)
                rw [hw5]; exact ((below_drewN (Below.refl _ _) nq).block _ (block_lt hx)).trans hx
              have nb1 : wr.heap.size ≠ b1 := by have := TW.out.h1.lt.2; omega
              have nb2 : wr.heap.size ≠ b2 := by have := TW.out.h2.lt.2; omega
              have nb3 : b1 ≠ wr.heap.size := fun e => nb1 e.symm
              have nb4 : b2 ≠ wr.heap.size := fun e => nb2 e.symm
              have q1 := cell_kept b5 p1
              have q2 := cell_kept b5 p2
              have q3 := cell_kept b5 p3
              have q4 := cell_kept b5 p4
              have T5 := TW.out.below b5
              have q5 := T5.h1.free
              have q6 := T5.h2.free
              have y0 : w5.cell? ⟨wr.heap.size, 0, none⟩ = some (.int .i64 ub) := cell_at x5 0
              have y1 : w5.cell? ⟨wr.heap.size, 1, none⟩ = some (.int .i64 ua) := cell_at x5 1
              have y2 : w5.cell? ⟨wr.heap.size, 2, none⟩ = some (.int .i64 sc) := cell_at x5 2
              have z3 := szs (block_lt x5)
              have z4 := szs T5.h1.lt.2
              have z5 := szs T5.h2.lt.2
              have HT5 := Lib.hid T5
              have TS := Lib.hid (T5.set hne12 hbk (su + sc) (eu + 1))
              clear hw5 b5 x5 T5 p1 p2 p3 p4 p5 p6 e0 e1 e2 z1 z2 d1 TW
              by_cases c1 : su = 1099511627776
              · subst c1
                have HK := Lib.hid (KEEP.out (.inl rfl))
                clear KEEP BET
                go_wp2_with fail
                go_roundw
                case rel => exact ⟨j + 1, sv, ev, by go_num, by omega, HK.out, HT5.out⟩
                case measure => simp [intOf]; omega
              · have c1' : su < 1099511627776 := by omega
                clear c1
                by_cases c2 : su + sc < sb
                · have HB := Lib.hid (BET.out c1' (.inl c2) a6)
                  clear KEEP BET
                  go_wp2_with fail
                  go_region
                  obtain ⟨w6, hw6⟩ : ∃ w6, w6 = ((w5.setCell ⟨b1, ub, none⟩ (.int .i64 (su + sc))).setCell ⟨b2, ub, none⟩ (.int .i64 (eu + 1))).drew := ⟨_, rfl⟩
                  rw [← hw6]
                  have T6 := Lib.hid (show Two w0 w6 b1 b2 k _ _ from by rw [hw6]; exact TS.out.below (Below.refl _ _).drew)
                  clear hw6
                  go_wp2_with fail
                  go_roundw
                  case rel => exact ⟨j + 1, _, _, by go_num, by omega, HB.out, T6.out⟩
                  case measure => simp [intOf]; omega
                · by_cases c3 : su + sc = sb ∧ eu + 1 < eb
                  · have HB := Lib.hid (BET.out c1' (.inr c3) a6)
                    obtain ⟨c3, c4⟩ := c3
                    have c2' : sb ≤ su + sc := by omega
                    have c3' : (su + sc == sb) = true := by simp [c3]
                    clear KEEP BET c2 c3
                    go_wp2_with fail
                    go_region
                    obtain ⟨w6, hw6⟩ : ∃ w6, w6 = ((w5.setCell ⟨b1, ub, none⟩ (.int .i64 (su + sc))).setCell ⟨b2, ub, none⟩ (.int .i64 (eu + 1))).drew := ⟨_, rfl⟩
                    rw [← hw6]
                    have T6 := Lib.hid (show Two w0 w6 b1 b2 k _ _ from by rw [hw6]; exact TS.out.below (Below.refl _ _).drew)
                    clear hw6
                    go_wp2_with fail
                    go_roundw
                    case rel => exact ⟨j + 1, _, _, by go_num, by omega, HB.out, T6.out⟩
                    case measure => simp [intOf]; omega
                  · have HK := Lib.hid (KEEP.out (.inr ⟨c1', by unfold leL; omega⟩))
                    have c2' : sb ≤ su + sc := by omega
                    have c4 : ((su + sc == sb) = true ∧ eb ≤ eu + 1) ∨ (su + sc == sb) = false := by
                      by_cases e : su + sc = sb
                      · exact .inl ⟨by simp [e], by omega⟩
                      · exact .inr (by simp [e])
                    clear KEEP BET c2 c3
                    rcases c4 with ⟨c4, c5⟩ | c4
                    all_goals
                      go_wp2_with fail
                      go_roundw
                      case rel => exact ⟨j + 1, sv, ev, by go_num, by omega, HK.out, HT5.out⟩
                      case measure => simp [intOf]; omega
            · obtain rfl : j = m := by omega
              have HE := Lib.hid (And.intro (hrel.out.1.round OK.out) hrel.out.2)
              go_wp2_with fail
              go_roundw
              case rel => exact ⟨r + 1, sv, ev, by go_num, by omega, HE.out⟩
              case measure => simp [intOf]; omega
        · obtain rfl : r = k := by omega
          have FIN := Lib.hid (fun (v : Int) (h0 : 0 ≤ v) (h1 : v < (r : Int)) => hrel.out.1.last OK.out HS.out hn2 h0 h1)
          have TW := Lib.hid hrel.out.2
          clear hrel
          go_wp2_with fail
          go_returns
          exact ⟨b1, b2, sv, ev, rfl, hne12, ⟨TW.out.h1.base_mono (by omega), TW.out.h2.base_mono (by omega), B0.out.trans (TW.out.hb.mono B0.out.size)⟩, FIN.out⟩
end Go.Proofs.YtlnfhlmgnppcbaaGreat

/- Times of the reference. -/
namespace Go.Proofs.YtlnfhlmgnppcbaaGreat
open Go.RowKit
set_option linter.unusedVariables false
set_option linter.unusedSimpArgs false
set_option maxRecDepth 8000
open Rd
def bkE (E : Nat → Ed) : Nat → Ed := fun i => ⟨(E i).til, (E i).frm, (E i).sec⟩
theorem Right.back {n m : Nat} {E : Nat → Ed} (h : Right n m E) : Right n m (bkE E) := ⟨h.n1, h.n2, h.m2, h.ht, h.hf, h.hs⟩
theorem ef_one (E : Nat → Ed) (i : Nat) : ∀ u ∈ ef E i, u.oneCell' = true := by
  intro u hu
  simp [ef] at hu
  rcases hu with rfl | rfl | rfl <;> rfl
theorem info130 : (Tryz.prog.info? 130).map (fun i => (i.zero, i.size, i.bytes)) = some (some (.agg #[.int .i64 0, .int .i64 0, .int .i64 0]), 3, 24) := by kernel_rfl
/-- What was far is -1 now, up to k. -/
def unFar (f : Int → Int) (k : Nat) : Int → Int := fun i => if i < k then (if f i = 1099511627776 then -1 else f i) else f i
theorem unFar_yes {f : Int → Int} {k : Nat} (h : f k = 1099511627776) (i : Int) : upz (unFar f k) k (-1) i = unFar f (k + 1) i := by
  unfold upz unFar
  by_cases e : i = k
  · subst e; rw [if_pos rfl, if_pos (by omega), if_pos h]
  · by_cases e2 : i < k
    · rw [if_neg e, if_pos e2, if_pos (show i < ((k + 1 : Nat) : Int) by omega)]
    · rw [if_neg e, if_neg e2, if_neg (show ¬ i < ((k + 1 : Nat) : Int) by omega)]
theorem unFar_no {f : Int → Int} {k : Nat} (h : f k ≠ 1099511627776) (i : Int) : unFar f k i = unFar f (k + 1) i := by
  unfold unFar
  by_cases e : i = k
  · subst e; rw [if_neg (by omega), if_pos (by omega), if_neg h]
  · by_cases e2 : i < k
    · rw [if_pos e2, if_pos (show i < ((k + 1 : Nat) : Int) by omega)]
    · rw [if_neg e2, if_neg (show ¬ i < ((k + 1 : Nat) : Int) by omega)]
theorem unFar_at (f : Int → Int) (k : Nat) : unFar f k k = f k := by unfold unFar; rw [if_neg (by omega)]
set_option maxHeartbeats 4000000 in
set_option maxRecDepth 100000 in
theorem times31 (N : Int) (ao : Option Addr) (m c : Nat) (E : Nat → Ed) (src : Int) (w : World) (hw : Net w ao m c E) :
    Calls Tryz.prog 31 #[.agg #[.int .i64 N, .slice ao m c], .int .i64 src] w fun e w' => Tm N m E src w e w' := by
  obtain ⟨w0, hw0⟩ : ∃ w0, w0 = w.alloc (.cells #[.int .i64 N, .slice ao m c] 28) := ⟨_, rfl⟩
  have b0 : Below w.heap.size w w0 := by rw [hw0]; exact (Below.refl _ _).alloc (Nat.le_refl _) _
  have x0 : w0.heap[w.heap.size]? = some (.cells #[.int .i64 N, .slice ao m c] 28) := by rw [hw0]; exact heap_alloc_new w _
  have r0 : w0.cell? ⟨w.heap.size, 0, none⟩ = some (.int .i64 N) := cell_at x0 0
  have r1 : w0.cell? ⟨w.heap.size, 1, none⟩ = some (.slice ao m c) := cell_at x0 1
  have B0 := Lib.hid b0
  have HW := Lib.hid hw0
  have zb : w.heap.size < w0.heap.size := block_lt x0
  have n0 := Lib.hid (hw.below b0)
  have CK := check61 N ao m c E w0 n0.out
  obtain ⟨x, hx⟩ : ∃ x, x = roadE N m E := ⟨_, rfl⟩
  rw [← hx] at CK
  have HCK := Lib.hid CK
  have HX := Lib.hid hx
  clear hw b0 x0 hw0 CK hx
  by_cases h0 : x = 0
  · subst h0
    have ND := fun w1 => node62 N src (.slice ao m c) w1 rfl
    obtain ⟨q, hq⟩ : ∃ q, q = nodeB N src := ⟨_, rfl⟩
    rw [← hq] at ND
    have HND := Lib.hid ND
    have HQ := Lib.hid hq
    clear ND hq
    go_enter Tryz.func31, Tryz.ntmps31
    go_wp2_with fail
    rw [← HW.out]
    clear HW
    refine HCK.out.mono ?_
    rintro e w1 ⟨rfl, b1⟩
    have d0 := cell_kept b1 r0
    have d1 := cell_kept b1 r1
    have zd := szs (cell_lt d0)
    dsimp only at zd
    have B1 := Lib.hid b1
    have n1 := Lib.hid (n0.out.below b1)
    clear b1
    go_wp2_with fail
    refine (HND.out _).mono ?_
    rintro e w2 ⟨rfl, b2⟩
    have e0 := cell_kept b2 d0
    have e1 := cell_kept b2 d1
    have ze := szs (cell_lt e0)
    dsimp only at ze
    have B2 := Lib.hid ((B0.out.trans (B1.out.mono B0.out.size)).trans (b2.mono (by have := B0.out.size; have := B1.out.size; omega)))
    have n2 := Lib.hid (n1.out.below b2)
    clear b2 d0 d1 zd
    cases q
    · go_wp2_with fail
      go_returns
      exact ⟨B2.out, .inr (.inl ⟨HX.out.symm, HQ.out.symm, rfl⟩)⟩
    · obtain ⟨n, hn, hr⟩ := right_of HX.out.symm
      have hq : 0 ≤ src ∧ src < N := by have := HQ.out; simp [nodeB] at this; exact this
      obtain ⟨s, hs⟩ : ∃ s : Nat, src = (s : Int) := ⟨src.toNat, by omega⟩
      subst hn hs
      have hsn : s < n := by omega
      have hm512 := hr.m2
      have hn64 := hr.n2
      have HR := Lib.hid hr
      obtain ⟨i0, hi, hz0, hz1, hz2⟩ := info_parts info130
      clear hr hq r0 r1
      go_wp2_with fail
      obtain ⟨w3, hw3⟩ : ∃ w3, w3 = w2.alloc (.cells #[.int .i64 n, .slice none 0 0] 28) := ⟨_, rfl⟩
      rw [← hw3]
      have b3 : Below w2.heap.size w2 w3 := by rw [hw3]; exact (Below.refl _ _).alloc (Nat.le_refl _) _
      have x3 : w3.heap[w2.heap.size]? = some (.cells #[.int .i64 n, .slice none 0 0] 28) := by rw [hw3]; exact heap_alloc_new w2 _
      have X3 := Lib.hid x3
      have B3 := Lib.hid b3
      clear hw3 x3 b3
      go_loopw [8] (fun i wr => ∃ (k : Nat) (v : Value), i = .int .i64 k ∧ k ≤ m ∧ Hid (wr.heap[w2.heap.size]? = some (.cells #[.int .i64 n, v] 28) ∧ Row wr w2.heap.size 130 3 v k (ef (bkE E)) ∧ v.ownBlock ≠ some w2.heap.size ∧ Below w2.heap.size w2 wr)) (fun i _ => m - (intOf i).toNat)
      case atStart => exact ⟨0, .slice none 0 0, rfl, by omega, X3.out, World.ownsRow_nil _ _ _ _, by simp [Value.ownBlock], B3.out⟩
      case round =>
        clear X3 B3
        obtain ⟨k, v, rfl, hk, hrel⟩ := hrel
        have g0 := cell_kept hrel.out.2.2.2 e0
        have g1 := cell_kept hrel.out.2.2.2 e1
        have zg := szs (cell_lt g0)
        dsimp only at zg
        have y0 : wr.cell? ⟨w2.heap.size, 0, none⟩ = some (.int .i64 n) := cell_at hrel.out.1 0
        have y1 : wr.cell? ⟨w2.heap.size, 1, none⟩ = some v := cell_at hrel.out.1 1
        have zy := szs (block_lt hrel.out.1)
        by_cases hlt : k < m
        · obtain ⟨g, o, hao, hg, p0, p1, p2⟩ := (n2.out.below hrel.out.2.2.2).cells hlt
          subst hao
          have zp := szs hg
          have tk : (k : Int) < (m : Int) := by omega
          have HEK : Hid (ef (bkE E) k = [.int .i64 (E k).til, .int .i64 (E k).frm, .int .i64 (E k).sec]) := Lib.hid rfl
          generalize (E k).frm = f0 at *
          generalize (E k).til = f1 at *
          generalize (E k).sec = f2 at *
          obtain ⟨ι, hne, Fw, fb, hF⟩ := grow_family wr
          have hF : ∀ w', (gPlan wr (fun _ => undef) [] [] []).D () w' → ∃ i, w' = Fw i := hF
          have fg1 := fun i => cell_kept (fb i) g1
          have fy1 := fun i => cell_kept (fb i) y1
          have fp0 := fun i => cell_kept (fb i) p0
          have fp1 := fun i => cell_kept (fb i) p1
          have fp2 := fun i => cell_kept (fb i) p2
          go_wp2_with fail
          refine region_chain (gPlan wr (fun _ => undef) [] [(21, fun b => .slice (some ⟨b, 0, none⟩) 1 1, .cells #[.int .i64 f1, .int .i64 f0, .int .i64 f2] 130)] []) () [] [0, 1, 2, 3, 4, 5, 6, 7, 8, 9, 10, 11, 12, 13, 14, 15, 16, 17, 18, 19, 20, 21] [22, 23, 24] mixed (by kernel_rfl) (by kernel_rfl) (gPlan_ok (by simp) (by simp)) (gPlan_start _ _ _ _ _) ?_
          refine wpPure_nil ?_
          simp only [List.map_cons, List.map_nil, Array.getD_eq_getD_getElem?, List.getElem?_toArray, List.getElem?_cons_zero, List.getElem?_cons_succ, Option.getD_some]
          (repeat (refine wpChain_quiet hF rfl rfl rfl ?_; intro K hK; go_big_quiet_op; go_big_quiet_on))
          (refine wpChain_alloc _ _ rfl (List.mem_cons_self ..) rfl (fun w' => by go_simp) (fun b1 hb1 => ?_); simp only [Act.put, List.setIfInBounds_toArray, List.set_cons_succ, List.set_cons_zero])
          refine wpChain_nil (fun w4 hb4 hl4 => ?_)
          have hx1 : w4.heap[b1]? = some (.cells #[.int .i64 f1, .int .i64 f0, .int .i64 f2] 130) := (hl4.2 (21, b1, .cells #[.int .i64 f1, .int .i64 f0, .int .i64 f2] 130) (by simp)).2
          have hb4 : Below wr.heap.size wr w4 := hb4
          have r4 := Row.off (X := fun _ => False) hrel.out.2.1 (Off.of_below hb4) (fun _ _ h => h)
          have X4 := Lib.hid ((hb4.block _ (block_lt hrel.out.1)).trans hrel.out.1)
          have B4 := Lib.hid (hrel.out.2.2.2.trans (hb4.mono hrel.out.2.2.2.size))
          have HX1 := Lib.hid hx1
          have HV := Lib.hid hrel.out.2.2.1
          have R4 := Lib.hid r4
          clear hb4 hl4 hF fb fg1 fy1 fp0 fp1 fp2 hx1 r4 p0 p1 p2 y0 y1 g0 g1 hrel
          go_wp2_with (at_builtin; refine wpList_append_row _ rfl _ _ 26 rfl w2.heap.size 130 i0 _ 3 24 Tryz.underlying26 hi hz0 hz1 hz2 rfl (by decide) _ k (ef (bkE E)) rfl R4.out (ef_len _) b1 1 [.int .i64 f1, .int .i64 f0, .int .i64 f2] rfl rfl 130 (0, 0) HX1.out (by rw [← HEK.out]; exact ef_one _ _) (by omega) (by unfold maxLen; omega) B4.out.size ?_)
          intro g' cap wA hcap hcap2 hbg hgl hown hrA hgr
          have OA := Off.of_grown hgr
          have xA := (OA.block _ (block_lt X4.out) (fun h => HV.out h.symm)).trans X4.out
          have hgq : g' ≠ w2.heap.size := fun e => by
            rcases hown with h | h
            · exact HV.out (by rw [h, e])
            · have := block_lt X4.out; omega
          have a0 : wA.frozen? ⟨w2.heap.size, 1, none⟩ = false := free_at xA 1
          have a1 : wA.cell? ⟨w2.heap.size, 1, none⟩ = some v := cell_at xA 1
          have oB : Off (fun b => b = w2.heap.size) wA (wA.setCell ⟨w2.heap.size, 1, none⟩ (.slice (some ⟨g', 0, none⟩) (k + 1) cap)) := (Off.refl (fun b => b = w2.heap.size) wA).setCell (fun _ => rfl) _
          have xB : (wA.setCell ⟨w2.heap.size, 1, none⟩ (.slice (some ⟨g', 0, none⟩) (k + 1) cap)).heap[w2.heap.size]? = some (.cells #[.int .i64 n, .slice (some ⟨g', 0, none⟩) (k + 1) cap] 28) := by
            rw [setCell_at xA, setAt_same (block_lt xA)]; rfl
          have rB : Row (wA.setCell ⟨w2.heap.size, 1, none⟩ (.slice (some ⟨g', 0, none⟩) (k + 1) cap)) w2.heap.size 130 3 (.slice (some ⟨g', 0, none⟩) (k + 1) cap) (k + 1) (ef (bkE E)) :=
            Row.congr (Row.off hrA oB (fun g hg h => by cases hg; exact hgq h)) (fun j _ => by
              by_cases e : j = k
              · subst e; rw [upd_same, HEK.out]
              · rw [upd_ne e])
          have BB := (B4.out.trans (OA.toBelow B4.out.size (fun b hb h => by have := (World.ownsRow.lt R4.out b h.symm).1; omega))).trans (oB.toBelow (by have := B4.out.size; have := OA.size; omega) (fun b hb h => by omega))
          have HE := Lib.hid (And.intro xB (And.intro rB (And.intro (show (Value.slice (some ⟨g', 0, none⟩) (k + 1) cap).ownBlock ≠ some w2.heap.size by simp [Value.ownBlock]; exact hgq) BB)))
          clear OA xA oB xB rB BB hgr hrA hown
          go_wp2_with fail
          refine onlyN_intro ?_
          go_wp2_with fail
          go_roundw
          case rel => exact ⟨k + 1, _, by go_num, by omega, HE.out⟩
          case measure => simp [intOf]; omega
        · obtain rfl : k = m := by omega
          obtain ⟨a', c', rfl, hc1, hc2, hsl, _⟩ := Row.sl hrel.out.2.1 (ef_len _)
          have TO := Lib.hid (to63 n k c' a' (bkE E) s wr ⟨hc1, hc2, hsl⟩ HR.out.back hsn)
          have BB := Lib.hid (B2.out.trans (hrel.out.2.2.2.mono B2.out.size))
          clear hsl hrel
          go_wp2_with fail
          refine TO.out.mono ?_
          rintro e w5 ⟨b1, b2, sv, ev, rfl, hne, htw, hfin⟩
          have FIN := Lib.hid hfin
          have TW := Lib.hid htw
          clear hfin htw
          go_wp2_with fail
          go_loopw [11] (fun i wr' => ∃ j : Nat, i = .int .i64 j ∧ j ≤ n ∧ Hid (Nums wr' wr.heap.size b1 n (unFar sv j) ∧ Below wr.heap.size wr wr')) (fun i _ => n - (intOf i).toNat)
          case atStart => exact ⟨0, rfl, by omega, TW.out.h1.congr (fun i _ => by unfold unFar; rw [if_neg (by omega)]), TW.out.hb⟩
          case round =>
            obtain ⟨j, rfl, hj, hrel⟩ := hrel
            rename_i wq _
            by_cases hlt : j < n
            · have tj : (j : Int) < (n : Int) := by omega
              have p1 := hrel.out.1.cell hlt
              rw [unFar_at] at p1
              have p2 := hrel.out.1.free
              have zp := szs hrel.out.1.lt.2
              by_cases hf : sv j = 1099511627776
              · have u := hrel.out.1.set hlt (-1)
                have HE := Lib.hid (And.intro (u.congr (fun i _ => unFar_yes hf i)) (hrel.out.2.setCell (p := ⟨b1, j, none⟩) hrel.out.1.lt.1 (.int .i64 (-1))))
                have HF := Lib.hid hf
                rw [hf] at p1
                clear hf u
                go_wp2_with fail
                go_roundw
                case rel => exact ⟨j + 1, by go_num, by omega, HE.out⟩
                case measure => simp [intOf]; omega
              · have hf' : (sv j == 1099511627776) = false := by simp [hf]
                have HE := Lib.hid (And.intro (hrel.out.1.congr (fun i _ => unFar_no hf i)) hrel.out.2)
                generalize sv j = sj at *
                clear hf
                go_wp2_with fail
                go_roundw
                case rel => exact ⟨j + 1, by go_num, by omega, HE.out⟩
                case measure => simp [intOf]; omega
            · obtain rfl : j = n := by omega
              have HE := Lib.hid ((hrel.out.1.congr (f' := sec (gr Ed.frm Ed.til j k E) s) (fun i hi => by
                unfold unFar
                rw [if_pos (by omega)]
                have f := FIN.out (i : Int) (by omega) (by omega)
                by_cases hc : Rd.Can (gr Ed.til Ed.frm j k (bkE E)) s i
                · have e := (f.1 hc).1
                  have lt := (best_far HR.out.back.bwd ⟨by omega, by show (s : Int) < (j : Int); omega⟩ hn64 hc.best).1
                  rw [if_neg (by omega), e]; rfl
                · have e := (f.2 hc).1
                  rw [if_pos e]; exact (not_can hc).1.symm)).base_mono (base := w.heap.size) (by have := BB.out.size; omega))
              have HB := Lib.hid (BB.out.trans (hrel.out.2.mono BB.out.size))
              go_wp2_with fail
              go_returns
              exact ⟨HB.out, .inr (.inr ⟨j, s, b1, HX.out.symm, rfl, rfl, hsn, HR.out, rfl, HE.out⟩)⟩
  · have h0' : (x != 0) = true := by simp [h0]
    have H0 := Lib.hid h0
    clear h0
    go_enter Tryz.func31, Tryz.ntmps31
    go_wp2_with fail
    rw [← HW.out]
    clear HW
    refine HCK.out.mono ?_
    rintro e w1 ⟨rfl, b1⟩
    have B1 := Lib.hid b1
    clear b1
    go_wp2_with fail
    go_returns
    exact ⟨B0.out.trans (B1.out.mono B0.out.size), .inl ⟨by rw [← HX.out]; exact H0.out, by rw [← HX.out]; rfl⟩⟩
end Go.Proofs.YtlnfhlmgnppcbaaGreat
