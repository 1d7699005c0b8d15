/- General theorems of this seat, in one text. -/
import Derived.Test.YtlnfhlmgnppcbaaGreatZA
import Derived.Test.YtlnfhlmgnppcbaaGreatZBB
import Derived.ScopeJumps
import Derived.WalkMore
import Derived.Test.YtlnfhlmgnppcbaaGreatZBA
import Derived.Test.YtlnfhlmgnppcbaaGreatZTKA
import Derived.BigQuiet
import Derived.BigRegion
namespace Go.Proofs.YtlnfhlmgnppcbaaGreat
open Go.RowKit Go.ChangeShapes Go.WideShapes Go.Deep
set_option linter.unusedVariables false
set_option linter.unusedSimpArgs false
end Go.Proofs.YtlnfhlmgnppcbaaGreat
namespace Go.Proofs.YtlnfhlmgnppcbaaGreat
open Go.RowKit Go.ChangeShapes Go.WideShapes Go.Deep
set_option linter.unusedVariables false
set_option linter.unusedSimpArgs false
theorem clnInfo53 : (Tryz.prog.info? 3).map (fun i => (i.zero, i.size, i.bytes)) = some (some (.int .i64 0), 1, 8) := by kernel_rfl
set_option maxRecDepth 4000 in
set_option maxHeartbeats 4000000 in
theorem clone53 (ao : Option Addr) (n c : Nat) (f : Nat → List Value) (w : World) (h : Sl w 1 ao n c f) (h1 : ∀ i, ∀ u ∈ f i, u.oneCell' = true) (hn : n ≤ 1000000) : Calls Tryz.prog 53 #[.slice ao n c] w fun e w' => ∃ v, e = .returned v ∧ Row w' w.heap.size 3 1 v n f ∧ Below w.heap.size w w' := by
  obtain ⟨i0, hi, hz0, hz1, hz2⟩ := info_parts clnInfo53
  cases ao with
  | none =>
    obtain ⟨rfl, rfl⟩ := h.hno rfl
    have q34 : ∀ w, (binOp .eql 22 (.slice none 0 0) (.slice none 0 0)).run Tryz.prog w = .ok (.bool true) w := fun w => Lib.run_eql_slice_nil w _ _ none 0 0 0 0 Tryz.underlying22
    clear h
    go_enter Tryz.func53, Tryz.ntmps53
    go_wp2_with fail
    go_returns
    exact ⟨_, rfl, ⟨by simp [flat], .inl ⟨rfl, rfl⟩⟩, Below.refl _ _⟩
  | some a =>
    have HS := Lib.hid h
    have q34 : ∀ w, (binOp .eql 22 (.slice (some a) n c) (.slice none 0 0)).run Tryz.prog w = .ok (.bool false) w := fun w => Lib.run_eql_slice_nil w _ _ (some a) n c 0 0 Tryz.underlying22
    have B0 : Hid (Below w.heap.size w (w.alloc (.cells #[] 3))) := Lib.hid (by (repeat' (first | (with_reducible exact Below.refl _ _) | (with_reducible assumption) | (with_reducible refine Below.drew ?_) | (with_reducible refine below_drewN ?_ _) | (with_reducible refine Below.alloc ?_ ?_ _) | (with_reducible refine Below.setCell ?_ ?_ _) | go_size)))
    clear h
    go_enter Tryz.func53, Tryz.ntmps53
    go_wp2_with (at_builtin; refine wpList_append_sl _ rfl (.tmp 5) (.tmp 6) 22 rfl w.heap.size 3 i0 _ 1 8 Tryz.underlying22 hi hz0 hz1 hz2 rfl (by decide) _ 0 f rfl (World.ownsRow_made w #[] 0 (Nat.le_refl _) (Nat.zero_le _) (by simp)) HS.out.len (some a) n c f rfl HS.out.len (fun h => by cases h) (HS.out.sl.below HS.out.len B0.out) h1 (by omega) (by unfold maxLen; omega) (by simp) ?_)
    intro v' w' hr hg hf
    have B1 : Hid (Below w.heap.size w w') := Lib.hid ((Below.refl _ w).alloc (Nat.le_refl _) _ |>.grown hg (by simp) (by intro k hk; simp [Value.ownBlock] at hk; omega))
    have HR : Hid (Row w' w.heap.size 3 1 v' n f) := Lib.hid (by
      exact Row.congr hr fun i hi => by simp [cat])
    clear hr hg hf
    go_wp2_with fail
    go_returns
    exact ⟨_, rfl, HR.out, B1.out⟩
end Go.Proofs.YtlnfhlmgnppcbaaGreat
namespace Go.Proofs.YtlnfhlmgnppcbaaGreat
end Go.Proofs.YtlnfhlmgnppcbaaGreat
namespace Go.Proofs.YtlnfhlmgnppcbaaGreat
set_option linter.unusedVariables false
open Go.RowKit
section
variable {P : Program} {ops : Array Oper}
def sPlan (w0 : World) (Shape : List Value → Prop) (mains : List Nat) (al : List (Nat × (Nat → Value) × Obj)) (st : List (Nat × Nat)) : PlanO (List Value) :=
  { K := fun _ w => Below w0.heap.size w0 w, D := fun _ w => Below w0.heap.size w0 w, mstep := fun _ s s' => (∃ v, s' = v :: s) ∧ Shape s', mval := fun _ s => s.headD undef, mains := mains, al := al, st := st, B0 := w0.heap.size,
    own := fun _ _ => False, uses := fun _ => [] }
variable {w0 : World} {Shape : List Value → Prop} {mains : List Nat} {al : List (Nat × (Nat → Value) × Obj)} {st : List (Nat × Nat)}
variable {a : Act} {i : Nat} {o : Oper} {r : List (Nat × Oper)} {s : List Value} {Bs : List (Nat × Nat × Obj)} {Fin : Act → List Value → List (Nat × Nat × Obj) → Prop}
end
end Go.Proofs.YtlnfhlmgnppcbaaGreat
namespace Go.Proofs.YtlnfhlmgnppcbaaGreat
open Go.RowKit Go.ChangeShapes Go.WideShapes Go.Deep
set_option linter.unusedVariables false
set_option linter.unusedSimpArgs false
set_option maxRecDepth 8000
open Rd
def tkC (t : Tk) : Array Value := #[.int .i64 t.dep, .int .i64 t.cap, .int .i64 t.frm, .int .i64 t.til]
def ndC (x : Nd) : Array Value := #[.int .i64 x.node, .int .i64 x.mv]
end Go.Proofs.YtlnfhlmgnppcbaaGreat
namespace Go.Proofs.YtlnfhlmgnppcbaaGreat
open Go.RowKit Go.ChangeShapes Go.WideShapes Go.Deep
set_option linter.unusedVariables false
set_option linter.unusedSimpArgs false
set_option maxRecDepth 8000
open Rd
def WalkW (g : Ng) (r : Int) (R : Nat → Int) (k : Nat) (w : World) (e : Ending) (w' : World) : Prop :=
  Below w.heap.size w w' ∧ ((walkE g r R k ≠ 0 ∧ e = .returned (.tuple #[.slice none 0 0, .int .i64 0, .int .i64 (walkE g r R k)])) ∨
    (walkE g r R k = 0 ∧ ∃ v : Value, e = .returned (.tuple #[v, .int .i64 (backK g (g.T r.toNat) R k), .int .i64 0]) ∧ ViRow w' w.heap.size v k (visK g (g.T r.toNat) R)))
set_option maxHeartbeats 8000000 in
theorem walkW17 (g : Ng) (r : Int) (R : Nat → Int) (k : Nat) (ra : Option Addr) (rc : Nat) (w : World) (hg : g.In w) (hR : Sl w 1 ra k rc (nf R)) (hk : k ≤ 1000) :
    Calls Tryz.prog 17 #[.agg g.cells, .agg #[.int .i64 r, .slice ra k rc]] w (WalkW g r R k w) := by
  have BB : Hid (Below w.heap.size w ((w.alloc (.cells g.cells 32)).alloc (.cells #[.int .i64 r, .slice ra k rc] 51))) := Lib.hid (by (repeat' (first | (with_reducible exact Below.refl _ _) | (with_reducible assumption) | (with_reducible refine Below.drew ?_) | (with_reducible refine below_drewN ?_ _) | (with_reducible refine Below.alloc ?_ ?_ _) | (with_reducible refine Below.setCell ?_ ?_ _) | go_size)))
  have XG := Lib.hid (al_keep (al_at w (.cells g.cells 32) rfl) (.cells #[.int .i64 r, .slice ra k rc] 51))
  have XR := Lib.hid (al_at (w.alloc (.cells g.cells 32)) (.cells #[.int .i64 r, .slice ra k rc] 51) (k := w.heap.size + 1) (by simp))
  obtain ⟨w1, hw1⟩ : ∃ w1, w1 = (w.alloc (.cells g.cells 32)).alloc (.cells #[.int .i64 r, .slice ra k rc] 51) := ⟨_, rfl⟩
  rw [← hw1] at BB XG XR
  have HW1 := Lib.hid hw1
  have HCC : Hid (g.cells = #[.int .i64 g.N, .slice g.ea g.em g.ec, .slice g.ta g.tn g.tc, .slice g.na g.nn g.nc, .int .i64 g.h]) := Lib.hid rfl
  rw [HCC.out] at XG HW1 ⊢
  have WK := Lib.hid (walk47 g r R k ra rc w1 (hg.below BB.out) (hR.below BB.out) hk)
  rw [HCC.out] at WK
  obtain ⟨E, hE⟩ : ∃ E, E = walkE g r R k := ⟨_, rfl⟩
  have HE := Lib.hid hE
  clear hw1 hg hR hE
  go_enter Tryz.func17, Tryz.ntmps17
  go_wp2_with fail
  rw [← HW1.out]
  have g0 := cell_kept (Below.refl w1.heap.size w1) (cell_at XG.out 0)
  have g1 := cell_kept (Below.refl w1.heap.size w1) (cell_at XG.out 1)
  have g2 := cell_kept (Below.refl w1.heap.size w1) (cell_at XG.out 2)
  have g3 := cell_kept (Below.refl w1.heap.size w1) (cell_at XG.out 3)
  have g4 := cell_kept (Below.refl w1.heap.size w1) (cell_at XG.out 4)
  have r0 := cell_kept (Below.refl w1.heap.size w1) (cell_at XR.out 0)
  have r1 := cell_kept (Below.refl w1.heap.size w1) (cell_at XR.out 1)
  try dsimp only at g0 g1 g2 g3 g4 r0 r1
  have zg := szs (cell_lt g0)
  have zr := szs (cell_lt r0)
  dsimp only at zg zr
  go_wp2_with fail
  refine WK.out.mono ?_
  rintro e w2 ⟨b2, ⟨hne, rfl⟩ | ⟨hz, b, v, rfl, hT, hV⟩⟩
  · have B2 := Lib.hid (BB.out.trans (b2.mono BB.out.size))
    rw [← HE.out] at hne
    rw [← HE.out]
    have te : (E != 0) = true := by simpa using hne
    have HN := Lib.hid hne
    clear WK hne b2
    go_wp2_with fail
    go_returns
    exact ⟨B2.out, .inl ⟨by rw [← HE.out]; exact HN.out, by rw [← HE.out]; rfl⟩⟩
  · have B2 := Lib.hid (BB.out.trans (b2.mono BB.out.size))
    have HZ := Lib.hid hz
    have HV := Lib.hid (Row.base_mono hV BB.out.size)
    have HBK : Hid ((homeS g (g.T r.toNat) (stK g (g.T r.toNat) R k)).now = backK g (g.T r.toNat) R k) := Lib.hid rfl
    generalize homeS g (g.T r.toNat) (stK g (g.T r.toNat) R k) = st at *
    unfold tourC at hT
    have d0 := cell_at hT 10
    have zt := szs (block_lt hT)
    clear WK hz b2 hV hT
    clear g0 g1 g2 g3 g4 r0 r1 zg zr
    go_wp2_with fail
    (refine region_all (fun i : Nat => World.drewN _ i) mixed (by kernel_rfl) ⟨1, rfl⟩ ?_; (repeat (any_goals (first | go_big_quiet_step (fail) | quiet_step (fail) | (refine wpQuiet_step (fun K hK => ?_); go_simp; split <;> (refine hK _ ?_; clear hK K))))); (all_goals (refine wpQuiet_nil (fun nq => ?_))))
    go_wp2_with fail
    have b3 : Below w2.heap.size w2 (w2.drewN nq) := below_drewN (Below.refl _ _) nq
    have HV3 := Lib.hid (Row.off (X := fun _ => False) HV.out (Off.of_below b3) (fun _ _ h => h))
    have B3 := Lib.hid (B2.out.trans (b3.mono B2.out.size))
    go_returns
    exact ⟨B3.out, .inr ⟨HZ.out, v, by rw [← HBK.out]; rfl, HV3.out⟩⟩
def LateW (g : Ng) (r : Int) (R : Nat → Int) (k : Nat) (done now : Int) (w : World) (e : Ending) (w' : World) : Prop :=
  Below w.heap.size w w' ∧ ((lateE g r R k done now ≠ 0 ∧ e = .returned (.tuple #[.slice none 0 0, .int .i64 0, .int .i64 0, .int .i64 (lateE g r R k done now)])) ∨
    (lateE g r R k done now = 0 ∧ ∃ v : Value, e = .returned (.tuple #[v, .int .i64 (backK g (g.T r.toNat) R k), .int .i64 (delayK g r R done now), .int .i64 0]) ∧ ViRow w' w.heap.size v k (visK g (g.T r.toNat) R)))
theorem ViRow.toSl {w : World} {base n : Nat} {v : Value} {V : Nat → Vi} (h : ViRow w base v n V) : ∃ ao c, v = .slice ao n c ∧ Sl w 4 ao n c (vif V) := Row.toSl h (vif_len V)
theorem Sl.vi {w : World} {ao : Option Addr} {n c : Nat} {V : Nat → Vi} (h : Sl w 4 ao n c (vif V)) {i : Nat} (hi : i < n) : ∃ g o, ao = some ⟨g, o, none⟩ ∧ g < w.heap.size ∧ w.cell? ⟨g, o + i * 4, none⟩ = some (.int .i64 (V i).need) ∧ w.cell? ⟨g, o + i * 4 + 1, none⟩ = some (.int .i64 (V i).arr) ∧ w.cell? ⟨g, o + i * 4 + 2, none⟩ = some (.int .i64 (V i).lea) ∧ w.cell? ⟨g, o + i * 4 + 3, none⟩ = some (.int .i64 (V i).load) := by
  obtain ⟨g, o, e, hc⟩ := h.cell hi
  have h0 : w.cell? ⟨g, o + i * 4, none⟩ = some (.int .i64 (V i).need) := hc 0 (by decide)
  exact ⟨g, o, e, cell_lt h0, h0, hc 1 (by decide), hc 2 (by decide), hc 3 (by decide)⟩
end Go.Proofs.YtlnfhlmgnppcbaaGreat
namespace Go.Proofs.YtlnfhlmgnppcbaaGreat
open Go.RowKit Go.ChangeShapes Go.WideShapes Go.Deep
set_option linter.unusedVariables false
set_option linter.unusedSimpArgs false
set_option maxRecDepth 8000
open Rd
theorem Sl.drop {w : World} {s g o n c : Nat} {f : Nat → List Value} (h : Sl w s (some ⟨g, o, none⟩) n c f) {q : Nat} (hq : q ≤ n) : Sl w s (some ⟨g, o + q * s, none⟩) (n - q) (c - q) (fun i => f (q + i)) := by
  refine ⟨(by have := h.hm; omega), (by have := h.hc; omega), (fun e => by cases e), (fun i => h.len _), fun i hi => ?_⟩
  obtain ⟨g', o', e, hc⟩ := h.sl (q + i) (by omega)
  cases e
  refine ⟨g, o + q * s, rfl, fun j hj => ?_⟩
  have := hc j hj
  rw [Nat.add_mul, ← Nat.add_assoc] at this
  exact this
def lateV (dl : Int) (x : Vi) : Vi := ⟨x.need, x.arr + dl, x.lea + dl, x.load⟩
theorem ViRow.late {w : World} {base b n cap : Nat} {V : Nat → Vi} (h : ViRow w base (.slice (some ⟨b, 0, none⟩) n cap) n V) {i : Nat} (hi : i < n) (dl : Int) :
    ViRow ((w.setCell ⟨b, i * 4 + 1, none⟩ (.int .i64 ((V i).arr + dl))).setCell ⟨b, i * 4 + 2, none⟩ (.int .i64 ((V i).lea + dl))) base (.slice (some ⟨b, 0, none⟩) n cap) n (upd V i (lateV dl (V i))) := by
  have h1 := Row.store h (vif_len V) hi (j := 1) (by decide) (.int .i64 ((V i).arr + dl))
  have h2 := Row.store h1 (fun j => by unfold upd; split <;> simp [vif]) hi (j := 2) (by decide) (.int .i64 ((V i).lea + dl))
  refine Row.congr h2 (fun j hj => ?_)
  by_cases e : j = i
  · subst e
    simp [upd, vif, lateV]
  · simp [upd, vif, e]
def RestW (g : Ng) (r : Int) (R : Nat → Int) (k : Nat) (done now : Int) (w : World) (e : Ending) (w' : World) : Prop :=
  Below w.heap.size w w' ∧ ((restE g r R k done now ≠ 0 ∧ e = .returned (.tuple #[.slice none 0 0, .int .i64 0, .int .i64 (restE g r R k done now)])) ∨
    (restE g r R k done now = 0 ∧ ∃ v : Value, e = .returned (.tuple #[v, .int .i64 (backK g (g.T r.toNat) R k + delayK g r R done now), .int .i64 0]) ∧ ViRow w' w.heap.size v (k - done.toNat) (fun i => lateV (delayK g r R done now) (visK g (g.T r.toNat) R (done.toNat + i)))))
end Go.Proofs.YtlnfhlmgnppcbaaGreat
namespace Go.Proofs.YtlnfhlmgnppcbaaGreat
set_option linter.unusedVariables false
set_option linter.unusedSimpArgs false
open Rd
end Go.Proofs.YtlnfhlmgnppcbaaGreat
namespace Go.Proofs.YtlnfhlmgnppcbaaGreat
open Go.RowKit Go.ChangeShapes Go.WideShapes Go.Deep
set_option linter.unusedVariables false
set_option linter.unusedSimpArgs false
set_option maxRecDepth 8000
open Rd
def IntRow (w : World) (base : Nat) (v : Value) (n : Nat) (F : Nat → Int) : Prop := Row w base 3 1 v n (nf F)
theorem Row.ne {w : World} {base s n g b : Nat} {e T : TypeId} {v : Value} {f : Nat → List Value} {cs : Array Value} (h : Row w base e s v n f) (hg : v.ownBlock = some g) (hb : w.heap[b]? = some (.cells cs T (0, 0))) (hT : T ≠ e) : g ≠ b := by
  intro he
  subst he
  rcases h.2 with ⟨hv, _⟩ | ⟨g', cap, cur, hv, _, hh, _⟩
  · rw [hv] at hg; simp [Value.ownBlock] at hg
  · rw [hv] at hg
    have : g' = g := by simpa [Value.ownBlock] using hg
    subst this
    rw [hb] at hh
    cases hh
    exact hT rfl
def CutW (g : Ng) (r : Int) (R : Nat → Int) (k : Nat) (done now : Int) (w : World) (e : Ending) (w' : World) : Prop :=
  Below w.heap.size w w' ∧ ((cutE g r R k done now ≠ 0 ∧ e = .returned (.tuple #[.agg #[.int .i64 0, .slice none 0 0], .int .i64 (cutE g r R k done now)])) ∨
    (cutE g r R k done now = 0 ∧ ∃ v : Value, e = .returned (.tuple #[.agg #[.int .i64 r, v], .int .i64 0]) ∧ IntRow w' w.heap.size v (cutL g r R k done now).length (fun i => (cutL g r R k done now).getD i 0)))
structure CutJ (g : Ng) (r : Int) (R : Nat → Int) (k : Nat) (ra : Option Addr) (rc : Nat) (w0 : World) (W d : Nat) (now : Int) (j b14 b15 b16 : Nat) (v : Value) (w : World) : Prop where
  le : d + j ≤ k
  night : w.heap[W]? = some (.cells g.cells 32 (0, 0))
  route : w.heap[W + 1]? = some (.cells #[.int .i64 r, .slice ra k rc] 51 (0, 0))
  res : w.heap[W + 1 + 1]? = some (.cells #[.int .i64 0, .slice none 0 0] 51 (0, 0))
  tk : w.heap[b14]? = some (.cells (tkC (g.T r.toNat)) 62 (0, 0))
  st : w.heap[b15]? = some (.cells (cpC (cutK g (g.T r.toNat) R d now j).1) 113 (0, 0))
  out : w.heap[b16]? = some (.cells #[.int .i64 r, v] 51 (0, 0))
  row : IntRow w w0.heap.size v (cutK g (g.T r.toNat) R d now j).2.length (fun i => (cutK g (g.T r.toNat) R d now j).2.getD i 0)
  bel : Below w0.heap.size w0 w
  ne : W = w0.heap.size ∧ W + 1 + 1 < b16 ∧ W ≤ b15
def CutF (W i b14 b15 b16 : Nat) (u : Nat → Value) : Act := { tmps := #[u 0, u 1, u 2, u 3, .pointer (some ⟨W, 0, none⟩), .pointer (some ⟨W + 1, 0, none⟩), u 6, u 7, .pointer (some ⟨W + 1 + 1, 0, none⟩), u 9, u 10, u 11, u 12, u 13, .pointer (some ⟨b14, 0, none⟩), .pointer (some ⟨b15, 0, none⟩), .pointer (some ⟨b16, 0, none⟩), .int .i64 (i : Int), u 18, u 19, u 20, u 21, u 22, u 23, u 24, u 25, u 26, u 27, u 28, u 29, u 30, u 31, u 32, u 33, u 34, u 35, u 36, u 37, u 38, u 39, u 40, u 41, u 42, u 43, u 44, u 45, u 46, u 47, u 48, u 49, u 50, u 51, u 52, u 53, u 54, u 55, u 56, u 57, u 58, u 59, u 60, u 61, u 62, u 63, u 64, u 65, u 66, u 67, u 68, u 69, u 70, u 71, u 72, u 73, u 74, u 75, u 76, u 77, u 78, u 79, u 80, u 81, u 82, u 83, u 84, u 85, u 86, u 87, u 88, u 89, u 90, u 91, u 92, u 93, u 94, u 95, u 96, u 97, u 98, u 99, u 100, u 101, u 102, u 103, u 104, u 105, u 106, u 107, u 108, u 109, u 110, u 111, u 112, u 113, u 114, u 115, u 116, u 117, u 118, u 119, u 120, u 121], defers := [] }
structure CutA (W i b14 b15 b16 : Nat) (a : Act) : Prop where
  df : a.defers = []
  sz : a.tmps.size = 122
  a4 : a.tmps[4]? = some (.pointer (some ⟨W, 0, none⟩))
  a5 : a.tmps[5]? = some (.pointer (some ⟨W + 1, 0, none⟩))
  a8 : a.tmps[8]? = some (.pointer (some ⟨W + 1 + 1, 0, none⟩))
  a14 : a.tmps[14]? = some (.pointer (some ⟨b14, 0, none⟩))
  a15 : a.tmps[15]? = some (.pointer (some ⟨b15, 0, none⟩))
  a16 : a.tmps[16]? = some (.pointer (some ⟨b16, 0, none⟩))
  a17 : a.tmps[17]? = some (.int .i64 (i : Int))
end Go.Proofs.YtlnfhlmgnppcbaaGreat
namespace Go.Proofs.YtlnfhlmgnppcbaaGreat
open Go.RowKit Go.ChangeShapes Go.WideShapes Go.Deep
set_option linter.unusedVariables false
set_option linter.unusedSimpArgs false
set_option maxRecDepth 8000
open Rd
theorem infoI3 : (Tryz.prog.info? 3).map (fun i => (i.zero, i.size, i.bytes)) = some (some (.int .i64 0), 1, 8) := by kernel_rfl
theorem wpList_append_I {ops : Array Oper} {rest : List Oper} {o : Oper} {a : Act} {Q : Exit → Act → World → Prop} (w : World) (hgd : o.guard = none) (x1 x2 : Operand) (ho : o.op = .call { callee := .builtin .append, args := #[x1, x2], argTypes := #[22, 22] })
    (base : Nat) (v : Value) (n : Nat) (F : Nat → Int) (hs : a.eval x1 = v) (h1 : IntRow w base v n F) (b1 : Nat) (x : Int) (hx : a.eval x2 = .slice (some ⟨b1, 0, none⟩) 1 1) (ob : TypeId) (fz : Nat × Nat) (hb1 : w.heap[b1]? = some (.cells #[.int .i64 x] ob fz)) (hn : n ≤ 1000000) (hb : base ≤ w.heap.size)
    (h : ∀ g cap w', n + 1 ≤ cap → cap ≤ 9223372036854775807 → g < w'.heap.size → (v.ownBlock = some g ∨ w.heap.size ≤ g) → IntRow w' base (.slice (some ⟨g, 0, none⟩) (n + 1) cap) (n + 1) (upd F n x) → Off (fun i => v.ownBlock = some i) w w' → wpList Tryz.prog ops Q rest (a.put o.dst (.slice (some ⟨g, 0, none⟩) (n + 1) cap)) w') : wpList Tryz.prog ops Q (o :: rest) a w := by
  obtain ⟨i0, hi, hz0, hz1, hz2⟩ := info_parts infoI3
  refine wpList_append_row w hgd x1 x2 22 ho base 3 i0 _ 1 8 Tryz.underlying22 hi hz0 hz1 hz2 rfl (by decide) v n (nf F) hs h1 (fun i => rfl) b1 1 [.int .i64 x] hx rfl ob fz hb1 (fun u hu => by obtain rfl := List.mem_singleton.1 hu; rfl) (by omega) (by unfold maxLen; omega) hb ?_
  intro g cap w' k1 k2 k3 k4 k5 r b
  refine h g cap w' k1 k2 k4 k5 (Row.congr r (fun i _ => ?_)) ((Off.of_grown b).mono (fun i _ h => by first | exact h | exact h.symm))
  show upd (nf F) n _ i = nf (upd F n x) i
  by_cases e : i = n
  · subst e; rw [upd_same]; simp [nf, upd]
  · rw [upd_ne e]; simp [nf, upd, e]
def CutR (g : Ng) (r : Int) (R : Nat → Int) (k : Nat) (ra : Option Addr) (rc : Nat) (w : World) (done now : Int) (a' : Act) (w' : World) : Prop :=
  lateE g r R k done now = 0 ∧ fitsB g (g.T r.toNat) ⟨atK g (g.T r.toNat) R done.toNat, loadK g R done.toNat, now⟩ = true ∧ ∃ (d j b14 b15 b16 : Nat) (v : Value), done = (d : Int) ∧ CutA w.heap.size (d + j) b14 b15 b16 a' ∧ CutJ g r R k ra rc w w.heap.size d now j b14 b15 b16 v w'
end Go.Proofs.YtlnfhlmgnppcbaaGreat
namespace Go.Proofs.YtlnfhlmgnppcbaaGreat
set_option linter.unusedVariables false
set_option linter.unusedSimpArgs false
open Rd
theorem Rd.Rc.low {g : Gr} {src : Int} (p : Int → Int) (h0 : p src ≤ 0) (h : ∀ i, i < g.m → p (g.b i) ≤ p (g.a i) + g.c i) {v s k : Int} (r : Rc g src v s k) : p v ≤ s := by
  induction r with
  | nil => exact h0
  | snoc i r hi ih => have := h i hi; omega
theorem sec_is {g : Gr} (o : g.Ok) {src v s k : Int} (r : Rc g src v s k) (p : Int → Int) (h0 : p src ≤ 0) (h : ∀ i, i < g.m → p (g.b i) ≤ p (g.a i) + g.c i) (hv : p v = s) : sec g src v = s := by
  have hc : Rd.Can g src v := (can_iff o).2 ⟨_, _, r⟩
  have h1 := hc.best.2 _ _ r
  have h2 := hc.best.1.low p h0 h
  unfold leL at h1; omega
def smE : Nat → Ed := fun i => [(⟨0, 1, 100⟩ : Ed), ⟨1, 0, 100⟩, ⟨1, 2, 60⟩, ⟨2, 1, 60⟩, ⟨0, 2, 200⟩, ⟨2, 0, 200⟩].getD i ⟨0, 0, 0⟩
def smT : Nat → Tk := fun i => [(⟨0, 10, 1000, 2000⟩ : Tk)].getD i ⟨0, 0, 0, 0⟩
def smD : Nat → Nd := fun i => [(⟨1, 8⟩ : Nd), ⟨2, -5⟩].getD i ⟨0, 0⟩
def smG (ea ta na : Option Addr) : Ng := ⟨3, ea, 6, 6, smE, ta, 1, 1, smT, na, 2, 2, smD, 10⟩
def smR : Nat → Int := fun i => [(0 : Int), 1].getD i 0
section
variable (ea ta na : Option Addr)
def smgr : Gr := gr Ed.frm Ed.til 3 6 smE
end
end Go.Proofs.YtlnfhlmgnppcbaaGreat
