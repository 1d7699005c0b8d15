/- General theorems of this seat, in one text. -/
import Derived.Test.YtlnfhlmgnppcbaaGreatA
import Derived.Test.YtlnfhlmgnppcbaaGreatBB
import Derived.ScopeJumps
import Derived.WalkMore
import Derived.Test.YtlnfhlmgnppcbaaGreatBA
import Derived.Test.YtlnfhlmgnppcbaaGreatTKA
import Derived.BigQuiet
import Derived.BigRegion
/- The library's Clone of a slice. -/
namespace Go.Proofs.YtlnfhlmgnppcbaaGreat
open Go.RowKit Go.ChangeShapes Go.WideShapes Go.Deep
set_option linter.unusedVariables false
set_option linter.unusedSimpArgs false
theorem clnInfo50 : (Tryz.prog.info? 56).map (fun i => (i.zero, i.size, i.bytes)) = some (some (.agg #[.int .i64 0, .int .i64 0, .int .i64 0, .int .i64 0]), 4, 32) := by kernel_rfl
set_option maxRecDepth 4000 in
set_option maxHeartbeats 4000000 in
theorem clone50 (ao : Option Addr) (n c : Nat) (f : Nat → List Value) (w : World) (h : Sl w 4 ao n c f) (h1 : ∀ i, ∀ u ∈ f i, u.oneCell' = true) (hn : n ≤ 1000000) : Calls Tryz.prog 50 #[.slice ao n c] w fun e w' => ∃ v, e = .returned v ∧ Row w' w.heap.size 56 4 v n f ∧ Below w.heap.size w w' := by
  obtain ⟨i0, hi, hz0, hz1, hz2⟩ := info_parts clnInfo50
  cases ao with
  | none =>
    obtain ⟨rfl, rfl⟩ := h.hno rfl
    have q34 : ∀ w, (binOp .eql 52 (.slice none 0 0) (.slice none 0 0)).run Tryz.prog w = .ok (.bool true) w := fun w => Lib.run_eql_slice_nil w _ _ none 0 0 0 0 Tryz.underlying52
    clear h
    go_enter Tryz.func50, Tryz.ntmps50
    go_wp2_with fail
    go_returns
    exact ⟨_, rfl, ⟨by simp [flat], .inl ⟨rfl, rfl⟩⟩, Below.refl _ _⟩
  | some a =>
    have HS := Lib.hid h
    have q34 : ∀ w, (binOp .eql 52 (.slice (some a) n c) (.slice none 0 0)).run Tryz.prog w = .ok (.bool false) w := fun w => Lib.run_eql_slice_nil w _ _ (some a) n c 0 0 Tryz.underlying52
    have B0 : Hid (Below w.heap.size w (w.alloc (.cells #[] 56))) := Lib.hid (by (repeat' (first | (with_reducible exact Below.refl _ _) | (with_reducible assumption) | (with_reducible refine Below.drew ?_) | (with_reducible refine below_drewN ?_ _) | (with_reducible refine Below.alloc ?_ ?_ _) | (with_reducible refine Below.setCell ?_ ?_ _) | go_size)))
    clear h
    go_enter Tryz.func50, Tryz.ntmps50
    go_wp2_with (at_builtin; refine wpList_append_sl _ rfl (.tmp 5) (.tmp 6) 52 rfl w.heap.size 56 i0 _ 4 32 Tryz.underlying52 hi hz0 hz1 hz2 rfl (by decide) _ 0 f rfl (World.ownsRow_made w #[] 0 (Nat.le_refl _) (Nat.zero_le _) (by simp)) HS.out.len (some a) n c f rfl HS.out.len (fun h => by cases h) (HS.out.sl.below HS.out.len B0.out) h1 (by omega) (by unfold maxLen; omega) (by simp) ?_)
    intro v' w' hr hg hf
    have B1 : Hid (Below w.heap.size w w') := Lib.hid ((Below.refl _ w).alloc (Nat.le_refl _) _ |>.grown hg (by simp) (by intro k hk; simp [Value.ownBlock] at hk; omega))
    have HR : Hid (Row w' w.heap.size 56 4 v' n f) := Lib.hid (by
      exact Row.congr hr fun i hi => by simp [cat])
    clear hr hg hf
    go_wp2_with fail
    go_returns
    exact ⟨_, rfl, HR.out, B1.out⟩
end Go.Proofs.YtlnfhlmgnppcbaaGreat

/- The library's Clone of a slice. -/
namespace Go.Proofs.YtlnfhlmgnppcbaaGreat
open Go.RowKit Go.ChangeShapes Go.WideShapes Go.Deep
set_option linter.unusedVariables false
set_option linter.unusedSimpArgs false
theorem clnInfo53 : (Tryz.prog.info? 3).map (fun i => (i.zero, i.size, i.bytes)) = some (some (.int .i64 0), 1, 8) := by kernel_rfl
set_option maxRecDepth 4000 in
set_option maxHeartbeats 4000000 in
theorem clone53 (ao : Option Addr) (n c : Nat) (f : Nat → List Value) (w : World) (h : Sl w 1 ao n c f) (h1 : ∀ i, ∀ u ∈ f i, u.oneCell' = true) (hn : n ≤ 1000000) : Calls Tryz.prog 53 #[.slice ao n c] w fun e w' => ∃ v, e = .returned v ∧ Row w' w.heap.size 3 1 v n f ∧ Below w.heap.size w w' := by
  obtain ⟨i0, hi, hz0, hz1, hz2⟩ := info_parts clnInfo53
  cases ao with
  | none =>
    obtain ⟨rfl, rfl⟩ := h.hno rfl
    have q34 : ∀ w, (binOp .eql 22 (.slice none 0 0) (.slice none 0 0)).run Tryz.prog w = .ok (.bool true) w := fun w => Lib.run_eql_slice_nil w _ _ none 0 0 0 0 Tryz.underlying22
    clear h
    go_enter Tryz.func53, Tryz.ntmps53
    go_wp2_with fail
    go_returns
    exact ⟨_, rfl, ⟨by simp [flat], .inl ⟨rfl, rfl⟩⟩, Below.refl _ _⟩
  | some a =>
    have HS := Lib.hid h
    have q34 : ∀ w, (binOp .eql 22 (.slice (some a) n c) (.slice none 0 0)).run Tryz.prog w = .ok (.bool false) w := fun w => Lib.run_eql_slice_nil w _ _ (some a) n c 0 0 Tryz.underlying22
    have B0 : Hid (Below w.heap.size w (w.alloc (.cells #[] 3))) := Lib.hid (by (repeat' (first | (with_reducible exact Below.refl _ _) | (with_reducible assumption) | (with_reducible refine Below.drew ?_) | (with_reducible refine below_drewN ?_ _) | (with_reducible refine Below.alloc ?_ ?_ _) | (with_reducible refine Below.setCell ?_ ?_ _) | go_size)))
    clear h
    go_enter Tryz.func53, Tryz.ntmps53
    go_wp2_with (at_builtin; refine wpList_append_sl _ rfl (.tmp 5) (.tmp 6) 22 rfl w.heap.size 3 i0 _ 1 8 Tryz.underlying22 hi hz0 hz1 hz2 rfl (by decide) _ 0 f rfl (World.ownsRow_made w #[] 0 (Nat.le_refl _) (Nat.zero_le _) (by simp)) HS.out.len (some a) n c f rfl HS.out.len (fun h => by cases h) (HS.out.sl.below HS.out.len B0.out) h1 (by omega) (by unfold maxLen; omega) (by simp) ?_)
    intro v' w' hr hg hf
    have B1 : Hid (Below w.heap.size w w') := Lib.hid ((Below.refl _ w).alloc (Nat.le_refl _) _ |>.grown hg (by simp) (by intro k hk; simp [Value.ownBlock] at hk; omega))
    have HR : Hid (Row w' w.heap.size 3 1 v' n f) := Lib.hid (by
      exact Row.congr hr fun i hi => by simp [cat])
    clear hr hg hf
    go_wp2_with fail
    go_returns
    exact ⟨_, rfl, HR.out, B1.out⟩
end Go.Proofs.YtlnfhlmgnppcbaaGreat

/- A label that the run jumps back to: the code behind it is walked once. Plain theorems over any program. -/
namespace Go.Proofs.YtlnfhlmgnppcbaaGreat
theorem wp_scope_label {P : Program} {a : Act} {w : World} {Q : Exit → Act → World → Prop} {c R : Code} (l : Nat) (J : Act → World → Prop) (μ : Act → World → Nat) (hf : findLabel c l = some (Code.skip.seq R))
    (pass : ∀ a w, J a w → R.wp P (Exit.jump l (fun a' w' => J a' w' ∧ μ a' w' < μ a w) Q) a w)
    (first : (∀ a w, J a w → R.wp P (Exit.jump l J Q) a w) → c.wp P (Exit.jump l J Q) a w) : (Code.scope c).wp P Q a w := by
  refine wp_scope_jumps l J μ hf (first fun a w h => wp_mono (pass a w h) ?_) fun a w h => ?_
  · intro e a' w' hq
    cases e with
    | goto l' => exact ⟨hq.1, hq.2.1⟩
    | normal => exact hq
    | exit id => exact hq
    | ret => exact hq
    | panic ch => exact hq
    | outgrown => exact hq
  · exact wp_seq (wp_skip (pass a w h))
end Go.Proofs.YtlnfhlmgnppcbaaGreat

/- A region that draws its order, whose calls hand back values that hang on the world, and that stores into blocks that it has laid. Plain theorems over any program. -/
namespace Go.Proofs.YtlnfhlmgnppcbaaGreat
set_option linter.unusedVariables false
open Go.RowKit
section
variable {P : Program} {ops : Array Oper}
/-- The values that the calls have handed back, the newest first. -/
def sPlan (w0 : World) (Shape : List Value → Prop) (mains : List Nat) (al : List (Nat × (Nat → Value) × Obj)) (st : List (Nat × Nat)) : PlanO (List Value) :=
  { K := fun _ w => Below w0.heap.size w0 w, D := fun _ w => Below w0.heap.size w0 w, mstep := fun _ s s' => (∃ v, s' = v :: s) ∧ Shape s', mval := fun _ s => s.headD undef, mains := mains, al := al, st := st, B0 := w0.heap.size,
    own := fun _ _ => False, uses := fun _ => [] }
variable {w0 : World} {Shape : List Value → Prop} {mains : List Nat} {al : List (Nat × (Nat → Value) × Obj)} {st : List (Nat × Nat)}
theorem sPlan_ok (h1 : (al.map (·.1)).Nodup) (h2 : (st.map (·.1)).Nodup) : (sPlan w0 Shape mains al st).Ok :=
  ⟨fun _ _ h => h, fun s w _ _ o _ h => Below.alloc h h.size o, fun _ _ _ _ _ h => h, fun _ _ h => h.size, h1, h2, .inr fun s w b o hb ho h => below_setAt hb h, fun _ _ _ _ h => h.elim⟩
theorem sPlan_start : (sPlan w0 Shape mains al st).K [] w0.drew := (Below.refl _ _).drew
variable {a : Act} {i : Nat} {o : Oper} {r : List (Nat × Oper)} {s : List Value} {Bs : List (Nat × Nat × Obj)} {Fin : Act → List Value → List (Nat × Nat × Obj) → Prop}
theorem wpChainO_scall (f : FuncId) (args : Array Value) (hk : (sPlan w0 Shape mains al st).kind i = 2) (hw : Region.wanted o (yielded ops a.tmps) = true) (hr : ∀ w, (execOp a.eval o).run P w = .ok (.enter f args) w)
    (hc : ∀ w, Below w0.heap.size w0 w → Calls P f args w fun e w' => ∃ v, e = .returned v ∧ Shape (v :: s) ∧ Below w.heap.size w w')
    (h : ∀ v, Shape (v :: s) → wpChainO P ops (sPlan w0 Shape mains al st) Fin r (a.put o.dst v) (v :: s) Bs) : wpChainO P ops (sPlan w0 Shape mains al st) Fin ((i, o) :: r) a s Bs := by
  refine wpChainO_main hk hw (fun w hkw hU => ?_) (fun s' hs' => ?_)
  · rw [hr w]
    refine (hc w hkw).mono ?_
    rintro e w' ⟨v, he, h1, h3⟩
    have hkw' : Below w0.heap.size w0 w := hkw
    exact ⟨v, he, v :: s, ⟨⟨v, rfl⟩, h1⟩, .inr rfl, hkw'.trans (h3.mono hkw'.size), h3.size, fun _ hb => hb.elim, fun b _ hlt _ => h3.block b hlt⟩
  · obtain ⟨⟨v, rfl⟩, hsh⟩ := hs'
    exact h v hsh
end
end Go.Proofs.YtlnfhlmgnppcbaaGreat

/- Crew: does a truck still fit; a need is served. -/
namespace Go.Proofs.YtlnfhlmgnppcbaaGreat
open Go.RowKit Go.ChangeShapes Go.WideShapes Go.Deep
set_option linter.unusedVariables false
set_option linter.unusedSimpArgs false
set_option maxRecDepth 8000
open Rd
def tkC (t : Tk) : Array Value := #[.int .i64 t.dep, .int .i64 t.cap, .int .i64 t.frm, .int .i64 t.til]
def ndC (x : Nd) : Array Value := #[.int .i64 x.node, .int .i64 x.mv]
set_option maxHeartbeats 8000000 in
theorem fits52 (g : Ng) (n : Nat) (t : Tk) (p : Cs) (w : World) (h : NOk g n) (hr : roadE g.N g.em g.E = 0) (hg : Net w g.ea g.em g.ec g.E) (hs : p.Small n) (hd : 0 ≤ t.dep ∧ t.dep < n) (hl : -200000 ≤ p.load * g.h ∧ p.load * g.h ≤ 200000) :
    Calls Tryz.prog 52 #[.agg (cpC p), .agg g.cells, .agg (tkC t)] w fun e w' => e = .returned (.bool (fitsB g t p)) ∧ Below w.heap.size w w' := by
  have BA : Hid (Below w.heap.size w (((w.alloc (.cells (cpC p) 113)).alloc (.cells g.cells 32)).alloc (.cells (tkC t) 62))) := Lib.hid (by (repeat' (first | (with_reducible exact Below.refl _ _) | (with_reducible assumption) | (with_reducible refine Below.drew ?_) | (with_reducible refine below_drewN ?_ _) | (with_reducible refine Below.alloc ?_ ?_ _) | (with_reducible refine Below.setCell ?_ ?_ _) | go_size)))
  have X0 := al_keep (al_keep (al_at w (.cells (cpC p) 113) rfl) (.cells g.cells 32)) (.cells (tkC t) 62)
  have X1 := al_keep (al_at (w.alloc (.cells (cpC p) 113)) (.cells g.cells 32) (k := w.heap.size + 1) (by simp)) (.cells (tkC t) 62)
  have X2 := al_at ((w.alloc (.cells (cpC p) 113)).alloc (.cells g.cells 32)) (.cells (tkC t) 62) (k := w.heap.size + 1 + 1) (by simp)
  obtain ⟨w1, hw1⟩ : ∃ w1, w1 = ((w.alloc (.cells (cpC p) 113)).alloc (.cells g.cells 32)).alloc (.cells (tkC t) 62) := ⟨_, rfl⟩
  rw [← hw1] at BA X0 X1 X2
  have HW1 := Lib.hid hw1
  have TO := Lib.hid (to87 g n p t.dep w1 h hr (hg.below BA.out) hs hd)
  have hS := h.S_bd hs.at' t.dep
  have HTS : Hid (toS g p t.dep = if g.S p.at' t.dep < 0 then ⟨0, 0, 0⟩ else ⟨t.dep, p.load, p.now + g.S p.at' t.dep⟩) := Lib.hid rfl
  have HTB : Hid (toB g p t.dep = decide (0 ≤ g.S p.at' t.dep)) := Lib.hid rfl
  have HFB : Hid (fitsB g t p = decide (0 ≤ g.S p.at' t.dep ∧ p.now + g.S p.at' t.dep + p.load * g.h ≤ t.til)) := Lib.hid rfl
  obtain ⟨y, hy⟩ : ∃ y, y = g.S p.at' t.dep := ⟨_, rfl⟩
  rw [← hy] at hS HTS HTB HFB
  generalize toS g p t.dep = S1 at *
  generalize toB g p t.dep = B1 at *
  generalize fitsB g t p = F1 at *
  obtain ⟨h1, h2⟩ := hs.now
  obtain ⟨h3, h4⟩ := hs.load
  have HHB := Lib.hid (And.intro h.h0 h.h1)
  unfold Ng.cells at *
  clear h hr hg hs hd hy
  obtain ⟨N, ea, em, ec, E, ta, tn, tc, T, na, nn, nc, D, hh⟩ := g
  obtain ⟨pa, pl, pn⟩ := p
  obtain ⟨d1, d2, d3, d4⟩ := t
  unfold cpC tkC at *
  dsimp only at *
  have a0 := cell_at X0 0
  have a1 := cell_at X0 1
  have a2 := cell_at X0 2
  have g0 := cell_at X1 0
  have g1 := cell_at X1 1
  have g2 := cell_at X1 2
  have g3 := cell_at X1 3
  have g4 := cell_at X1 4
  have k0 := cell_at X2 0
  have za := szs (block_lt X0)
  have zb := szs (block_lt X1)
  have zc := szs (block_lt X2)
  have HX0 := Lib.hid X0
  have HX1 := Lib.hid X1
  have HX2 := Lib.hid X2
  clear X0 X1 X2 hw1
  go_enter Tryz.func52, Tryz.ntmps52
  go_wp2_with fail
  rw [← HW1.out]
  go_wp2_with fail
  refine TO.out.mono ?_
  rintro e w2 ⟨rfl, b2⟩
  have B2 := Lib.hid (BA.out.trans (b2.mono BA.out.size))
  have Y0 := (b2.block _ (block_lt HX0.out)).trans HX0.out
  have Y1 := Lib.hid ((b2.block _ (block_lt HX1.out)).trans HX1.out)
  have Y2 := Lib.hid ((b2.block _ (block_lt HX2.out)).trans HX2.out)
  have fr := fun j => free_at Y0 j
  clear a0 a1 a2 g0 g1 g2 g3 g4 k0 za zb zc HX0 HX1 HX2 b2 TO HW1
  have za := szs (block_lt Y0)
  have m0 := cell_at Y0 0
  have m1 := cell_at Y0 1
  have m2 := cell_at Y0 2
  have g4 := cell_at Y1.out 4
  have k3 := cell_at Y2.out 3
  have zb := szs (block_lt Y1.out)
  have zc := szs (block_lt Y2.out)
  have O0 := fun (w' : World) (s1 s2 s3 : Value) => off3 w' w.heap.size s1 s2 s3
  have HO := Lib.hid O0
  clear O0 Y0 Y1 Y2
  by_cases hy0 : y < 0
  · rw [if_pos hy0] at HTS
    have := HTS.out
    subst this
    obtain rfl : B1 = false := by rw [HTB.out]; exact decide_eq_false (by omega)
    have HR0 : Hid (F1 = false) := Lib.hid (by rw [HFB.out]; exact decide_eq_false (by omega))
    clear HFB HTB HTS
    go_wp2_with fail
    go_returns
    exact ⟨by rw [HR0.out]; rfl, B2.out.trans ((HO.out _ _ _ _).toBelow B2.out.size (fun q hq h => by omega))⟩
  · rw [if_neg hy0] at HTS
    have := HTS.out
    subst this
    obtain rfl : B1 = true := by rw [HTB.out]; exact decide_eq_true (by omega)
    have HR0 : Hid (F1 = decide (pn + y + pl * hh ≤ d4)) := Lib.hid (by rw [HFB.out, decide_eq_decide]; constructor <;> intro h <;> omega)
    clear HFB HTB HTS
    go_wp2_with fail
    go_returns
    exact ⟨by rw [HR0.out]; rfl, B2.out.trans ((HO.out _ _ _ _).toBelow B2.out.size (fun q hq h => by omega))⟩
theorem abs_mul {mv h : Int} (h1 : -32 ≤ mv) (h2 : mv ≤ 32) (h3 : 0 ≤ h) (h4 : h ≤ 3600) : -115200 ≤ mv * h ∧ mv * h ≤ 115200 := by
  have m1 := Int.mul_le_mul_of_nonneg_right h1 h3
  have m2 := Int.mul_le_mul_of_nonneg_right h2 h3
  omega
set_option maxHeartbeats 8000000 in
theorem serve54 (g : Ng) (n : Nat) (t : Tk) (p : Cs) (i : Int) (w : World) (h : NOk g n) (hr : roadE g.N g.em g.E = 0) (hg : Net w g.ea g.em g.ec g.E) (hs : p.Small n) (hi : 0 ≤ i ∧ i < g.nn) :
    Calls Tryz.prog 54 #[.agg (cpC p), .agg g.cells, .agg (tkC t), .agg (ndC (g.nd i))] w fun e w' => ∃ q : Cs, e = .returned (.tuple #[.agg (cpC q), .bool (servB g t p i)]) ∧ (servB g t p i = true → q = servO g p i) ∧ Below w.heap.size w w' := by
  have BA : Hid (Below w.heap.size w (((((w.alloc (.cells (cpC p) 113)).alloc (.cells g.cells 32)).alloc (.cells (tkC t) 62)).alloc (.cells (ndC (g.nd i)) 58)).alloc (.cells #[.int .i64 0, .int .i64 0, .int .i64 0] 113))) := Lib.hid (by (repeat' (first | (with_reducible exact Below.refl _ _) | (with_reducible assumption) | (with_reducible refine Below.drew ?_) | (with_reducible refine below_drewN ?_ _) | (with_reducible refine Below.alloc ?_ ?_ _) | (with_reducible refine Below.setCell ?_ ?_ _) | go_size)))
  have X0 := al_keep (al_keep (al_keep (al_keep (al_at w (.cells (cpC p) 113) rfl) (.cells g.cells 32)) (.cells (tkC t) 62)) (.cells (ndC (g.nd i)) 58)) (.cells #[.int .i64 0, .int .i64 0, .int .i64 0] 113)
  have X1 := al_keep (al_keep (al_keep (al_at (w.alloc (.cells (cpC p) 113)) (.cells g.cells 32) (k := w.heap.size + 1) (by simp)) (.cells (tkC t) 62)) (.cells (ndC (g.nd i)) 58)) (.cells #[.int .i64 0, .int .i64 0, .int .i64 0] 113)
  have X2 := al_keep (al_keep (al_at ((w.alloc (.cells (cpC p) 113)).alloc (.cells g.cells 32)) (.cells (tkC t) 62) (k := w.heap.size + 1 + 1) (by simp)) (.cells (ndC (g.nd i)) 58)) (.cells #[.int .i64 0, .int .i64 0, .int .i64 0] 113)
  have X3 := al_keep (al_at (((w.alloc (.cells (cpC p) 113)).alloc (.cells g.cells 32)).alloc (.cells (tkC t) 62)) (.cells (ndC (g.nd i)) 58) (k := w.heap.size + 1 + 1 + 1) (by simp)) (.cells #[.int .i64 0, .int .i64 0, .int .i64 0] 113)
  have X4 := al_at ((((w.alloc (.cells (cpC p) 113)).alloc (.cells g.cells 32)).alloc (.cells (tkC t) 62)).alloc (.cells (ndC (g.nd i)) 58)) (.cells #[.int .i64 0, .int .i64 0, .int .i64 0] 113) (k := w.heap.size + 1 + 1 + 1 + 1) (by simp)
  obtain ⟨w1, hw1⟩ : ∃ w1, w1 = ((((w.alloc (.cells (cpC p) 113)).alloc (.cells g.cells 32)).alloc (.cells (tkC t) 62)).alloc (.cells (ndC (g.nd i)) 58)).alloc (.cells #[.int .i64 0, .int .i64 0, .int .i64 0] 113) := ⟨_, rfl⟩
  rw [← hw1] at BA X0 X1 X2 X3 X4
  have HW1 := Lib.hid hw1
  have hD : (0 ≤ (g.nd i).node ∧ (g.nd i).node < n) ∧ (g.nd i).mv ≠ 0 ∧ -32 ≤ (g.nd i).mv ∧ (g.nd i).mv ≤ 32 := h.D _ (by omega)
  have TO := Lib.hid (to87 g n p (g.nd i).node w1 h hr (hg.below BA.out) hs hD.1)
  have hS := h.S_bd hs.at' (g.nd i).node
  have HTS : Hid (toS g p (g.nd i).node = if g.S p.at' (g.nd i).node < 0 then ⟨0, 0, 0⟩ else ⟨(g.nd i).node, p.load, p.now + g.S p.at' (g.nd i).node⟩) := Lib.hid rfl
  have HTB : Hid (toB g p (g.nd i).node = decide (0 ≤ g.S p.at' (g.nd i).node)) := Lib.hid rfl
  have HSB : Hid (servB g t p i = decide (0 ≤ g.S p.at' (g.nd i).node ∧ 0 ≤ p.load + (g.nd i).mv ∧ p.load + (g.nd i).mv ≤ t.cap)) := Lib.hid rfl
  have HSO : Hid (servO g p i = ⟨(g.nd i).node, p.load + (g.nd i).mv, p.now + g.S p.at' (g.nd i).node + max (g.nd i).mv (-(g.nd i).mv) * g.h⟩) := Lib.hid rfl
  obtain ⟨y, hy⟩ : ∃ y, y = g.S p.at' (g.nd i).node := ⟨_, rfl⟩
  rw [← hy] at hS HTS HTB HSB HSO
  generalize g.nd i = x at *
  generalize toS g p x.node = S1 at *
  generalize toB g p x.node = B1 at *
  generalize servB g t p i = F1 at *
  generalize servO g p i = P1 at *
  obtain ⟨h1, h2⟩ := hs.now
  obtain ⟨h3, h4⟩ := hs.load
  have HHB := Lib.hid (And.intro h.h0 h.h1)
  unfold Ng.cells at *
  clear h hr hg hs hi hy
  obtain ⟨N, ea, em, ec, E, ta, tn, tc, T, na, nn, nc, D, hh⟩ := g
  obtain ⟨pa, pl, pn⟩ := p
  obtain ⟨d1, d2, d3, d4⟩ := t
  obtain ⟨nd, mv⟩ := x
  unfold cpC tkC ndC at *
  dsimp only at *
  obtain ⟨_, _, hm1, hm2⟩ := hD
  have hbd := abs_mul hm1 hm2 HHB.out.1 HHB.out.2
  have hbd2 := abs_mul (mv := -mv) (by omega) (by omega) HHB.out.1 HHB.out.2
  have a0 := cell_at X0 0
  have a1 := cell_at X0 1
  have a2 := cell_at X0 2
  have g0 := cell_at X1 0
  have g1 := cell_at X1 1
  have g2 := cell_at X1 2
  have g3 := cell_at X1 3
  have g4 := cell_at X1 4
  have k0 := cell_at X3 0
  have za := szs (block_lt X0)
  have zb := szs (block_lt X1)
  have zc := szs (block_lt X3)
  have HX0 := Lib.hid X0
  have HX1 := Lib.hid X1
  have HX2 := Lib.hid X2
  have HX3 := Lib.hid X3
  have HX4 := Lib.hid X4
  clear X0 X1 X2 X3 X4 hw1
  go_enter Tryz.func54, Tryz.ntmps54
  go_wp2_with fail
  rw [← HW1.out]
  go_wp2_with fail
  refine TO.out.mono ?_
  rintro e w2 ⟨rfl, b2⟩
  have B2 := Lib.hid (BA.out.trans (b2.mono BA.out.size))
  have Y0 := (b2.block _ (block_lt HX0.out)).trans HX0.out
  have Y1 := Lib.hid ((b2.block _ (block_lt HX1.out)).trans HX1.out)
  have Y2 := Lib.hid ((b2.block _ (block_lt HX2.out)).trans HX2.out)
  have Y3 := Lib.hid ((b2.block _ (block_lt HX3.out)).trans HX3.out)
  have Y4 := Lib.hid ((b2.block _ (block_lt HX4.out)).trans HX4.out)
  have fr := fun j => free_at Y0 j
  clear a0 a1 a2 g0 g1 g2 g3 g4 k0 za zb zc HX0 HX1 HX2 HX3 HX4 b2 TO HW1
  have za := szs (block_lt Y0)
  have m0 := cell_at Y0 0
  have m1 := cell_at Y0 1
  have m2 := cell_at Y0 2
  have hsb : -1000 ≤ S1.load ∧ S1.load ≤ 1000 ∧ -1000 ≤ S1.now ∧ S1.now ≤ 11000000 := by
    rw [HTS.out]
    split
    · dsimp only; omega
    · dsimp only; omega
  obtain ⟨s1, s2, s3⟩ := S1
  dsimp only at *
  have HY0 := Lib.hid Y0
  have g4 := cell_at Y1.out 4
  have k1 := cell_at Y3.out 1
  have zb := szs (block_lt Y1.out)
  have zc := szs (block_lt Y3.out)
  clear Y0
  have hM : -115200 ≤ max mv (-mv) * hh ∧ max mv (-mv) * hh ≤ 115200 := by
    rcases (by omega : max mv (-mv) = mv ∨ max mv (-mv) = -mv) with e | e <;> rw [e] <;> assumption
  go_wp2_with fail
  have Z0 : (((((w2.setCell ⟨w.heap.size, 0, none⟩ (.int .i64 s1)).setCell ⟨w.heap.size, 1, none⟩ (.int .i64 s2)).setCell ⟨w.heap.size, 2, none⟩ (.int .i64 s3)).setCell ⟨w.heap.size, 1, none⟩ (.int .i64 (s2 + mv))).setCell ⟨w.heap.size, 2, none⟩ (.int .i64 (s3 + max mv (-mv) * hh))).heap[w.heap.size]? = some (.cells #[.int .i64 s1, .int .i64 (s2 + mv), .int .i64 (s3 + max mv (-mv) * hh)] 113 (0, 0)) := by
    have hl := block_lt HY0.out
    rw [setCell_at HY0.out, setAt_setCell hl, setAt_setCell hl, setAt_setCell hl, setAt_setCell hl, setAt_same hl]
    rfl
  have O0 : Off (fun q => q = w.heap.size) w2 (((((w2.setCell ⟨w.heap.size, 0, none⟩ (.int .i64 s1)).setCell ⟨w.heap.size, 1, none⟩ (.int .i64 s2)).setCell ⟨w.heap.size, 2, none⟩ (.int .i64 s3)).setCell ⟨w.heap.size, 1, none⟩ (.int .i64 (s2 + mv))).setCell ⟨w.heap.size, 2, none⟩ (.int .i64 (s3 + max mv (-mv) * hh))) :=
    ((off3 w2 w.heap.size (.int .i64 s1) (.int .i64 s2) (.int .i64 s3)).setCell (p := ⟨w.heap.size, 1, none⟩) (fun _ => rfl) _).setCell (p := ⟨w.heap.size, 2, none⟩) (fun _ => rfl) _
  have Z2 := (O0.block _ (block_lt Y2.out) (fun h => by omega)).trans Y2.out
  have Z4 := Lib.hid ((O0.block _ (block_lt Y4.out) (fun h => by omega)).trans Y4.out)
  have B3 := Lib.hid (B2.out.trans (O0.toBelow B2.out.size (fun q hq h => by omega)))
  clear fr za zb zc m0 m1 m2 g4 k1 Y1 Y2 Y3 Y4 HY0 B2 O0
  generalize World.setCell (World.setCell (World.setCell (World.setCell (World.setCell _ _ _) _ _) _ _) _ _) _ _ = w3 at *
  have a0 := cell_at Z0 0
  have a1 := cell_at Z0 1
  have a2 := cell_at Z0 2
  have k1 := cell_at Z2 1
  have fr := fun j => free_at Z4.out j
  have m0 := cell_at Z4.out 0
  have m1 := cell_at Z4.out 1
  have m2 := cell_at Z4.out 2
  have za := szs (block_lt Z0)
  have zb := szs (block_lt Z2)
  have zc := szs (block_lt Z4.out)
  clear Z0 Z2
  by_cases hy0 : y < 0
  · obtain rfl : B1 = false := by rw [HTB.out]; exact decide_eq_false (by omega)
    have HF : Hid (F1 = false) := Lib.hid (by rw [HSB.out]; exact decide_eq_false (by omega))
    have HEQ : Hid (F1 = true → (⟨s1, s2 + mv, s3 + max mv (-mv) * hh⟩ : Cs) = P1) := Lib.hid (fun h => by rw [HF.out] at h; cases h)
    clear HTB HSB HTS
    have q1 : w.heap.size + 1 + 1 + 1 + 1 ≠ w.heap.size := by omega
    have q2 : w.heap.size + 1 + 1 + 1 + 1 ≠ w.heap.size + 1 + 1 := by omega
    have q3 : w.heap.size ≠ w.heap.size + 1 + 1 + 1 + 1 := by omega
    have q4 : w.heap.size + 1 + 1 ≠ w.heap.size + 1 + 1 + 1 + 1 := by omega
    go_region
    go_wp2_with fail
    have KZ0 := put3 Z4.out (.int .i64 s1) (.int .i64 (s2 + mv)) (.int .i64 (s3 + max mv (-mv) * hh))
    have KZ : (((w3.setCell ⟨w.heap.size + 1 + 1 + 1 + 1, 0, none⟩ (.int .i64 s1)).setCell ⟨w.heap.size + 1 + 1 + 1 + 1, 1, none⟩ (.int .i64 (s2 + mv))).setCell ⟨w.heap.size + 1 + 1 + 1 + 1, 2, none⟩ (.int .i64 (s3 + max mv (-mv) * hh))).drew.heap[w.heap.size + 1 + 1 + 1 + 1]? = some (.cells #[.int .i64 s1, .int .i64 (s2 + mv), .int .i64 (s3 + max mv (-mv) * hh)] 113 (0, 0)) := KZ0
    have OZ0 := B3.out.trans ((off3 _ (w.heap.size + 1 + 1 + 1 + 1) (.int .i64 s1) (.int .i64 (s2 + mv)) (.int .i64 (s3 + max mv (-mv) * hh))).toBelow B3.out.size (fun q hq h => by omega))
    have OZ := OZ0.trans ((Below.refl _ _).drew |>.mono OZ0.size)
    clear KZ0 OZ0
    generalize World.drew _ = w9 at *
    have k0 := cell_at KZ 0
    have k1 := cell_at KZ 1
    have k2 := cell_at KZ 2
    have zk := szs (block_lt KZ)
    exact bodyPost_ret (v := .tuple #[.agg #[.int .i64 s1, .int .i64 (s2 + mv), .int .i64 (s3 + max mv (-mv) * hh)], .bool false]) (by simp [results, Tryz.results54, go_sem, k0, k1, k2]) rfl ⟨⟨s1, s2 + mv, s3 + max mv (-mv) * hh⟩, by rw [HF.out], HEQ.out, OZ⟩
  · rw [if_neg hy0] at HTS
    obtain rfl : B1 = true := by rw [HTB.out]; exact decide_eq_true (by omega)
    have HEQ : Hid (F1 = true → (⟨s1, s2 + mv, s3 + max mv (-mv) * hh⟩ : Cs) = P1) := Lib.hid (fun _ => by
      have := HTS.out
      cases this
      rw [HSO.out])
    have e2 : s2 = pl := by have := HTS.out; cases this; rfl
    rw [← e2] at HSB
    clear HTB HTS e2
    by_cases hl0 : 0 ≤ s2 + mv
    · have tl0 : decide (0 ≤ s2 + mv) = true := decide_eq_true hl0
      by_cases hl1 : s2 + mv ≤ d2
      · have tl1 : decide (s2 + mv ≤ d2) = true := decide_eq_true hl1
        have HF : Hid (F1 = true) := Lib.hid (by rw [HSB.out]; exact decide_eq_true (by omega))
        clear HSB
        have q1 : w.heap.size + 1 + 1 + 1 + 1 ≠ w.heap.size := by omega
        have q2 : w.heap.size + 1 + 1 + 1 + 1 ≠ w.heap.size + 1 + 1 := by omega
        have q3 : w.heap.size ≠ w.heap.size + 1 + 1 + 1 + 1 := by omega
        have q4 : w.heap.size + 1 + 1 ≠ w.heap.size + 1 + 1 + 1 + 1 := by omega
        go_region
        go_wp2_with fail
        have KZ0 := put3 Z4.out (.int .i64 s1) (.int .i64 (s2 + mv)) (.int .i64 (s3 + max mv (-mv) * hh))
        have KZ : (((w3.setCell ⟨w.heap.size + 1 + 1 + 1 + 1, 0, none⟩ (.int .i64 s1)).setCell ⟨w.heap.size + 1 + 1 + 1 + 1, 1, none⟩ (.int .i64 (s2 + mv))).setCell ⟨w.heap.size + 1 + 1 + 1 + 1, 2, none⟩ (.int .i64 (s3 + max mv (-mv) * hh))).drew.heap[w.heap.size + 1 + 1 + 1 + 1]? = some (.cells #[.int .i64 s1, .int .i64 (s2 + mv), .int .i64 (s3 + max mv (-mv) * hh)] 113 (0, 0)) := KZ0
        have OZ0 := B3.out.trans ((off3 _ (w.heap.size + 1 + 1 + 1 + 1) (.int .i64 s1) (.int .i64 (s2 + mv)) (.int .i64 (s3 + max mv (-mv) * hh))).toBelow B3.out.size (fun q hq h => by omega))
        have OZ := OZ0.trans ((Below.refl _ _).drew |>.mono OZ0.size)
        clear KZ0 OZ0
        generalize World.drew _ = w9 at *
        have k0 := cell_at KZ 0
        have k1 := cell_at KZ 1
        have k2 := cell_at KZ 2
        have zk := szs (block_lt KZ)
        exact bodyPost_ret (v := .tuple #[.agg #[.int .i64 s1, .int .i64 (s2 + mv), .int .i64 (s3 + max mv (-mv) * hh)], .bool true]) (by simp [results, Tryz.results54, go_sem, k0, k1, k2]) rfl ⟨⟨s1, s2 + mv, s3 + max mv (-mv) * hh⟩, by rw [HF.out], HEQ.out, OZ⟩
      · have tl1 : decide (s2 + mv ≤ d2) = false := decide_eq_false hl1
        have HF : Hid (F1 = false) := Lib.hid (by rw [HSB.out]; exact decide_eq_false (by omega))
        clear HSB
        have q1 : w.heap.size + 1 + 1 + 1 + 1 ≠ w.heap.size := by omega
        have q2 : w.heap.size + 1 + 1 + 1 + 1 ≠ w.heap.size + 1 + 1 := by omega
        have q3 : w.heap.size ≠ w.heap.size + 1 + 1 + 1 + 1 := by omega
        have q4 : w.heap.size + 1 + 1 ≠ w.heap.size + 1 + 1 + 1 + 1 := by omega
        go_region
        go_wp2_with fail
        have KZ0 := put3 Z4.out (.int .i64 s1) (.int .i64 (s2 + mv)) (.int .i64 (s3 + max mv (-mv) * hh))
        have KZ : (((w3.setCell ⟨w.heap.size + 1 + 1 + 1 + 1, 0, none⟩ (.int .i64 s1)).setCell ⟨w.heap.size + 1 + 1 + 1 + 1, 1, none⟩ (.int .i64 (s2 + mv))).setCell ⟨w.heap.size + 1 + 1 + 1 + 1, 2, none⟩ (.int .i64 (s3 + max mv (-mv) * hh))).drew.heap[w.heap.size + 1 + 1 + 1 + 1]? = some (.cells #[.int .i64 s1, .int .i64 (s2 + mv), .int .i64 (s3 + max mv (-mv) * hh)] 113 (0, 0)) := KZ0
        have OZ0 := B3.out.trans ((off3 _ (w.heap.size + 1 + 1 + 1 + 1) (.int .i64 s1) (.int .i64 (s2 + mv)) (.int .i64 (s3 + max mv (-mv) * hh))).toBelow B3.out.size (fun q hq h => by omega))
        have OZ := OZ0.trans ((Below.refl _ _).drew |>.mono OZ0.size)
        clear KZ0 OZ0
        generalize World.drew _ = w9 at *
        have k0 := cell_at KZ 0
        have k1 := cell_at KZ 1
        have k2 := cell_at KZ 2
        have zk := szs (block_lt KZ)
        exact bodyPost_ret (v := .tuple #[.agg #[.int .i64 s1, .int .i64 (s2 + mv), .int .i64 (s3 + max mv (-mv) * hh)], .bool false]) (by simp [results, Tryz.results54, go_sem, k0, k1, k2]) rfl ⟨⟨s1, s2 + mv, s3 + max mv (-mv) * hh⟩, by rw [HF.out], HEQ.out, OZ⟩
    · have tl0 : decide (0 ≤ s2 + mv) = false := decide_eq_false hl0
      have HF : Hid (F1 = false) := Lib.hid (by rw [HSB.out]; exact decide_eq_false (by omega))
      clear HSB
      have q1 : w.heap.size + 1 + 1 + 1 + 1 ≠ w.heap.size := by omega
      have q2 : w.heap.size + 1 + 1 + 1 + 1 ≠ w.heap.size + 1 + 1 := by omega
      have q3 : w.heap.size ≠ w.heap.size + 1 + 1 + 1 + 1 := by omega
      have q4 : w.heap.size + 1 + 1 ≠ w.heap.size + 1 + 1 + 1 + 1 := by omega
      go_region
      go_wp2_with fail
      have KZ0 := put3 Z4.out (.int .i64 s1) (.int .i64 (s2 + mv)) (.int .i64 (s3 + max mv (-mv) * hh))
      have KZ : (((w3.setCell ⟨w.heap.size + 1 + 1 + 1 + 1, 0, none⟩ (.int .i64 s1)).setCell ⟨w.heap.size + 1 + 1 + 1 + 1, 1, none⟩ (.int .i64 (s2 + mv))).setCell ⟨w.heap.size + 1 + 1 + 1 + 1, 2, none⟩ (.int .i64 (s3 + max mv (-mv) * hh))).drew.heap[w.heap.size + 1 + 1 + 1 + 1]? = some (.cells #[.int .i64 s1, .int .i64 (s2 + mv), .int .i64 (s3 + max mv (-mv) * hh)] 113 (0, 0)) := KZ0
      have OZ0 := B3.out.trans ((off3 _ (w.heap.size + 1 + 1 + 1 + 1) (.int .i64 s1) (.int .i64 (s2 + mv)) (.int .i64 (s3 + max mv (-mv) * hh))).toBelow B3.out.size (fun q hq h => by omega))
      have OZ := OZ0.trans ((Below.refl _ _).drew |>.mono OZ0.size)
      clear KZ0 OZ0
      generalize World.drew _ = w9 at *
      have k0 := cell_at KZ 0
      have k1 := cell_at KZ 1
      have k2 := cell_at KZ 2
      have zk := szs (block_lt KZ)
      exact bodyPost_ret (v := .tuple #[.agg #[.int .i64 s1, .int .i64 (s2 + mv), .int .i64 (s3 + max mv (-mv) * hh)], .bool false]) (by simp [results, Tryz.results54, go_sem, k0, k1, k2]) rfl ⟨⟨s1, s2 + mv, s3 + max mv (-mv) * hh⟩, by rw [HF.out], HEQ.out, OZ⟩
end Go.Proofs.YtlnfhlmgnppcbaaGreat

/- Trucks: the visits of a route; crew: how late a truck is. -/
namespace Go.Proofs.YtlnfhlmgnppcbaaGreat
open Go.RowKit Go.ChangeShapes Go.WideShapes Go.Deep
set_option linter.unusedVariables false
set_option linter.unusedSimpArgs false
set_option maxRecDepth 8000
open Rd
/-- What Walk gives. -/
def WalkW (g : Ng) (r : Int) (R : Nat → Int) (k : Nat) (w : World) (e : Ending) (w' : World) : Prop :=
  Below w.heap.size w w' ∧ ((walkE g r R k ≠ 0 ∧ e = .returned (.tuple #[.slice none 0 0, .int .i64 0, .int .i64 (walkE g r R k)])) ∨
    (walkE g r R k = 0 ∧ ∃ v : Value, e = .returned (.tuple #[v, .int .i64 (backK g (g.T r.toNat) R k), .int .i64 0]) ∧ ViRow w' w.heap.size v k (visK g (g.T r.toNat) R)))
set_option maxHeartbeats 8000000 in
theorem walkW17 (g : Ng) (r : Int) (R : Nat → Int) (k : Nat) (ra : Option Addr) (rc : Nat) (w : World) (hg : g.In w) (hR : Sl w 1 ra k rc (nf R)) (hk : k ≤ 1000) :
    Calls Tryz.prog 17 #[.agg g.cells, .agg #[.int .i64 r, .slice ra k rc]] w (WalkW g r R k w) := by
  have BB : Hid (Below w.heap.size w ((w.alloc (.cells g.cells 32)).alloc (.cells #[.int .i64 r, .slice ra k rc] 51))) := Lib.hid (by (repeat' (first | (with_reducible exact Below.refl _ _) | (with_reducible assumption) | (with_reducible refine Below.drew ?_) | (with_reducible refine below_drewN ?_ _) | (with_reducible refine Below.alloc ?_ ?_ _) | (with_reducible refine Below.setCell ?_ ?_ _) | go_size)))
  have XG := Lib.hid (al_keep (al_at w (.cells g.cells 32) rfl) (.cells #[.int .i64 r, .slice ra k rc] 51))
  have XR := Lib.hid (al_at (w.alloc (.cells g.cells 32)) (.cells #[.int .i64 r, .slice ra k rc] 51) (k := w.heap.size + 1) (by simp))
  obtain ⟨w1, hw1⟩ : ∃ w1, w1 = (w.alloc (.cells g.cells 32)).alloc (.cells #[.int .i64 r, .slice ra k rc] 51) := ⟨_, rfl⟩
  rw [← hw1] at BB XG XR
  have HW1 := Lib.hid hw1
  have HCC : Hid (g.cells = #[.int .i64 g.N, .slice g.ea g.em g.ec, .slice g.ta g.tn g.tc, .slice g.na g.nn g.nc, .int .i64 g.h]) := Lib.hid rfl
  rw [HCC.out] at XG HW1 ⊢
  have WK := Lib.hid (walk47 g r R k ra rc w1 (hg.below BB.out) (hR.below BB.out) hk)
  rw [HCC.out] at WK
  obtain ⟨E, hE⟩ : ∃ E, E = walkE g r R k := ⟨_, rfl⟩
  have HE := Lib.hid hE
  clear hw1 hg hR hE
  go_enter Tryz.func17, Tryz.ntmps17
  go_wp2_with fail
  rw [← HW1.out]
  have g0 := cell_kept (Below.refl w1.heap.size w1) (cell_at XG.out 0)
  have g1 := cell_kept (Below.refl w1.heap.size w1) (cell_at XG.out 1)
  have g2 := cell_kept (Below.refl w1.heap.size w1) (cell_at XG.out 2)
  have g3 := cell_kept (Below.refl w1.heap.size w1) (cell_at XG.out 3)
  have g4 := cell_kept (Below.refl w1.heap.size w1) (cell_at XG.out 4)
  have r0 := cell_kept (Below.refl w1.heap.size w1) (cell_at XR.out 0)
  have r1 := cell_kept (Below.refl w1.heap.size w1) (cell_at XR.out 1)
  try dsimp only at g0 g1 g2 g3 g4 r0 r1
  have zg := szs (cell_lt g0)
  have zr := szs (cell_lt r0)
  dsimp only at zg zr
  go_wp2_with fail
  refine WK.out.mono ?_
  rintro e w2 ⟨b2, ⟨hne, rfl⟩ | ⟨hz, b, v, rfl, hT, hV⟩⟩
  · have B2 := Lib.hid (BB.out.trans (b2.mono BB.out.size))
    rw [← HE.out] at hne
    rw [← HE.out]
    have te : (E != 0) = true := by simpa using hne
    have HN := Lib.hid hne
    clear WK hne b2
    go_wp2_with fail
    go_returns
    exact ⟨B2.out, .inl ⟨by rw [← HE.out]; exact HN.out, by rw [← HE.out]; rfl⟩⟩
  · have B2 := Lib.hid (BB.out.trans (b2.mono BB.out.size))
    have HZ := Lib.hid hz
    have HV := Lib.hid (Row.base_mono hV BB.out.size)
    have HBK : Hid ((homeS g (g.T r.toNat) (stK g (g.T r.toNat) R k)).now = backK g (g.T r.toNat) R k) := Lib.hid rfl
    generalize homeS g (g.T r.toNat) (stK g (g.T r.toNat) R k) = st at *
    unfold tourC at hT
    have d0 := cell_at hT 10
    have zt := szs (block_lt hT)
    clear WK hz b2 hV hT
    clear g0 g1 g2 g3 g4 r0 r1 zg zr
    go_wp2_with fail
    (refine region_all (fun i : Nat => World.drewN _ i) mixed (by kernel_rfl) ⟨1, rfl⟩ ?_; (repeat (any_goals (first | go_big_quiet_step (fail) | quiet_step (fail) | (refine wpQuiet_step (fun K hK => ?_); go_simp; split <;> (refine hK _ ?_; clear hK K))))); (all_goals (refine wpQuiet_nil (fun nq => ?_))))
    go_wp2_with fail
    have b3 : Below w2.heap.size w2 (w2.drewN nq) := below_drewN (Below.refl _ _) nq
    have HV3 := Lib.hid (Row.off (X := fun _ => False) HV.out (Off.of_below b3) (fun _ _ h => h))
    have B3 := Lib.hid (B2.out.trans (b3.mono B2.out.size))
    go_returns
    exact ⟨B3.out, .inr ⟨HZ.out, v, by rw [← HBK.out]; rfl, HV3.out⟩⟩
/-- What late gives. -/
def LateW (g : Ng) (r : Int) (R : Nat → Int) (k : Nat) (done now : Int) (w : World) (e : Ending) (w' : World) : Prop :=
  Below w.heap.size w w' ∧ ((lateE g r R k done now ≠ 0 ∧ e = .returned (.tuple #[.slice none 0 0, .int .i64 0, .int .i64 0, .int .i64 (lateE g r R k done now)])) ∨
    (lateE g r R k done now = 0 ∧ ∃ v : Value, e = .returned (.tuple #[v, .int .i64 (backK g (g.T r.toNat) R k), .int .i64 (delayK g r R done now), .int .i64 0]) ∧ ViRow w' w.heap.size v k (visK g (g.T r.toNat) R)))
theorem ViRow.toSl {w : World} {base n : Nat} {v : Value} {V : Nat → Vi} (h : ViRow w base v n V) : ∃ ao c, v = .slice ao n c ∧ Sl w 4 ao n c (vif V) := Row.toSl h (vif_len V)
theorem Sl.vi {w : World} {ao : Option Addr} {n c : Nat} {V : Nat → Vi} (h : Sl w 4 ao n c (vif V)) {i : Nat} (hi : i < n) : ∃ g o, ao = some ⟨g, o, none⟩ ∧ g < w.heap.size ∧ w.cell? ⟨g, o + i * 4, none⟩ = some (.int .i64 (V i).need) ∧ w.cell? ⟨g, o + i * 4 + 1, none⟩ = some (.int .i64 (V i).arr) ∧ w.cell? ⟨g, o + i * 4 + 2, none⟩ = some (.int .i64 (V i).lea) ∧ w.cell? ⟨g, o + i * 4 + 3, none⟩ = some (.int .i64 (V i).load) := by
  obtain ⟨g, o, e, hc⟩ := h.cell hi
  have h0 : w.cell? ⟨g, o + i * 4, none⟩ = some (.int .i64 (V i).need) := hc 0 (by decide)
  exact ⟨g, o, e, cell_lt h0, h0, hc 1 (by decide), hc 2 (by decide), hc 3 (by decide)⟩
set_option maxHeartbeats 8000000 in
theorem late49 (g : Ng) (r : Int) (R : Nat → Int) (k : Nat) (ra : Option Addr) (rc : Nat) (done now : Int) (w : World) (hg : g.In w) (hR : Sl w 1 ra k rc (nf R)) (hk : k ≤ 1000) :
    Calls Tryz.prog 49 #[.agg g.cells, .agg #[.int .i64 r, .slice ra k rc], .int .i64 done, .int .i64 now] w (LateW g r R k done now w) := by
  have BB : Hid (Below w.heap.size w ((w.alloc (.cells g.cells 32)).alloc (.cells #[.int .i64 r, .slice ra k rc] 51))) := Lib.hid (by (repeat' (first | (with_reducible exact Below.refl _ _) | (with_reducible assumption) | (with_reducible refine Below.drew ?_) | (with_reducible refine below_drewN ?_ _) | (with_reducible refine Below.alloc ?_ ?_ _) | (with_reducible refine Below.setCell ?_ ?_ _) | go_size)))
  have XG := Lib.hid (al_keep (al_at w (.cells g.cells 32) rfl) (.cells #[.int .i64 r, .slice ra k rc] 51))
  have XR := Lib.hid (al_at (w.alloc (.cells g.cells 32)) (.cells #[.int .i64 r, .slice ra k rc] 51) (k := w.heap.size + 1) (by simp))
  obtain ⟨w1, hw1⟩ : ∃ w1, w1 = (w.alloc (.cells g.cells 32)).alloc (.cells #[.int .i64 r, .slice ra k rc] 51) := ⟨_, rfl⟩
  rw [← hw1] at BB XG XR
  have HW1 := Lib.hid hw1
  have HCC : Hid (g.cells = #[.int .i64 g.N, .slice g.ea g.em g.ec, .slice g.ta g.tn g.tc, .slice g.na g.nn g.nc, .int .i64 g.h]) := Lib.hid rfl
  rw [HCC.out] at XG HW1 ⊢
  have WK := Lib.hid (walkW17 g r R k ra rc w1 (hg.below BB.out) (hR.below BB.out) hk)
  rw [HCC.out] at WK
  have HG1 := Lib.hid (hg.below BB.out)
  have htm := hg.trucks.hm
  have htc := hg.trucks.hc
  obtain ⟨E, hE⟩ : ∃ E, E = walkE g r R k := ⟨_, rfl⟩
  have HE := Lib.hid hE
  have HL : Hid (lateE g r R k done now = if E ≠ 0 then E else if done < 0 ∨ (k : Int) < done ∨ now < 0 ∨ 86400 < now then 1 else if now < nowK g (g.T r.toNat) R done.toNat then 18 else 0) := Lib.hid (by rw [hE]; rfl)
  clear hw1 hg hR hE
  go_enter Tryz.func49, Tryz.ntmps49
  go_wp2_with fail
  rw [← HW1.out]
  have g0 := cell_kept (Below.refl w1.heap.size w1) (cell_at XG.out 0)
  have g1 := cell_kept (Below.refl w1.heap.size w1) (cell_at XG.out 1)
  have g2 := cell_kept (Below.refl w1.heap.size w1) (cell_at XG.out 2)
  have g3 := cell_kept (Below.refl w1.heap.size w1) (cell_at XG.out 3)
  have g4 := cell_kept (Below.refl w1.heap.size w1) (cell_at XG.out 4)
  have r0 := cell_kept (Below.refl w1.heap.size w1) (cell_at XR.out 0)
  have r1 := cell_kept (Below.refl w1.heap.size w1) (cell_at XR.out 1)
  try dsimp only at g0 g1 g2 g3 g4 r0 r1
  have zg := szs (cell_lt g0)
  have zr := szs (cell_lt r0)
  dsimp only at zg zr
  go_wp2_with fail
  refine WK.out.mono ?_
  rintro e w2 ⟨b2, ⟨hne, rfl⟩ | ⟨hz, v, rfl, hV⟩⟩
  · have B2 := Lib.hid (BB.out.trans (b2.mono BB.out.size))
    rw [← HE.out] at hne
    rw [← HE.out]
    have te : (E != 0) = true := by simpa using hne
    rw [if_pos hne] at HL
    have HN := Lib.hid hne
    clear WK hne b2
    go_wp2_with fail
    go_returns
    exact ⟨B2.out, .inl ⟨by rw [HL.out]; exact HN.out, by rw [HL.out]⟩⟩
  · have B2 := Lib.hid (BB.out.trans (b2.mono BB.out.size))
    rw [if_neg (by rw [HE.out]; simp [hz])] at HL
    obtain ⟨n, hw⟩ := wok_of hz
    have HWO := Lib.hid hw
    have HGN := Lib.hid (HG1.out.below b2)
    obtain ⟨av, cv, rfl, sv⟩ := hV.toSl
    have hvm := sv.hm
    have hvc := sv.hc
    have SV := Lib.hid sv
    have HV := Lib.hid (Row.base_mono hV BB.out.size)
    have hk16 := hw.ro.k16
    have hr0 := hw.ro.r0
    have hr1 := hw.ro.r1
    clear g0 g1 g2 g3 g4 r0 r1 zg zr
    have g0 := cell_kept b2 (cell_at XG.out 0)
    have g1 := cell_kept b2 (cell_at XG.out 1)
    have g2 := cell_kept b2 (cell_at XG.out 2)
    have g3 := cell_kept b2 (cell_at XG.out 3)
    have g4 := cell_kept b2 (cell_at XG.out 4)
    have r0 := cell_kept b2 (cell_at XR.out 0)
    have r1 := cell_kept b2 (cell_at XR.out 1)
    try dsimp only at g0 g1 g2 g3 g4 r0 r1
    have zg := szs (cell_lt g0)
    have zr := szs (cell_lt r0)
    dsimp only at zg zr
    clear WK hz b2 hV sv hw
    by_cases h1 : done < 0
    · have t1 : decide (done < 0) = true := decide_eq_true h1
      rw [if_pos (.inl h1)] at HL
      go_wp2_with fail
      go_returns
      exact ⟨B2.out, .inl ⟨by rw [HL.out]; decide, by rw [HL.out]⟩⟩
    have t1 : decide (done < 0) = false := decide_eq_false h1
    obtain ⟨d, rfl⟩ := Int.eq_ofNat_of_zero_le (show 0 ≤ done by omega)
    by_cases h2 : (k : Int) < d
    · have t2 : decide ((k : Int) < (d : Int)) = true := decide_eq_true h2
      rw [if_pos (.inr (.inl h2))] at HL
      go_wp2_with fail
      go_returns
      exact ⟨B2.out, .inl ⟨by rw [HL.out]; decide, by rw [HL.out]⟩⟩
    have t2 : decide ((k : Int) < (d : Int)) = false := decide_eq_false h2
    by_cases h3 : now < 0
    · have t3 : decide (now < 0) = true := decide_eq_true h3
      rw [if_pos (.inr (.inr (.inl h3)))] at HL
      go_wp2_with fail
      go_returns
      exact ⟨B2.out, .inl ⟨by rw [HL.out]; decide, by rw [HL.out]⟩⟩
    have t3 : decide (now < 0) = false := decide_eq_false h3
    by_cases h4 : 86400 < now
    · have t4 : decide (86400 < now) = true := decide_eq_true h4
      rw [if_pos (.inr (.inr (.inr h4)))] at HL
      go_wp2_with fail
      go_returns
      exact ⟨B2.out, .inl ⟨by rw [HL.out]; decide, by rw [HL.out]⟩⟩
    have t4 : decide (86400 < now) = false := decide_eq_false h4
    have hdk : d ≤ k := by omega
    rw [if_neg (by omega), Int.toNat_natCast] at HL
    obtain ⟨q, rfl⟩ := Int.eq_ofNat_of_zero_le hr0
    have hq : q < g.tn := by omega
    have tq : (q : Int) < (g.tn : Int) := by omega
    obtain ⟨tb, to, htb, hg4, p0, p1, p2, p3⟩ := HGN.out.trucks.tk hq
    have zt := szs hg4
    have HTQ : Hid (g.T ((q : Int)).toNat = g.T q) := Lib.hid rfl
    have HNW := Lib.hid (HWO.out.now (i := d) (by omega))
    obtain ⟨pl, hpl⟩ : ∃ pl, pl = nowK g (g.T ((q : Int)).toNat) R d := ⟨_, rfl⟩
    have HPL := Lib.hid hpl
    rw [← hpl] at HL HNW
    have hnw := HNW.out
    have HDL : Hid (delayK g (q : Int) R (d : Int) now = now - pl) := Lib.hid (by rw [hpl]; rfl)
    rw [htb] at XG HW1 HCC g2
    clear h1 h2 hr0 hr1 hpl
    by_cases hd0 : d = 0
    · subst hd0
      have tp : (0 : Int) < ((0 : Nat) : Int) ↔ False := by simp
      have e2 : (g.T q).frm = pl := by rw [HPL.out]; rfl
      rw [e2] at p2
      by_cases hnp : now < pl
      · have tn : decide (now < pl) = true := decide_eq_true hnp
        rw [if_pos hnp] at HL
        go_wp2_with fail
        go_returns
        exact ⟨B2.out, .inl ⟨by rw [HL.out]; decide, by rw [HL.out]⟩⟩
      · have tn : decide (now < pl) = false := decide_eq_false hnp
        rw [if_neg hnp] at HL
        go_wp2_with fail
        go_returns
        exact ⟨B2.out, .inr ⟨HL.out, _, by rw [HDL.out]; rfl, HV.out⟩⟩
    · obtain ⟨m, rfl⟩ : ∃ m, d = m + 1 := ⟨d - 1, by omega⟩
      have ed : ((m + 1 : Nat) : Int) = (m : Int) + 1 := rfl
      have tp : decide ((0 : Int) < (m : Int) + 1) = true := decide_eq_true (by omega)
      have tm : (m : Int) < (k : Int) := by omega
      obtain ⟨vb, vo, rfl, hg6, v0, v1, v2, v3⟩ := SV.out.vi (i := m) (by omega)
      have zv := szs hg6
      have e2 : (visK g (g.T ((q : Int)).toNat) R m).lea = pl := by rw [HPL.out]; rfl
      rw [e2] at v2
      rw [ed] at t1 t2 ⊢
      by_cases hnp : now < pl
      · have tn : decide (now < pl) = true := decide_eq_true hnp
        rw [if_pos hnp] at HL
        go_wp2_with fail
        go_returns
        exact ⟨B2.out, .inl ⟨by rw [HL.out]; decide, by rw [HL.out]⟩⟩
      · have tn : decide (now < pl) = false := decide_eq_false hnp
        rw [if_neg hnp] at HL
        go_wp2_with fail
        go_returns
        exact ⟨B2.out, .inr ⟨HL.out, _, by rw [HDL.out]; rfl, HV.out⟩⟩
end Go.Proofs.YtlnfhlmgnppcbaaGreat

/- Crew: what remains of a route. -/
namespace Go.Proofs.YtlnfhlmgnppcbaaGreat
open Go.RowKit Go.ChangeShapes Go.WideShapes Go.Deep
set_option linter.unusedVariables false
set_option linter.unusedSimpArgs false
set_option maxRecDepth 8000
open Rd
theorem Sl.drop {w : World} {s g o n c : Nat} {f : Nat → List Value} (h : Sl w s (some ⟨g, o, none⟩) n c f) {q : Nat} (hq : q ≤ n) : Sl w s (some ⟨g, o + q * s, none⟩) (n - q) (c - q) (fun i => f (q + i)) := by
  refine ⟨(by have := h.hm; omega), (by have := h.hc; omega), (fun e => by cases e), (fun i => h.len _), fun i hi => ?_⟩
  obtain ⟨g', o', e, hc⟩ := h.sl (q + i) (by omega)
  cases e
  refine ⟨g, o + q * s, rfl, fun j hj => ?_⟩
  have := hc j hj
  rw [Nat.add_mul, ← Nat.add_assoc] at this
  exact this
/-- A visit, later by a delay. -/
def lateV (dl : Int) (x : Vi) : Vi := ⟨x.need, x.arr + dl, x.lea + dl, x.load⟩
theorem ViRow.late {w : World} {base b n cap : Nat} {V : Nat → Vi} (h : ViRow w base (.slice (some ⟨b, 0, none⟩) n cap) n V) {i : Nat} (hi : i < n) (dl : Int) :
    ViRow ((w.setCell ⟨b, i * 4 + 1, none⟩ (.int .i64 ((V i).arr + dl))).setCell ⟨b, i * 4 + 2, none⟩ (.int .i64 ((V i).lea + dl))) base (.slice (some ⟨b, 0, none⟩) n cap) n (upd V i (lateV dl (V i))) := by
  have h1 := Row.store h (vif_len V) hi (j := 1) (by decide) (.int .i64 ((V i).arr + dl))
  have h2 := Row.store h1 (fun j => by unfold upd; split <;> simp [vif]) hi (j := 2) (by decide) (.int .i64 ((V i).lea + dl))
  refine Row.congr h2 (fun j hj => ?_)
  by_cases e : j = i
  · subst e
    simp [upd, vif, lateV]
  · simp [upd, vif, e]
/-- What Rest gives. -/
def RestW (g : Ng) (r : Int) (R : Nat → Int) (k : Nat) (done now : Int) (w : World) (e : Ending) (w' : World) : Prop :=
  Below w.heap.size w w' ∧ ((restE g r R k done now ≠ 0 ∧ e = .returned (.tuple #[.slice none 0 0, .int .i64 0, .int .i64 (restE g r R k done now)])) ∨
    (restE g r R k done now = 0 ∧ ∃ v : Value, e = .returned (.tuple #[v, .int .i64 (backK g (g.T r.toNat) R k + delayK g r R done now), .int .i64 0]) ∧ ViRow w' w.heap.size v (k - done.toNat) (fun i => lateV (delayK g r R done now) (visK g (g.T r.toNat) R (done.toNat + i)))))
theorem vif_one (V : Nat → Vi) : ∀ i, ∀ u ∈ vif V i, u.oneCell' = true := fun i u hu => by
  simp only [vif, List.mem_cons, List.not_mem_nil, or_false] at hu
  rcases hu with rfl | rfl | rfl | rfl <;> rfl
set_option maxHeartbeats 8000000 in
theorem rest20 (g : Ng) (r : Int) (R : Nat → Int) (k : Nat) (ra : Option Addr) (rc : Nat) (done now : Int) (w : World) (hg : g.In w) (hR : Sl w 1 ra k rc (nf R)) (hk : k ≤ 1000) :
    Calls Tryz.prog 20 #[.agg g.cells, .agg #[.int .i64 r, .slice ra k rc], .int .i64 done, .int .i64 now] w (RestW g r R k done now w) := by
  have BB : Hid (Below w.heap.size w ((w.alloc (.cells g.cells 32)).alloc (.cells #[.int .i64 r, .slice ra k rc] 51))) := Lib.hid (by (repeat' (first | (with_reducible exact Below.refl _ _) | (with_reducible assumption) | (with_reducible refine Below.drew ?_) | (with_reducible refine below_drewN ?_ _) | (with_reducible refine Below.alloc ?_ ?_ _) | (with_reducible refine Below.setCell ?_ ?_ _) | go_size)))
  have XG := Lib.hid (al_keep (al_at w (.cells g.cells 32) rfl) (.cells #[.int .i64 r, .slice ra k rc] 51))
  have XR := Lib.hid (al_at (w.alloc (.cells g.cells 32)) (.cells #[.int .i64 r, .slice ra k rc] 51) (k := w.heap.size + 1) (by simp))
  obtain ⟨w1, hw1⟩ : ∃ w1, w1 = (w.alloc (.cells g.cells 32)).alloc (.cells #[.int .i64 r, .slice ra k rc] 51) := ⟨_, rfl⟩
  rw [← hw1] at BB XG XR
  have HW1 := Lib.hid hw1
  have HCC : Hid (g.cells = #[.int .i64 g.N, .slice g.ea g.em g.ec, .slice g.ta g.tn g.tc, .slice g.na g.nn g.nc, .int .i64 g.h]) := Lib.hid rfl
  rw [HCC.out] at XG HW1 ⊢
  have WK := Lib.hid (late49 g r R k ra rc done now w1 (hg.below BB.out) (hR.below BB.out) hk)
  rw [HCC.out] at WK
  have HG1 := Lib.hid (hg.below BB.out)
  have htm := hg.trucks.hm
  have htc := hg.trucks.hc
  obtain ⟨E, hE⟩ : ∃ E, E = lateE g r R k done now := ⟨_, rfl⟩
  have HE := Lib.hid hE
  have HL : Hid (restE g r R k done now = if E ≠ 0 then E else if (g.T r.toNat).til < backK g (g.T r.toNat) R k + delayK g r R done now then 25 else 0) := Lib.hid (by rw [hE]; rfl)
  clear hw1 hg hR hE
  go_enter Tryz.func20, Tryz.ntmps20
  go_wp2_with fail
  rw [← HW1.out]
  have g0 := cell_kept (Below.refl w1.heap.size w1) (cell_at XG.out 0)
  have g1 := cell_kept (Below.refl w1.heap.size w1) (cell_at XG.out 1)
  have g2 := cell_kept (Below.refl w1.heap.size w1) (cell_at XG.out 2)
  have g3 := cell_kept (Below.refl w1.heap.size w1) (cell_at XG.out 3)
  have g4 := cell_kept (Below.refl w1.heap.size w1) (cell_at XG.out 4)
  have r0 := cell_kept (Below.refl w1.heap.size w1) (cell_at XR.out 0)
  have r1 := cell_kept (Below.refl w1.heap.size w1) (cell_at XR.out 1)
  try dsimp only at g0 g1 g2 g3 g4 r0 r1
  have zg := szs (cell_lt g0)
  have zr := szs (cell_lt r0)
  dsimp only at zg zr
  go_wp2_with fail
  refine WK.out.mono ?_
  rintro e w2 ⟨b2, ⟨hne, rfl⟩ | ⟨hz, v, rfl, hV⟩⟩
  · have B2 := Lib.hid (BB.out.trans (b2.mono BB.out.size))
    rw [← HE.out] at hne
    rw [← HE.out]
    have te : (E != 0) = true := by simpa using hne
    rw [if_pos hne] at HL
    have HN := Lib.hid hne
    clear WK hne b2
    go_wp2_with fail
    go_returns
    exact ⟨B2.out, .inl ⟨by rw [HL.out]; exact HN.out, by rw [HL.out]; rfl⟩⟩
  · have B2 := Lib.hid (BB.out.trans (b2.mono BB.out.size))
    rw [if_neg (by rw [HE.out]; simp [hz])] at HL
    obtain ⟨n, d, hw, _, rfl, hdk, hn0, hn1, hpn⟩ := late_ok hz
    have HWO := Lib.hid hw
    have HGN := Lib.hid (HG1.out.below b2)
    obtain ⟨av, cv, rfl, sv⟩ := hV.toSl
    have hvm := sv.hm
    have hvc := sv.hc
    have SV := Lib.hid sv
    have HSH := Lib.hid (Row.shape hV)
    have hk16 := hw.ro.k16
    have hr0 := hw.ro.r0
    have hr1 := hw.ro.r1
    have hbk0 : backK g (g.T r.toNat) R k ≤ 86400 := by have := hw.back; have := hw.ro.tk; omega
    have hbk1 : 0 ≤ backK g (g.T r.toNat) R k := by have := hw.back_le 0 (Nat.zero_le _) (Nat.le_refl _); have h2 := hw.home_all (i := 0) (Nat.zero_le _); have h3 := (hw.now (i := 0) (Nat.zero_le _)).1; have h4 : backK g (g.T r.toNat) R 0 = nowK g (g.T r.toNat) R 0 + g.S (atK g (g.T r.toNat) R 0) (g.T r.toNat).dep + 0 * g.h := rfl; omega
    have hnd := hw.now hdk
    have hdl : 0 ≤ delayK g r R (d : Int) now ∧ delayK g r R (d : Int) now ≤ 86400 := by unfold delayK; rw [Int.toNat_natCast]; omega
    clear g0 g1 g2 g3 g4 r0 r1 zg zr
    have g0 := cell_kept b2 (cell_at XG.out 0)
    have g1 := cell_kept b2 (cell_at XG.out 1)
    have g2 := cell_kept b2 (cell_at XG.out 2)
    have g3 := cell_kept b2 (cell_at XG.out 3)
    have g4 := cell_kept b2 (cell_at XG.out 4)
    have r0 := cell_kept b2 (cell_at XR.out 0)
    have r1 := cell_kept b2 (cell_at XR.out 1)
    try dsimp only at g0 g1 g2 g3 g4 r0 r1
    have zg := szs (cell_lt g0)
    have zr := szs (cell_lt r0)
    dsimp only at zg zr
    obtain ⟨q, rfl⟩ := Int.eq_ofNat_of_zero_le hr0
    have hq : q < g.tn := by omega
    have tq : (q : Int) < (g.tn : Int) := by omega
    obtain ⟨tb, to, htb, hg4, p0, p1, p2, p3⟩ := HGN.out.trucks.tk hq
    have zt := szs hg4
    have HTQ : Hid (g.T ((q : Int)).toNat = g.T q) := Lib.hid rfl
    rw [HTQ.out] at HL
    have HVB : Hid (∀ i, i < k → (0 ≤ (visK g (g.T ((q : Int)).toNat) R i).arr ∧ (visK g (g.T ((q : Int)).toNat) R i).arr ≤ 86400) ∧ 0 ≤ (visK g (g.T ((q : Int)).toNat) R i).lea ∧ (visK g (g.T ((q : Int)).toNat) R i).lea ≤ 86400) := Lib.hid (fun i hi => by
      have h1 := hw.now (i := i) (by omega)
      have h2 := hw.now (i := i + 1) (by omega)
      have h3 := (hw.step i hi).1
      have h4 := (hw.ro.work hi).1
      have e1 : nowK g (g.T ((q : Int)).toNat) R (i + 1) = nowK g (g.T ((q : Int)).toNat) R i + g.S (atK g (g.T ((q : Int)).toNat) R i) (g.nd (R i)).node + g.work (R i) := rfl
      unfold visK
      dsimp only
      omega)
    obtain ⟨til, htil⟩ : ∃ til, til = (g.T q).til := ⟨_, rfl⟩
    rw [← htil] at p3 HL
    obtain ⟨bk, hbk⟩ : ∃ bk, bk = backK g (g.T ((q : Int)).toNat) R k := ⟨_, rfl⟩
    obtain ⟨dl, hdl2⟩ : ∃ dl, dl = delayK g (q : Int) R (d : Int) now := ⟨_, rfl⟩
    have HBK := Lib.hid hbk
    have HDL := Lib.hid hdl2
    rw [← hbk, ← hdl2] 
    rw [← hbk] at hbk0 hbk1
    rw [← hdl2] at hdl
    rw [show backK g (g.T q) R k = bk from hbk.symm, ← hdl2] at HL
    rw [htb] at XG HW1 HCC g2
    clear WK hz b2 hV sv hw hr0 hr1 hbk hdl2 htil hpn hnd
    by_cases hlt : til < bk + dl
    · have tl : decide (til < bk + dl) = true := decide_eq_true hlt
      rw [if_pos hlt] at HL
      go_wp2_with fail
      go_returns
      exact ⟨B2.out, .inl ⟨by rw [HL.out]; decide, by rw [HL.out]; rfl⟩⟩
    · have tl : decide (til < bk + dl) = false := decide_eq_false hlt
      rw [if_neg hlt] at HL
      have td : (d : Int) ≤ (k : Int) := by omega
      have td0 : (0 : Int) ≤ (d : Int) := by omega
      cases av with
      | none =>
        obtain ⟨rfl, rfl⟩ := SV.out.hno rfl
        obtain rfl : d = 0 := by omega
        have CL := Lib.hid (clone50 none 0 0 (vif (visK g (g.T ((q : Int)).toNat) R)) w2 SV.out (vif_one _) (by omega))
        have HF0 : Hid (∀ i, vif (visK g (g.T ((q : Int)).toNat) R) i = vif (fun i => visK g (g.T ((q : Int)).toNat) R (0 + i)) i) := Lib.hid (fun i => by unfold vif; simp only [Nat.zero_add])
        clear SV HSH
        go_wp2_with fail
        refine CL.out.mono ?_
        rintro e w3 ⟨v2, rfl, r3, b3⟩
        have r3' : ViRow w3 w2.heap.size v2 (0 - 0) (fun i => visK g (g.T ((q : Int)).toNat) R (0 + i)) := Row.congr r3 (fun i _ => HF0.out i)
        have HSH := Lib.hid (Row.shape r3)
        obtain ⟨a2, c2, rfl, s3⟩ := ViRow.toSl r3'
        have hm2 := s3.hm
        have hc2 := s3.hc
        have R3 := Lib.hid r3'
        have B3 := Lib.hid b3
        clear CL r3 r3' b3 s3 HF0
        generalize hm : 0 - 0 = m at *
        have HM := Lib.hid hm
        clear hm
        generalize hV : visK g (g.T ((q : Int)).toNat) R = V at *
        have HVV := Lib.hid hV
        clear hV
        clear g0 g1 g2 g3 g4 r0 r1 zg zr
        clear p0 p1 p2 p3 zt
        go_wp2_with fail
        go_loopw [50] (fun s50 wr => ∃ i : Nat, s50 = .int .i64 i ∧ i ≤ m ∧ Hid (ViRow wr w2.heap.size (.slice a2 m c2) m (fun j => if j < i then lateV dl (V (0 + j)) else V (0 + j))) ∧ Hid (Below w2.heap.size w2 wr)) (fun s50 _ => m - (intOf s50).toNat)
        case atStart => exact ⟨0, rfl, by omega, Lib.hid (Row.congr R3.out (fun j _ => by simp [vif])), B3⟩
        case round =>
          obtain ⟨i, rfl, hi, hvr, hbw⟩ := hrel
          have VR := hvr
          have BW := hbw
          clear hvr hbw R3 B3
          by_cases hlt : i < m
          · have ti : (i : Int) < (m : Int) := by omega
            rcases HSH.out with ⟨h, h0⟩ | ⟨b2, cap2, h, _⟩
            · exfalso; have := HM.out; omega
            cases h
            have x1 := Row.cell VR.out (vif_len _) (i := i) (j := 1) hlt (by decide)
            have x2 := Row.cell VR.out (vif_len _) (i := i) (j := 2) hlt (by decide)
            have fr := fun j => Row.free VR.out j
            have zb := szs (World.ownsRow.lt VR.out b2 rfl).2
            simp only [vif, List.getElem?_cons_succ, List.getElem?_cons_zero, Nat.lt_irrefl, if_false] at x1 x2
            have hbd := HVB.out (0 + i) (by have := HM.out; omega)
            have UP := Lib.hid (ViRow.late VR.out hlt dl)
            simp only [Nat.lt_irrefl, if_false] at UP
            have HFN : Hid (∀ j, upd (fun j => if j < i then lateV dl (V (0 + j)) else V (0 + j)) i (lateV dl (V (0 + i))) j = if j < i + 1 then lateV dl (V (0 + j)) else V (0 + j)) := Lib.hid (fun j => by
              by_cases e : j = i
              · subst e; rw [upd_same, if_pos (by omega)]
              · rw [upd_ne e]
                by_cases e2 : j < i
                · rw [if_pos e2, if_pos (by omega)]
                · rw [if_neg e2, if_neg (by omega)])
            have HL2 := Lib.hid (World.ownsRow.lt VR.out b2 rfl)
            generalize hvi : V (0 + i) = vi at *
            obtain ⟨y1, y2, y3, y4⟩ := vi
            dsimp only at x1 x2 hbd UP
            have o1 := fun (w' : World) (a c : Value) => ((Off.refl (fun q => q = b2) w').setCell (p := ⟨b2, i * 4 + 1, none⟩) (fun _ => rfl) a).setCell (p := ⟨b2, i * 4 + 2, none⟩) (fun _ => rfl) c
            have HO1 := Lib.hid o1
            clear o1 hvi
            go_wp2_with fail
            all_goals
              go_roundw
              case rel => exact ⟨i + 1, by go_num, by omega, Lib.hid (by
                have := UP.out
                rw [show (fun j => if j < i + 1 then lateV dl (V (0 + j)) else V (0 + j)) = _ from (funext HFN.out).symm]
                exact this), Lib.hid (BW.out.trans ((HO1.out _ _ _).toBelow BW.out.size (fun q hq h => by have := HL2.out; omega)))⟩
              case measure => simp [intOf]; omega
          · obtain rfl : i = m := by omega
            go_wp2_with fail
            go_returns
            refine ⟨B2.out.trans (BW.out.mono B2.out.size), .inr ⟨HL.out, _, by rw [← HBK.out, ← HDL.out]; rfl, ?_⟩⟩
            have h1 := Row.base_mono VR.out B2.out.size
            rw [Int.toNat_natCast, HM.out, ← HDL.out, HVV.out]
            exact Row.congr h1 (fun j hj => by simp only [vif, if_pos hj])
      | some ad =>
        rcases HSH.out with ⟨h, _⟩ | ⟨vb, cap, h, _⟩
        · cases h
        cases h
        have HF0 : Hid (∀ i, vif (visK g (g.T ((q : Int)).toNat) R) (d + i) = vif (fun i => visK g (g.T ((q : Int)).toNat) R (d + i)) i) := Lib.hid (fun i => rfl)
        by_cases hcv : cv = d
        · have CL := Lib.hid (clone50 (some ⟨vb, 0, none⟩) (k - d) 0 (fun i => vif (visK g (g.T ((q : Int)).toNat) R) (d + i)) w2 ⟨by omega, by omega, (fun e => by cases e), (fun i => rfl), (fun i hi => by omega)⟩ (fun i => vif_one _ _) (by omega))
          clear SV HSH
          go_wp2_with fail
          refine CL.out.mono ?_
          rintro e w3 ⟨v2, rfl, r3, b3⟩
          have r3' : ViRow w3 w2.heap.size v2 (k - d) (fun i => visK g (g.T ((q : Int)).toNat) R (d + i)) := Row.congr r3 (fun i _ => HF0.out i)
          have HSH := Lib.hid (Row.shape r3)
          obtain ⟨a2, c2, rfl, s3⟩ := ViRow.toSl r3'
          have hm2 := s3.hm
          have hc2 := s3.hc
          have R3 := Lib.hid r3'
          have B3 := Lib.hid b3
          clear CL r3 r3' b3 s3 HF0
          generalize hm : k - d = m at *
          have HM := Lib.hid hm
          clear hm
          generalize hV : visK g (g.T ((q : Int)).toNat) R = V at *
          have HVV := Lib.hid hV
          clear hV
          clear g0 g1 g2 g3 g4 r0 r1 zg zr
          clear p0 p1 p2 p3 zt
          go_wp2_with fail
          go_loopw [50] (fun s50 wr => ∃ i : Nat, s50 = .int .i64 i ∧ i ≤ m ∧ Hid (ViRow wr w2.heap.size (.slice a2 m c2) m (fun j => if j < i then lateV dl (V (d + j)) else V (d + j))) ∧ Hid (Below w2.heap.size w2 wr)) (fun s50 _ => m - (intOf s50).toNat)
          case atStart => exact ⟨0, rfl, by omega, Lib.hid (Row.congr R3.out (fun j _ => by simp [vif])), B3⟩
          case round =>
            obtain ⟨i, rfl, hi, hvr, hbw⟩ := hrel
            have VR := hvr
            have BW := hbw
            clear hvr hbw R3 B3
            by_cases hlt : i < m
            · have ti : (i : Int) < (m : Int) := by omega
              rcases HSH.out with ⟨h, h0⟩ | ⟨b2, cap2, h, _⟩
              · exfalso; have := HM.out; omega
              cases h
              have x1 := Row.cell VR.out (vif_len _) (i := i) (j := 1) hlt (by decide)
              have x2 := Row.cell VR.out (vif_len _) (i := i) (j := 2) hlt (by decide)
              have fr := fun j => Row.free VR.out j
              have zb := szs (World.ownsRow.lt VR.out b2 rfl).2
              simp only [vif, List.getElem?_cons_succ, List.getElem?_cons_zero, Nat.lt_irrefl, if_false] at x1 x2
              have hbd := HVB.out (d + i) (by have := HM.out; omega)
              have UP := Lib.hid (ViRow.late VR.out hlt dl)
              simp only [Nat.lt_irrefl, if_false] at UP
              have HFN : Hid (∀ j, upd (fun j => if j < i then lateV dl (V (d + j)) else V (d + j)) i (lateV dl (V (d + i))) j = if j < i + 1 then lateV dl (V (d + j)) else V (d + j)) := Lib.hid (fun j => by
                by_cases e : j = i
                · subst e; rw [upd_same, if_pos (by omega)]
                · rw [upd_ne e]
                  by_cases e2 : j < i
                  · rw [if_pos e2, if_pos (by omega)]
                  · rw [if_neg e2, if_neg (by omega)])
              have HL2 := Lib.hid (World.ownsRow.lt VR.out b2 rfl)
              generalize hvi : V (d + i) = vi at *
              obtain ⟨y1, y2, y3, y4⟩ := vi
              dsimp only at x1 x2 hbd UP
              have o1 := fun (w' : World) (a c : Value) => ((Off.refl (fun q => q = b2) w').setCell (p := ⟨b2, i * 4 + 1, none⟩) (fun _ => rfl) a).setCell (p := ⟨b2, i * 4 + 2, none⟩) (fun _ => rfl) c
              have HO1 := Lib.hid o1
              clear o1 hvi
              go_wp2_with fail
              all_goals
                go_roundw
                case rel => exact ⟨i + 1, by go_num, by omega, Lib.hid (by
                  have := UP.out
                  rw [show (fun j => if j < i + 1 then lateV dl (V (d + j)) else V (d + j)) = _ from (funext HFN.out).symm]
                  exact this), Lib.hid (BW.out.trans ((HO1.out _ _ _).toBelow BW.out.size (fun q hq h => by have := HL2.out; omega)))⟩
                case measure => simp [intOf]; omega
            · obtain rfl : i = m := by omega
              go_wp2_with fail
              go_returns
              refine ⟨B2.out.trans (BW.out.mono B2.out.size), .inr ⟨HL.out, _, by rw [← HBK.out, ← HDL.out]; rfl, ?_⟩⟩
              have h1 := Row.base_mono VR.out B2.out.size
              rw [Int.toNat_natCast, HM.out, ← HDL.out, HVV.out]
              exact Row.congr h1 (fun j hj => by simp only [vif, if_pos hj])
        · have SD := SV.out.drop hdk
          rw [Nat.zero_add] at SD
          have CL := Lib.hid (clone50 (some ⟨vb, d * 4, none⟩) (k - d) (cv - d) _ w2 SD (fun i => vif_one _ _) (by omega))
          clear SD
          clear SV HSH
          go_wp2_with fail
          refine CL.out.mono ?_
          rintro e w3 ⟨v2, rfl, r3, b3⟩
          have r3' : ViRow w3 w2.heap.size v2 (k - d) (fun i => visK g (g.T ((q : Int)).toNat) R (d + i)) := Row.congr r3 (fun i _ => HF0.out i)
          have HSH := Lib.hid (Row.shape r3)
          obtain ⟨a2, c2, rfl, s3⟩ := ViRow.toSl r3'
          have hm2 := s3.hm
          have hc2 := s3.hc
          have R3 := Lib.hid r3'
          have B3 := Lib.hid b3
          clear CL r3 r3' b3 s3 HF0
          generalize hm : k - d = m at *
          have HM := Lib.hid hm
          clear hm
          generalize hV : visK g (g.T ((q : Int)).toNat) R = V at *
          have HVV := Lib.hid hV
          clear hV
          clear g0 g1 g2 g3 g4 r0 r1 zg zr
          clear p0 p1 p2 p3 zt
          go_wp2_with fail
          go_loopw [50] (fun s50 wr => ∃ i : Nat, s50 = .int .i64 i ∧ i ≤ m ∧ Hid (ViRow wr w2.heap.size (.slice a2 m c2) m (fun j => if j < i then lateV dl (V (d + j)) else V (d + j))) ∧ Hid (Below w2.heap.size w2 wr)) (fun s50 _ => m - (intOf s50).toNat)
          case atStart => exact ⟨0, rfl, by omega, Lib.hid (Row.congr R3.out (fun j _ => by simp [vif])), B3⟩
          case round =>
            obtain ⟨i, rfl, hi, hvr, hbw⟩ := hrel
            have VR := hvr
            have BW := hbw
            clear hvr hbw R3 B3
            by_cases hlt : i < m
            · have ti : (i : Int) < (m : Int) := by omega
              rcases HSH.out with ⟨h, h0⟩ | ⟨b2, cap2, h, _⟩
              · exfalso; have := HM.out; omega
              cases h
              have x1 := Row.cell VR.out (vif_len _) (i := i) (j := 1) hlt (by decide)
              have x2 := Row.cell VR.out (vif_len _) (i := i) (j := 2) hlt (by decide)
              have fr := fun j => Row.free VR.out j
              have zb := szs (World.ownsRow.lt VR.out b2 rfl).2
              simp only [vif, List.getElem?_cons_succ, List.getElem?_cons_zero, Nat.lt_irrefl, if_false] at x1 x2
              have hbd := HVB.out (d + i) (by have := HM.out; omega)
              have UP := Lib.hid (ViRow.late VR.out hlt dl)
              simp only [Nat.lt_irrefl, if_false] at UP
              have HFN : Hid (∀ j, upd (fun j => if j < i then lateV dl (V (d + j)) else V (d + j)) i (lateV dl (V (d + i))) j = if j < i + 1 then lateV dl (V (d + j)) else V (d + j)) := Lib.hid (fun j => by
                by_cases e : j = i
                · subst e; rw [upd_same, if_pos (by omega)]
                · rw [upd_ne e]
                  by_cases e2 : j < i
                  · rw [if_pos e2, if_pos (by omega)]
                  · rw [if_neg e2, if_neg (by omega)])
              have HL2 := Lib.hid (World.ownsRow.lt VR.out b2 rfl)
              generalize hvi : V (d + i) = vi at *
              obtain ⟨y1, y2, y3, y4⟩ := vi
              dsimp only at x1 x2 hbd UP
              have o1 := fun (w' : World) (a c : Value) => ((Off.refl (fun q => q = b2) w').setCell (p := ⟨b2, i * 4 + 1, none⟩) (fun _ => rfl) a).setCell (p := ⟨b2, i * 4 + 2, none⟩) (fun _ => rfl) c
              have HO1 := Lib.hid o1
              clear o1 hvi
              go_wp2_with fail
              all_goals
                go_roundw
                case rel => exact ⟨i + 1, by go_num, by omega, Lib.hid (by
                  have := UP.out
                  rw [show (fun j => if j < i + 1 then lateV dl (V (d + j)) else V (d + j)) = _ from (funext HFN.out).symm]
                  exact this), Lib.hid (BW.out.trans ((HO1.out _ _ _).toBelow BW.out.size (fun q hq h => by have := HL2.out; omega)))⟩
                case measure => simp [intOf]; omega
            · obtain rfl : i = m := by omega
              go_wp2_with fail
              go_returns
              refine ⟨B2.out.trans (BW.out.mono B2.out.size), .inr ⟨HL.out, _, by rw [← HBK.out, ← HDL.out]; rfl, ?_⟩⟩
              have h1 := Row.base_mono VR.out B2.out.size
              rw [Int.toNat_natCast, HM.out, ← HDL.out, HVV.out]
              exact Row.congr h1 (fun j hj => by simp only [vif, if_pos hj])
end Go.Proofs.YtlnfhlmgnppcbaaGreat

/- What is kept of a route: the needs in order, and whether each is among them. Plain theorems, no program. -/
namespace Go.Proofs.YtlnfhlmgnppcbaaGreat
set_option linter.unusedVariables false
set_option linter.unusedSimpArgs false
open Rd
theorem cutK_succ (g : Ng) (t : Tk) (R : Nat → Int) (d : Nat) (now : Int) (j : Nat) : cutK g t R d now (j + 1) = cutS g t (cutK g t R d now j) (R (d + j)) := rfl
theorem cut_more (g : Ng) (t : Tk) (R : Nat → Int) (d : Nat) (now : Int) (j : Nat) : ∀ m : Nat, ∃ rest, (cutK g t R d now (j + m)).2 = (cutK g t R d now j).2 ++ rest ∧ ∀ x ∈ rest, ∃ i, j ≤ i ∧ i < j + m ∧ x = R (d + i)
  | 0 => ⟨[], by simp, fun x hx => by simp at hx⟩
  | m + 1 => by
    obtain ⟨rest, h1, h2⟩ := cut_more g t R d now j m
    rw [← Nat.add_assoc, cutK_succ]
    unfold cutS
    split
    · refine ⟨rest ++ [R (d + (j + m))], by dsimp only; rw [h1, List.append_assoc], fun x hx => ?_⟩
      rcases List.mem_append.1 hx with hx | hx
      · obtain ⟨i, k1, k2, k3⟩ := h2 x hx
        exact ⟨i, k1, by omega, k3⟩
      · exact ⟨j + m, by omega, by omega, List.mem_singleton.1 hx⟩
    · exact ⟨rest, h1, fun x hx => by
        obtain ⟨i, k1, k2, k3⟩ := h2 x hx
        exact ⟨i, k1, by omega, k3⟩⟩
theorem cut_begin (g : Ng) (t : Tk) (R : Nat → Int) (d : Nat) (now : Int) (m : Nat) {i : Nat} (hi : i < d) : (cutK g t R d now m).2[i]? = some (R i) := by
  obtain ⟨rest, h1, _⟩ := cut_more g t R d now 0 m
  rw [Nat.zero_add] at h1
  rw [h1]
  unfold cutK
  rw [List.getElem?_append_left (by simpa using hi)]
  simp [hi]
/-- A need is kept if and only if it comes next among the kept ones. -/
theorem cut_next {g : Ng} {t : Tk} {R : Nat → Int} {k d : Nat} {now : Int} (one : ∀ i j, i < j → j < k → R i ≠ R j) {j m : Nat} (hj : d + j < k) (hm : d + (j + 1 + m) ≤ k) :
    okB g t (cutK g t R d now j).1 (R (d + j)) = (decide ((cutK g t R d now j).2.length < (cutK g t R d now (j + 1 + m)).2.length) && decide ((cutK g t R d now (j + 1 + m)).2[(cutK g t R d now j).2.length]? = some (R (d + j)))) := by
  obtain ⟨rest, h1, h2⟩ := cut_more g t R d now (j + 1) m
  rw [h1]
  cases hb : okB g t (cutK g t R d now j).1 (R (d + j))
  · have e : (cutK g t R d now (j + 1)) = cutK g t R d now j := by
      show cutS g t (cutK g t R d now j) (R (d + j)) = _
      unfold cutS; rw [if_neg (by rw [hb]; simp)]
    rw [e, List.getElem?_append_right (Nat.le_refl _), Nat.sub_self]
    cases rest with
    | nil => simp
    | cons x l =>
      obtain ⟨i, k1, k2, k3⟩ := h2 x (by simp)
      have : R (d + j) ≠ R (d + i) := one _ _ (by omega) (by omega)
      have h3 : ¬ (x = R (d + j)) := fun h => this (by rw [← h, k3])
      simp [h3]
  · have e : (cutK g t R d now (j + 1)) = (servO g (cutK g t R d now j).1 (R (d + j)), (cutK g t R d now j).2 ++ [R (d + j)]) := by
      show cutS g t (cutK g t R d now j) (R (d + j)) = _
      unfold cutS; rw [if_pos hb]
    rw [e]
    dsimp only
    rw [List.append_assoc, List.getElem?_append_right (Nat.le_refl _), Nat.sub_self]
    simp
/-- All needs are kept if and only if what remains is right. -/
theorem cut_rest {g : Ng} {n : Nat} {r : Int} {R : Nat → Int} {k d : Nat} {now : Int} (h : WOk g n r R k) (hd : d ≤ k) (hl : lateE g r R k d now = 0) (hf : fitsB g (g.T r.toNat) ⟨atK g (g.T r.toNat) R d, loadK g R d, now⟩ = true) :
    restE g r R k d now = 0 ↔ (cutL g r R k d now).length = k := by
  have ed : ((d : Int)).toNat = d := by omega
  unfold restE cutL delayK
  rw [if_neg (by rw [hl]; simp), ed]
  constructor
  · intro hz
    have hb : backK g (g.T r.toNat) R k + (now - nowK g (g.T r.toNat) R d) ≤ (g.T r.toNat).til := by
      split at hz
      · simp at hz
      · omega
    have := cut_all h hd hb (j := k - d) (by omega)
    rw [this]
    simp; omega
  · intro hz
    have h1 := cut_kept h hd hf (j := k - d) (by omega) (by omega)
    have h2 := h1.2
    rw [h1.1] at h2
    unfold fitsB at h2
    have h3 := (of_decide_eq_true h2).2
    dsimp only at h3
    rw [show d + (k - d) = k by omega] at h3
    rw [if_neg]
    unfold backK
    omega
theorem cutE_ok {g : Ng} {r : Int} {R : Nat → Int} {k : Nat} {done now : Int} (h : cutE g r R k done now = 0) : lateE g r R k done now = 0 ∧ fitsB g (g.T r.toNat) ⟨atK g (g.T r.toNat) R done.toNat, loadK g R done.toNat, now⟩ = true := by
  unfold cutE at h
  split at h
  · rename_i h1; exact absurd h h1
  rename_i h1
  split at h
  · simp at h
  rename_i h2
  exact ⟨Decidable.not_not.1 h1, by simpa using h2⟩
theorem cutE_walk {g : Ng} {r : Int} {R : Nat → Int} {k : Nat} {done now : Int} (h : walkE g r R k ≠ 0) : cutE g r R k done now = walkE g r R k := by
  have hl : lateE g r R k done now = walkE g r R k := by unfold lateE; rw [if_pos h]
  unfold cutE; rw [if_pos (by rw [hl]; exact h), hl]
theorem cut_now_le {g : Ng} {n : Nat} {r : Int} {R : Nat → Int} {k d : Nat} {now : Int} (h : WOk g n r R k) (hd : d ≤ k) (hn : 0 ≤ now) (hf : fitsB g (g.T r.toNat) ⟨atK g (g.T r.toNat) R d, loadK g R d, now⟩ = true) {j : Nat} (hj : d + j ≤ k) :
    0 ≤ (cutK g (g.T r.toNat) R d now j).1.now ∧ (cutK g (g.T r.toNat) R d now j).1.now ≤ 86400 := by
  have hI := cut_inv h hd hn hf hj
  have h1 := of_decide_eq_true (by have := hI.fits; unfold fitsB at this; exact this)
  have h2 := h.ro.tk
  have h3 := Int.mul_nonneg hI.load.1 h.ro.ng.h0
  exact ⟨hI.now0, by omega⟩
end Go.Proofs.YtlnfhlmgnppcbaaGreat

/- Crew: what is kept of a route. -/
namespace Go.Proofs.YtlnfhlmgnppcbaaGreat
open Go.RowKit Go.ChangeShapes Go.WideShapes Go.Deep
set_option linter.unusedVariables false
set_option linter.unusedSimpArgs false
set_option maxRecDepth 8000
open Rd
/-- A row of ints. -/
def IntRow (w : World) (base : Nat) (v : Value) (n : Nat) (F : Nat → Int) : Prop := Row w base 3 1 v n (nf F)
theorem Row.ne {w : World} {base s n g b : Nat} {e T : TypeId} {v : Value} {f : Nat → List Value} {cs : Array Value} (h : Row w base e s v n f) (hg : v.ownBlock = some g) (hb : w.heap[b]? = some (.cells cs T (0, 0))) (hT : T ≠ e) : g ≠ b := by
  intro he
  subst he
  rcases h.2 with ⟨hv, _⟩ | ⟨g', cap, cur, hv, _, hh, _⟩
  · rw [hv] at hg; simp [Value.ownBlock] at hg
  · rw [hv] at hg
    have : g' = g := by simpa [Value.ownBlock] using hg
    subst this
    rw [hb] at hh
    cases hh
    exact hT rfl
/-- What Cut gives. -/
def CutW (g : Ng) (r : Int) (R : Nat → Int) (k : Nat) (done now : Int) (w : World) (e : Ending) (w' : World) : Prop :=
  Below w.heap.size w w' ∧ ((cutE g r R k done now ≠ 0 ∧ e = .returned (.tuple #[.agg #[.int .i64 0, .slice none 0 0], .int .i64 (cutE g r R k done now)])) ∨
    (cutE g r R k done now = 0 ∧ ∃ v : Value, e = .returned (.tuple #[.agg #[.int .i64 r, v], .int .i64 0]) ∧ IntRow w' w.heap.size v (cutL g r R k done now).length (fun i => (cutL g r R k done now).getD i 0)))
/-- What holds at the label: j of the needs that remain have been looked at. -/
structure CutJ (g : Ng) (r : Int) (R : Nat → Int) (k : Nat) (ra : Option Addr) (rc : Nat) (w0 : World) (W d : Nat) (now : Int) (j b14 b15 b16 : Nat) (v : Value) (w : World) : Prop where
  le : d + j ≤ k
  night : w.heap[W]? = some (.cells g.cells 32 (0, 0))
  route : w.heap[W + 1]? = some (.cells #[.int .i64 r, .slice ra k rc] 51 (0, 0))
  res : w.heap[W + 1 + 1]? = some (.cells #[.int .i64 0, .slice none 0 0] 51 (0, 0))
  tk : w.heap[b14]? = some (.cells (tkC (g.T r.toNat)) 62 (0, 0))
  st : w.heap[b15]? = some (.cells (cpC (cutK g (g.T r.toNat) R d now j).1) 113 (0, 0))
  out : w.heap[b16]? = some (.cells #[.int .i64 r, v] 51 (0, 0))
  row : IntRow w w0.heap.size v (cutK g (g.T r.toNat) R d now j).2.length (fun i => (cutK g (g.T r.toNat) R d now j).2.getD i 0)
  bel : Below w0.heap.size w0 w
  ne : W = w0.heap.size ∧ W + 1 + 1 < b16 ∧ W ≤ b15
def CutF (W i b14 b15 b16 : Nat) (u : Nat → Value) : Act := { tmps := #[u 0, u 1, u 2, u 3, .pointer (some ⟨W, 0, none⟩), .pointer (some ⟨W + 1, 0, none⟩), u 6, u 7, .pointer (some ⟨W + 1 + 1, 0, none⟩), u 9, u 10, u 11, u 12, u 13, .pointer (some ⟨b14, 0, none⟩), .pointer (some ⟨b15, 0, none⟩), .pointer (some ⟨b16, 0, none⟩), .int .i64 (i : Int), u 18, u 19, u 20, u 21, u 22, u 23, u 24, u 25, u 26, u 27, u 28, u 29, u 30, u 31, u 32, u 33, u 34, u 35, u 36, u 37, u 38, u 39, u 40, u 41, u 42, u 43, u 44, u 45, u 46, u 47, u 48, u 49, u 50, u 51, u 52, u 53, u 54, u 55, u 56, u 57, u 58, u 59, u 60, u 61, u 62, u 63, u 64, u 65, u 66, u 67, u 68, u 69, u 70, u 71, u 72, u 73, u 74, u 75, u 76, u 77, u 78, u 79, u 80, u 81, u 82, u 83, u 84, u 85, u 86, u 87, u 88, u 89, u 90, u 91, u 92, u 93, u 94, u 95, u 96, u 97, u 98, u 99, u 100, u 101, u 102, u 103, u 104, u 105, u 106, u 107, u 108, u 109, u 110, u 111, u 112, u 113, u 114, u 115, u 116, u 117, u 118, u 119, u 120, u 121], defers := [] }
/-- The frame at the label. -/
structure CutA (W i b14 b15 b16 : Nat) (a : Act) : Prop where
  df : a.defers = []
  sz : a.tmps.size = 122
  a4 : a.tmps[4]? = some (.pointer (some ⟨W, 0, none⟩))
  a5 : a.tmps[5]? = some (.pointer (some ⟨W + 1, 0, none⟩))
  a8 : a.tmps[8]? = some (.pointer (some ⟨W + 1 + 1, 0, none⟩))
  a14 : a.tmps[14]? = some (.pointer (some ⟨b14, 0, none⟩))
  a15 : a.tmps[15]? = some (.pointer (some ⟨b15, 0, none⟩))
  a16 : a.tmps[16]? = some (.pointer (some ⟨b16, 0, none⟩))
  a17 : a.tmps[17]? = some (.int .i64 (i : Int))
theorem list_eq {l : List Value} {n : Nat} (h : l.length = n) : l = (List.range n).map (fun k => l.getD k undef) := by
  apply List.ext_getElem?
  intro i
  by_cases hi : i < n
  · simp [hi, List.getD, h]
  · rw [List.getElem?_eq_none (by omega), List.getElem?_eq_none (by simp; omega)]
set_option maxHeartbeats 4000000 in
theorem CutA.eq {W i b14 b15 b16 : Nat} {a : Act} (h : CutA W i b14 b15 b16 a) : ∃ u, a = CutF W i b14 b15 b16 u := by
  refine ⟨fun k => a.tmps.getD k undef, ?_⟩
  obtain ⟨df, sz, a4, a5, a8, a14, a15, a16, a17⟩ := h
  obtain ⟨⟨l⟩, df'⟩ := a
  dsimp only at *
  subst df
  unfold CutF
  congr 1
  have hl := list_eq (l := l) (n := 122) sz
  have e : ∀ k v, (Array.mk l)[k]? = some v → l.getD k undef = v := fun k v h => by
    rw [List.getElem?_toArray] at h; simp [List.getD, h]
  have e' : ∀ k, (Array.mk l).getD k undef = l.getD k undef := fun k => by simp [Array.getD_eq_getD_getElem?, List.getD]
  simp only [e']
  rw [show (Array.mk l) = ((List.range 122).map (fun k => l.getD k undef)).toArray from congrArg Array.mk hl]
  rw [← e 4 _ a4, ← e 5 _ a5, ← e 8 _ a8, ← e 14 _ a14, ← e 15 _ a15, ← e 16 _ a16, ← e 17 _ a17]
  rfl
theorem put2 {w : World} {r : Nat} {a0 a1 : Value} {T : TypeId} (h : w.heap[r]? = some (.cells #[a0, a1] T (0, 0))) (v0 v1 : Value) : ((w.setCell ⟨r, 0, none⟩ v0).setCell ⟨r, 1, none⟩ v1).heap[r]? = some (.cells #[v0, v1] T (0, 0)) := by
  have hl := block_lt h
  rw [setCell_at h, setAt_setCell hl, setAt_same hl]
  rfl
theorem off2 (w : World) (r : Nat) (v0 v1 : Value) : Off (fun q => q = r) w ((w.setCell ⟨r, 0, none⟩ v0).setCell ⟨r, 1, none⟩ v1) :=
  ((Off.refl (fun q => q = r) w).setCell (p := ⟨r, 0, none⟩) (fun _ => rfl) _).setCell (p := ⟨r, 1, none⟩) (fun _ => rfl) _
end Go.Proofs.YtlnfhlmgnppcbaaGreat

/- Crew: what is kept of a route: the walk. -/
namespace Go.Proofs.YtlnfhlmgnppcbaaGreat
open Go.RowKit Go.ChangeShapes Go.WideShapes Go.Deep
set_option linter.unusedVariables false
set_option linter.unusedSimpArgs false
set_option maxRecDepth 8000
open Rd
theorem infoI3 : (Tryz.prog.info? 3).map (fun i => (i.zero, i.size, i.bytes)) = some (some (.int .i64 0), 1, 8) := by kernel_rfl
theorem wpList_append_I {ops : Array Oper} {rest : List Oper} {o : Oper} {a : Act} {Q : Exit → Act → World → Prop} (w : World) (hgd : o.guard = none) (x1 x2 : Operand) (ho : o.op = .call { callee := .builtin .append, args := #[x1, x2], argTypes := #[22, 22] })
    (base : Nat) (v : Value) (n : Nat) (F : Nat → Int) (hs : a.eval x1 = v) (h1 : IntRow w base v n F) (b1 : Nat) (x : Int) (hx : a.eval x2 = .slice (some ⟨b1, 0, none⟩) 1 1) (ob : TypeId) (fz : Nat × Nat) (hb1 : w.heap[b1]? = some (.cells #[.int .i64 x] ob fz)) (hn : n ≤ 1000000) (hb : base ≤ w.heap.size)
    (h : ∀ g cap w', n + 1 ≤ cap → cap ≤ 9223372036854775807 → g < w'.heap.size → (v.ownBlock = some g ∨ w.heap.size ≤ g) → IntRow w' base (.slice (some ⟨g, 0, none⟩) (n + 1) cap) (n + 1) (upd F n x) → Off (fun i => v.ownBlock = some i) w w' → wpList Tryz.prog ops Q rest (a.put o.dst (.slice (some ⟨g, 0, none⟩) (n + 1) cap)) w') : wpList Tryz.prog ops Q (o :: rest) a w := by
  obtain ⟨i0, hi, hz0, hz1, hz2⟩ := info_parts infoI3
  refine wpList_append_row w hgd x1 x2 22 ho base 3 i0 _ 1 8 Tryz.underlying22 hi hz0 hz1 hz2 rfl (by decide) v n (nf F) hs h1 (fun i => rfl) b1 1 [.int .i64 x] hx rfl ob fz hb1 (fun u hu => by obtain rfl := List.mem_singleton.1 hu; rfl) (by omega) (by unfold maxLen; omega) hb ?_
  intro g cap w' k1 k2 k3 k4 k5 r b
  refine h g cap w' k1 k2 k4 k5 (Row.congr r (fun i _ => ?_)) ((Off.of_grown b).mono (fun i _ h => by first | exact h | exact h.symm))
  show upd (nf F) n _ i = nf (upd F n x) i
  by_cases e : i = n
  · subst e; rw [upd_same]; simp [nf, upd]
  · rw [upd_ne e]; simp [nf, upd, e]
theorem ne_type {w : World} {a b : Nat} {c c' : Array Value} {T T' : TypeId} (h : w.heap[a]? = some (.cells c T (0, 0))) (h' : w.heap[b]? = some (.cells c' T' (0, 0))) (hT : T ≠ T') : a ≠ b := fun e => by
  subst e
  rw [h] at h'
  cases h'
  exact hT rfl
/-- What holds at the label, with the frame. -/
def CutR (g : Ng) (r : Int) (R : Nat → Int) (k : Nat) (ra : Option Addr) (rc : Nat) (w : World) (done now : Int) (a' : Act) (w' : World) : Prop :=
  lateE g r R k done now = 0 ∧ fitsB g (g.T r.toNat) ⟨atK g (g.T r.toNat) R done.toNat, loadK g R done.toNat, now⟩ = true ∧ ∃ (d j b14 b15 b16 : Nat) (v : Value), done = (d : Int) ∧ CutA w.heap.size (d + j) b14 b15 b16 a' ∧ CutJ g r R k ra rc w w.heap.size d now j b14 b15 b16 v w'
set_option maxHeartbeats 16000000 in
theorem cut23 (g : Ng) (r : Int) (R : Nat → Int) (k : Nat) (ra : Option Addr) (rc : Nat) (done now : Int) (w : World) (hg : g.In w) (hR : Sl w 1 ra k rc (nf R)) (hk : k ≤ 1000) :
    Calls Tryz.prog 23 #[.agg g.cells, .agg #[.int .i64 r, .slice ra k rc], .int .i64 done, .int .i64 now] w (CutW g r R k done now w) := by
  have HG := Lib.hid hg
  have HR := Lib.hid hR
  have HCC : Hid (g.cells = #[.int .i64 g.N, .slice g.ea g.em g.ec, .slice g.ta g.tn g.tc, .slice g.na g.nn g.nc, .int .i64 g.h]) := Lib.hid rfl
  clear hg hR
  go_enter Tryz.func23, Tryz.ntmps23
  rw [HCC.out]
  go_wp2_with fail
  refine wp_scope_label 0 (CutR g r R k ra rc w done now) (fun a' _ => k - (intOf (a'.tmps.getD 17 undef)).toNat) rfl ?pass ?first
  case pass =>
    rintro a' w1 ⟨hl, hf, d, j, b14, b15, b16, v, rfl, hA, hJ⟩
    obtain ⟨u, rfl⟩ := hA.eq
    clear hA
    obtain ⟨n, d', hw, hwz, hdd, hdk, hn0, hn1, hpn⟩ := late_ok hl
    obtain rfl : d' = d := by omega
    have hdt : ((d' : Int)).toNat = d' := Int.toNat_natCast _
    rw [hdt] at hf
    have hI := cut_inv hw hdk hn0 hf (j := j) hJ.le
    have hnw := cut_now_le hw hdk hn0 hf (j := j) hJ.le
    obtain ⟨ia, hia, hat⟩ := hI.at'
    have hroad := (nok_of (g := g) (by
      have h9 := hwz
      unfold walkE at h9
      split at h9
      · rename_i h1; exact absurd h9 h1
      · rename_i h1; exact Decidable.not_not.1 h1)).choose_spec.2
    have hatb : 0 ≤ (cutK g (g.T r.toNat) R d' now j).1.at' ∧ (cutK g (g.T r.toNat) R d' now j).1.at' < n := by
      rw [hat]; exact hw.ro.at (by have := hJ.le; omega)
    have htk := hw.ro.tk
    have hk16 := hw.ro.k16
    have hSm : (cutK g (g.T r.toNat) R d' now j).1.Small n := ⟨hatb, ⟨by have := hI.load; omega, by have := hI.load; omega⟩, ⟨by omega, by omega⟩⟩
    have HW := Lib.hid hw
    have HCE : Hid (cutE g r R k (d' : Int) now = 0) := Lib.hid (by unfold cutE; rw [if_neg (by rw [hl]; simp), hdt, if_neg (by rw [hf]; simp)])
    have HCL : Hid (d' + j = k → cutL g r R k (d' : Int) now = (cutK g (g.T r.toNat) R d' now j).2) := Lib.hid (fun h => by unfold cutL; rw [hdt, show k - d' = j by omega])
    have HLF := Lib.hid (And.intro hl (And.intro hdt hf))
    have HNX : Hid (∀ x, okB g (g.T r.toNat) (cutK g (g.T r.toNat) R d' now j).1 (R (d' + j)) = x → cutK g (g.T r.toNat) R d' now (j + 1) = if x = true then (servO g (cutK g (g.T r.toNat) R d' now j).1 (R (d' + j)), (cutK g (g.T r.toNat) R d' now j).2 ++ [R (d' + j)]) else cutK g (g.T r.toNat) R d' now j) := Lib.hid (fun x hx => by
      rw [cutK_succ]; unfold cutS; rw [hx])
    obtain ⟨jle, jnight, jroute, jres, jtk, jst, jout, jrow, jbel, jne⟩ := hJ
    have HJ1 := Lib.hid jnight
    have HJ2 := Lib.hid jroute
    have HJ3 := Lib.hid jres
    have HJ4 := Lib.hid jtk
    have HJ5 := Lib.hid jst
    have HJ6 := Lib.hid jout
    have HJ7 := Lib.hid jrow
    have HJ8 := Lib.hid jbel
    obtain ⟨_, jn1, jn2⟩ := jne
    have HLL := Lib.hid hI.len
    have SV := Lib.hid (fun w' (hb : Below w.heap.size w w') (hlt : d' + j < k) => serve54 g n (g.T r.toNat) (cutK g (g.T r.toNat) R d' now j).1 (R (d' + j)) w' hw.ro.ng hroad (HG.out.below hb).net hSm (hw.ro.needs _ hlt))
    have FI := Lib.hid (fun w' (hb : Below w.heap.size w w') (q : Cs) (hlt : d' + j < k) (hsv : servB g (g.T r.toNat) (cutK g (g.T r.toNat) R d' now j).1 (R (d' + j)) = true) (hq : q = servO g (cutK g (g.T r.toNat) R d' now j).1 (R (d' + j))) => by
      subst hq
      have hn := hw.ro.nd hlt
      have hs := of_decide_eq_true (by unfold servB at hsv; exact hsv)
      have hwk := hw.ro.work hlt
      have hbd := hw.ro.ng.S_bd hatb (g.nd (R (d' + j))).node
      have hhh := abs_mul (mv := (cutK g (g.T r.toNat) R d' now j).1.load + (g.nd (R (d' + j))).mv) (h := g.h) (by omega) (by omega) hw.ro.ng.h0 hw.ro.ng.h1
      exact fits52 g n (g.T r.toNat) (servO g (cutK g (g.T r.toNat) R d' now j).1 (R (d' + j))) w' hw.ro.ng hroad (HG.out.below hb).net ⟨hn.1, ⟨by show -1000 ≤ _ + _; omega, by show _ + _ ≤ (1000 : Int); omega⟩, ⟨by show -1000 ≤ _ + _ + _; omega, by show _ + _ + _ ≤ (10000000 : Int); omega⟩⟩ htk.1 ⟨by show _ ≤ (_ + _) * _; omega, by show (_ + _) * _ ≤ _; omega⟩)
    clear hl hf hw hwz hdd hI hnw hat hroad hatb hSm jnight jroute jres jtk jst jout jrow jbel hdt hpn
    unfold CutF
    generalize hca : cutK g (g.T r.toNat) R d' now j = ca at *
    obtain ⟨p, L⟩ := ca
    dsimp only at *
    generalize hSB : servB g (g.T r.toNat) p (R (d' + j)) = SB at *
    obtain ⟨P1, hP1⟩ : ∃ P1, P1 = servO g p (R (d' + j)) := ⟨_, rfl⟩
    rw [← hP1] at HNX SV FI
    have HP1 := Lib.hid hP1
    have HSB := Lib.hid hSB
    have HCA := Lib.hid hca
    clear hP1 hSB hca
    have tin : (intOf (.int .i64 ((d' + j : Nat) : Int))).toNat = d' + j := Int.toNat_natCast _
    have HTIN := Lib.hid tin
    clear tin
    generalize hjj : d' + j = jj at *
    have HJJ := Lib.hid hjj
    clear hjj
    obtain ⟨va, vc, rfl, vs⟩ := Row.toSl HJ7.out (fun _ => rfl)
    have hvm := vs.hm
    have hvc := vs.hc
    have HVS := Lib.hid vs
    clear vs
    have HR1 := Lib.hid (HR.out.below HJ8.out)
    have hRm := HR1.out.hm
    have hRc := HR1.out.hc
    have o0 := cell_at HJ6.out 0
    have o1 := cell_at HJ6.out 1
    have r0 := cell_at HJ2.out 0
    have r1 := cell_at HJ2.out 1
    have zr := szs (block_lt HJ2.out)
    have zo := szs (block_lt HJ6.out)
    by_cases he : jj = k
    · have te : ((jj : Int) == (k : Int)) = true := by simp; omega
      have m0 := cell_at HJ3.out 0
      have m1 := cell_at HJ3.out 1
      have fr := fun j => free_at HJ3.out j
      have zm := szs (block_lt HJ3.out)
      go_wp2_with fail
      show bodyPost _ _ _ Exit.ret _ _
      have KZ := put2 HJ3.out (.int .i64 r) (.slice va L.length vc)
      have OZ := off2 w1 (w.heap.size + 1 + 1) (.int .i64 r) (.slice va L.length vc)
      have RZ := Lib.hid (Row.off HJ7.out OZ (fun gg hgg h => Row.ne HJ7.out hgg HJ3.out (by decide) h))
      have BZ := Lib.hid (HJ8.out.trans (OZ.toBelow HJ8.out.size (fun q hq h => by have h : q = w.heap.size + 1 + 1 := h; omega)))
      clear fr zm m0 m1 o0 o1 r0 r1 zr zo OZ HJ7 HJ8 HJ3
      generalize World.setCell (World.setCell w1 _ _) _ _ = w9 at *
      have k0 := cell_at KZ 0
      have k1 := cell_at KZ 1
      have zk := szs (block_lt KZ)
      exact bodyPost_ret (v := .tuple #[.agg #[.int .i64 r, .slice va L.length vc], .int .i64 0]) (by simp [results, Tryz.results23, go_sem, k0, k1]) rfl ⟨BZ.out, .inr ⟨HCE.out, _, rfl, by rw [HCL.out he]; exact RZ.out⟩⟩
    · have te : ((jj : Int) == (k : Int)) = false := by simp; omega
      have tlt : (jj : Int) < (k : Int) := by omega
      have hlt : jj < k := by omega
      have hneed := HW.out.ro.needs jj hlt
      obtain ⟨rb, ro, rfl, hgr, e0⟩ := HR1.out.num hlt
      have zg := szs hgr
      obtain ⟨m, hm⟩ := Int.eq_ofNat_of_zero_le hneed.1
      have hmn : m < g.nn := by omega
      have tmn : (m : Int) < (g.nn : Int) := by omega
      obtain ⟨nb, no, hna, hgn, q0, q1⟩ := ((HG.out.below HJ8.out).needs).nd hmn
      have zn := szs hgn
      have hnm := HG.out.needs.hm
      have hnc := HG.out.needs.hc
      have end' : g.nd (m : Int) = g.D m := by unfold Ng.nd; rw [Int.toNat_natCast]
      have SV1 := Lib.hid (fun w' (hb : Below w1.heap.size w1 w') => SV.out w' (HJ8.out.trans (hb.mono HJ8.out.size)) hlt)
      have HRJ := Lib.hid hm
      rw [hm] at SV1 e0
      have HCN : Hid (g.cells = #[.int .i64 g.N, .slice g.ea g.em g.ec, .slice g.ta g.tn g.tc, .slice (some ⟨nb, no, none⟩) g.nn g.nc, .int .i64 g.h]) := Lib.hid (by rw [HCC.out, hna])
      rw [end', HCN.out] at SV1
      rw [HCN.out] at HJ1
      obtain ⟨tk, htk'⟩ : ∃ tk, tk = g.T r.toNat := ⟨_, rfl⟩
      have HTK := Lib.hid htk'
      rw [← htk'] at SV1 HJ4
      generalize hnd : g.D m = x at *
      obtain ⟨nd, mv⟩ := x
      obtain ⟨p1, p2, p3⟩ := p
      obtain ⟨d1, d2, d3, d4⟩ := tk
      unfold tkC ndC cpC at SV1
      unfold tkC at HJ4
      unfold cpC at HJ5
      dsimp only at SV1 HJ4 HJ5 q0 q1
      have n0 := cell_at HJ1.out 0
      have n1 := cell_at HJ1.out 1
      have n2 := cell_at HJ1.out 2
      have n3 := cell_at HJ1.out 3
      have n4 := cell_at HJ1.out 4
      have t0 := cell_at HJ4.out 0
      have t1 := cell_at HJ4.out 1
      have t2 := cell_at HJ4.out 2
      have t3 := cell_at HJ4.out 3
      have s0 := cell_at HJ5.out 0
      have s1 := cell_at HJ5.out 1
      have s2 := cell_at HJ5.out 2
      have HOK : Hid (okB g (g.T r.toNat) ⟨p1, p2, p3⟩ (R jj) = (SB && fitsB g (g.T r.toNat) P1)) := Lib.hid (by unfold okB; rw [HSB.out, ← HP1.out])
      clear hneed hna end' htk' hnd HCL htk SV hm HSB HP1
      go_wp2_with fail
      clear o0 o1 zo zr
      (obtain ⟨ι, hne, Fw, fb, hF⟩ := grow_family w1); have hF : ∀ w', (sPlan w1 (fun s => ∃ q : Cs, s = [.tuple #[.agg #[.int .i64 q.at', .int .i64 q.load, .int .i64 q.now], .bool SB]] ∧ (SB = true → q = P1)) [12] [(16, fun b => .pointer (some ⟨b, 0, none⟩), .cells #[.int .i64 0, .int .i64 0, .int .i64 0] 113)] [(17, 16)]).D [] w' → ∃ i, w' = Fw i := hF
      have fn0 := fun i => cell_kept (fb i) n0
      have fn1 := fun i => cell_kept (fb i) n1
      have fn2 := fun i => cell_kept (fb i) n2
      have fn3 := fun i => cell_kept (fb i) n3
      have fn4 := fun i => cell_kept (fb i) n4
      have ft0 := fun i => cell_kept (fb i) t0
      have ft1 := fun i => cell_kept (fb i) t1
      have ft2 := fun i => cell_kept (fb i) t2
      have ft3 := fun i => cell_kept (fb i) t3
      have fs0 := fun i => cell_kept (fb i) s0
      have fs1 := fun i => cell_kept (fb i) s1
      have fs2 := fun i => cell_kept (fb i) s2
      have fr0 := fun i => cell_kept (fb i) r0
      have fr1 := fun i => cell_kept (fb i) r1
      have fe0 := fun i => cell_kept (fb i) e0
      have fq0 := fun i => cell_kept (fb i) q0
      have fq1 := fun i => cell_kept (fb i) q1
      clear n0 n1 n2 n3 n4 t0 t1 t2 t3 s0 s1 s2 r0 r1 e0 q0 q1
      (refine region_chainO (sPlan w1 (fun s => ∃ q : Cs, s = [.tuple #[.agg #[.int .i64 q.at', .int .i64 q.load, .int .i64 q.now], .bool SB]] ∧ (SB = true → q = P1)) [12] [(16, fun b => .pointer (some ⟨b, 0, none⟩), .cells #[.int .i64 0, .int .i64 0, .int .i64 0] 113)] [(17, 16)]) [] [] [0, 1, 2, 3, 4, 5, 6, 7, 8, 9, 10, 11, 16, 12, 13, 14, 15, 17, 18] [] mixed (by kernel_rfl) (by kernel_rfl) (fun _ _ h => nomatch h) (sPlan_ok (by simp) (by simp)) sPlan_start ?_; refine wpPure_nil ?_; simp only [List.map_cons, List.map_nil, Array.getD_eq_getD_getElem?, List.getElem?_toArray, List.getElem?_cons_zero, List.getElem?_cons_succ, Option.getD_some])
      (repeat (first | (refine wpChainO_skip rfl ?_; simp only [Act.put, List.setIfInBounds_toArray, List.set_cons_succ, List.set_cons_zero]) | (refine wpChainO_quiet hF rfl rfl rfl ?_; intro K hK; go_big_quiet_op; go_big_quiet_on) | (refine wpChainO_pure _ rfl rfl (fun w' _ => by go_simp; try rfl) ?_; simp only [Act.put, List.setIfInBounds_toArray, List.set_cons_succ, List.set_cons_zero])))
      (refine wpChainO_alloc _ _ rfl (List.mem_cons_self ..) rfl (fun w' => by go_simp) (fun b18 hb18 => ?_); simp only [Act.put, List.setIfInBounds_toArray, List.set_cons_succ, List.set_cons_zero])
      (repeat (first | (refine wpChainO_skip rfl ?_; simp only [Act.put, List.setIfInBounds_toArray, List.set_cons_succ, List.set_cons_zero]) | (refine wpChainO_quiet hF rfl rfl rfl ?_; intro K hK; go_big_quiet_op; go_big_quiet_on) | (refine wpChainO_pure _ rfl rfl (fun w' _ => by go_simp; try rfl) ?_; simp only [Act.put, List.setIfInBounds_toArray, List.set_cons_succ, List.set_cons_zero])))
      refine wpChainO_scall 54 #[.agg #[.int .i64 p1, .int .i64 p2, .int .i64 p3], .agg #[.int .i64 g.N, .slice g.ea g.em g.ec, .slice g.ta g.tn g.tc, .slice (some ⟨nb, no, none⟩) g.nn g.nc, .int .i64 g.h], .agg #[.int .i64 d1, .int .i64 d2, .int .i64 d3, .int .i64 d4], .agg #[.int .i64 nd, .int .i64 mv]] rfl rfl (fun w' => by go_simp) (fun w' hb => ?_) ?_
      · refine (SV1.out w' hb).mono ?_
        rintro e w5 ⟨q, rfl, hq, hb5⟩
        exact ⟨_, rfl, ⟨q, rfl, hq⟩, hb5⟩
      rintro u1 ⟨q, hu, hq⟩
      cases hu
      have HQ := Lib.hid hq
      clear hq
      obtain ⟨y1, y2, y3⟩ := q
      simp only [Act.put, List.setIfInBounds_toArray, List.set_cons_succ, List.set_cons_zero]
      (repeat (first | (refine wpChainO_skip rfl ?_; simp only [Act.put, List.setIfInBounds_toArray, List.set_cons_succ, List.set_cons_zero]) | (refine wpChainO_quiet hF rfl rfl rfl ?_; intro K hK; go_big_quiet_op; go_big_quiet_on) | (refine wpChainO_pure _ rfl rfl (fun w' _ => by go_simp; try rfl) ?_; simp only [Act.put, List.setIfInBounds_toArray, List.set_cons_succ, List.set_cons_zero])))
      (refine wpChainO_store 16 b18 (.cells #[.int .i64 0, .int .i64 0, .int .i64 0] 113) (.cells #[.int .i64 y1, .int .i64 y2, .int .i64 y3] 113) rfl (by simp [sPlan]) (by simp [setB]) (by simp [setB]) rfl (fun w' hw' => by have c0 := cell_at hw' 0; have c1 := cell_at hw' 1; have c2 := cell_at hw' 2; have g0 := free_at hw'; have hlt := block_lt hw'; go_simp; rw [setCell_at hw', setAt_setCell hlt, setAt_setCell hlt]; rfl) ?_; simp only [Act.put, List.setIfInBounds_toArray, List.set_cons_succ, List.set_cons_zero])
      (repeat (first | (refine wpChainO_skip rfl ?_; simp only [Act.put, List.setIfInBounds_toArray, List.set_cons_succ, List.set_cons_zero]) | (refine wpChainO_quiet hF rfl rfl rfl ?_; intro K hK; go_big_quiet_op; go_big_quiet_on) | (refine wpChainO_pure _ rfl rfl (fun w' _ => by go_simp; try rfl) ?_; simp only [Act.put, List.setIfInBounds_toArray, List.set_cons_succ, List.set_cons_zero])))
      refine wpChainO_nil (fun w9 hb9 hl9 => ?_)
      have b9 : Below w1.heap.size w1 w9 := hb9
      have X18 := Lib.hid (hl9.1.2 (16, b18, .cells #[.int .i64 y1, .int .i64 y2, .int .i64 y3] 113) (by simp [setB])).2
      have G18 := Lib.hid (hl9.1.2 (16, b18, .cells #[.int .i64 y1, .int .i64 y2, .int .i64 y3] 113) (by simp [setB])).1
      replace HJ1 := Lib.hid ((b9.block _ (block_lt HJ1.out)).trans HJ1.out)
      replace HJ2 := Lib.hid ((b9.block _ (block_lt HJ2.out)).trans HJ2.out)
      replace HJ3 := Lib.hid ((b9.block _ (block_lt HJ3.out)).trans HJ3.out)
      replace HJ4 := Lib.hid ((b9.block _ (block_lt HJ4.out)).trans HJ4.out)
      have G5 := Lib.hid (block_lt HJ5.out)
      have G6 := Lib.hid (block_lt HJ6.out)
      replace HJ5 := Lib.hid ((b9.block _ (block_lt HJ5.out)).trans HJ5.out)
      replace HJ6 := Lib.hid ((b9.block _ (block_lt HJ6.out)).trans HJ6.out)
      replace HJ7 := Lib.hid (Row.off (X := fun _ => False) HJ7.out (Off.of_below b9) (fun _ _ h => h))
      replace HR1 := Lib.hid (HR1.out.below b9)
      replace HJ8 := Lib.hid (HJ8.out.trans (b9.mono HJ8.out.size))
      clear hb9 hl9 hF fb hne b9 fn0 fn1 fn2 fn3 fn4 ft0 ft1 ft2 ft3 fs0 fs1 fs2 fr0 fr1 fe0 fq0 fq1 zg zn SV1
      refine onlyN_intro ?_
      cases SB with
      | false =>
        have HOKF : Hid (okB g (g.T r.toNat) ⟨p1, p2, p3⟩ (R jj) = false) := Lib.hid (by rw [HOK.out]; rfl)
        go_wp2_with fail
        go_step3
        refine ⟨rfl, ⟨HLF.out.1, (by rw [HLF.out.2.1]; exact HLF.out.2.2), d', j + 1, b14, b15, b16, .slice va L.length vc, rfl, ⟨rfl, rfl, rfl, rfl, rfl, rfl, rfl, rfl, ?a17⟩, ?J⟩, ?m⟩
        case a17 =>
          show some (Value.int .i64 ((jj : Int) + 1)) = some (Value.int .i64 ((d' + (j + 1) : Nat) : Int))
          rw [← Nat.add_assoc, HJJ.out]; rfl
        case m =>
          show k - ((jj : Int) + 1).toNat < k - ((jj : Int)).toNat
          omega
        case J =>
          have HN1 := HNX.out false HOKF.out
          rw [if_neg (by simp)] at HN1
          exact ⟨by have := HJJ.out; omega, by rw [HCN.out]; exact HJ1.out, HJ2.out, HJ3.out, by rw [← HTK.out]; exact HJ4.out, by rw [HN1]; exact HJ5.out, HJ6.out, by rw [HN1]; exact HJ7.out, HJ8.out, ⟨rfl, jn1, jn2⟩⟩
      | true =>
        have FI1 := Lib.hid (FI.out w9 HJ8.out ⟨y1, y2, y3⟩ hlt rfl (HQ.out rfl))
        have HPE : Hid (P1 = ⟨y1, y2, y3⟩) := Lib.hid (HQ.out rfl).symm
        obtain ⟨F, hF⟩ : ∃ F, F = fitsB g (g.T r.toNat) P1 := ⟨_, rfl⟩
        rw [← hF] at FI1 HOK
        rw [HPE.out, HCN.out, ← HTK.out] at FI1
        unfold cpC tkC at FI1
        dsimp only at FI1
        have x0 := cell_at X18.out 0
        have x1 := cell_at X18.out 1
        have x2 := cell_at X18.out 2
        have n0 := cell_at HJ1.out 0
        have n1 := cell_at HJ1.out 1
        have n2 := cell_at HJ1.out 2
        have n3 := cell_at HJ1.out 3
        have n4 := cell_at HJ1.out 4
        have t0 := cell_at HJ4.out 0
        have t1 := cell_at HJ4.out 1
        have t2 := cell_at HJ4.out 2
        have t3 := cell_at HJ4.out 3
        have zx := szs (block_lt X18.out)
        have zn := szs (block_lt HJ1.out)
        have zt := szs (block_lt HJ4.out)
        clear hF HQ FI
        go_wp2_with fail
        refine FI1.out.mono ?_
        rintro e w10 ⟨rfl, b10⟩
        clear FI1 x0 x1 x2 n0 n1 n2 n3 n4 t0 t1 t2 t3 zx zn zt
        replace HJ1 := Lib.hid ((b10.block _ (block_lt HJ1.out)).trans HJ1.out)
        replace HJ2 := Lib.hid ((b10.block _ (block_lt HJ2.out)).trans HJ2.out)
        replace HJ3 := Lib.hid ((b10.block _ (block_lt HJ3.out)).trans HJ3.out)
        replace HJ4 := Lib.hid ((b10.block _ (block_lt HJ4.out)).trans HJ4.out)
        replace HJ5 := Lib.hid ((b10.block _ (block_lt HJ5.out)).trans HJ5.out)
        replace HJ6 := Lib.hid ((b10.block _ (block_lt HJ6.out)).trans HJ6.out)
        replace HJ7 := Lib.hid (Row.off (X := fun _ => False) HJ7.out (Off.of_below b10) (fun _ _ h => h))
        replace HR1 := Lib.hid (HR1.out.below b10)
        replace HJ8 := Lib.hid (HJ8.out.trans (b10.mono HJ8.out.size))
        replace X18 := Lib.hid ((b10.block _ (block_lt X18.out)).trans X18.out)
        clear b10
        cases F with
        | false =>
          have HOKF : Hid (okB g (g.T r.toNat) ⟨p1, p2, p3⟩ (R jj) = false) := Lib.hid (by rw [HOK.out]; rfl)
          go_wp2_with fail
          go_step3
          refine ⟨rfl, ⟨HLF.out.1, (by rw [HLF.out.2.1]; exact HLF.out.2.2), d', j + 1, b14, b15, b16, .slice va L.length vc, rfl, ⟨rfl, rfl, rfl, rfl, rfl, rfl, rfl, rfl, ?a17⟩, ?J⟩, ?m⟩
          case a17 =>
            show some (Value.int .i64 ((jj : Int) + 1)) = some (Value.int .i64 ((d' + (j + 1) : Nat) : Int))
            rw [← Nat.add_assoc, HJJ.out]; rfl
          case m =>
            show k - ((jj : Int) + 1).toNat < k - ((jj : Int)).toNat
            omega
          case J =>
            have HN1 := HNX.out false HOKF.out
            rw [if_neg (by simp)] at HN1
            exact ⟨by have := HJJ.out; omega, by rw [HCN.out]; exact HJ1.out, HJ2.out, HJ3.out, by rw [← HTK.out]; exact HJ4.out, by rw [HN1]; exact HJ5.out, HJ6.out, by rw [HN1]; exact HJ7.out, HJ8.out, ⟨rfl, jn1, jn2⟩⟩
        | true =>
          have HOKF : Hid (okB g (g.T r.toNat) ⟨p1, p2, p3⟩ (R jj) = true) := Lib.hid (by rw [HOK.out]; rfl)
          have o0 := cell_at HJ6.out 0
          have o1 := cell_at HJ6.out 1
          have r0 := cell_at HJ2.out 0
          have r1 := cell_at HJ2.out 1
          obtain ⟨_, _, e9, hgr, e0⟩ := HR1.out.num hlt
          cases e9
          rw [HRJ.out] at e0
          go_wp2_with fail
          (obtain ⟨ι, hne, Fw, fb, hF⟩ := grow_family w10); have hF : ∀ w', (sPlan w10 (fun _ => False) [] [(7, fun b => .slice (some ⟨b, 0, none⟩) 1 1, .cells #[.int .i64 (m : Int)] 3)] []).D [] w' → ∃ i, w' = Fw i := hF
          have fo0 := fun i => cell_kept (fb i) o0
          have fo1 := fun i => cell_kept (fb i) o1
          have fr0 := fun i => cell_kept (fb i) r0
          have fr1 := fun i => cell_kept (fb i) r1
          have fe0 := fun i => cell_kept (fb i) e0
          clear o0 o1 r0 r1 e0 hgr
          (refine region_chainO (sPlan w10 (fun _ => False) [] [(7, fun b => .slice (some ⟨b, 0, none⟩) 1 1, .cells #[.int .i64 (m : Int)] 3)] []) [] [] [0, 1, 2, 3, 4, 5, 6, 7] [8, 9, 10] mixed (by kernel_rfl) (by kernel_rfl) (fun _ _ h => nomatch h) (sPlan_ok (by simp) (by simp)) sPlan_start ?_; refine wpPure_nil ?_; simp only [List.map_cons, List.map_nil, Array.getD_eq_getD_getElem?, List.getElem?_toArray, List.getElem?_cons_zero, List.getElem?_cons_succ, Option.getD_some])
          (repeat (first | (refine wpChainO_skip rfl ?_; simp only [Act.put, List.setIfInBounds_toArray, List.set_cons_succ, List.set_cons_zero]) | (refine wpChainO_quiet hF rfl rfl rfl ?_; intro K hK; go_big_quiet_op; go_big_quiet_on) | (refine wpChainO_pure _ rfl rfl (fun w' _ => by go_simp; try rfl) ?_; simp only [Act.put, List.setIfInBounds_toArray, List.set_cons_succ, List.set_cons_zero])))
          (refine wpChainO_alloc _ _ rfl (List.mem_cons_self ..) rfl (fun w' => by go_simp) (fun b7 hb7 => ?_); simp only [Act.put, List.setIfInBounds_toArray, List.set_cons_succ, List.set_cons_zero])
          refine wpChainO_nil (fun w11 hb11 hl11 => ?_)
          have b11 : Below w10.heap.size w10 w11 := hb11
          have X7 := Lib.hid (hl11.1.2 (7, b7, .cells #[.int .i64 (m : Int)] 3) (by simp)).2
          have G7 : Hid (∀ b cs T, w10.heap[b]? = some (.cells cs T (0, 0)) → b < w10.heap.size) := Lib.hid (fun b cs T h => block_lt h)
          replace HJ1 := Lib.hid ((b11.block _ (block_lt HJ1.out)).trans HJ1.out)
          replace HJ2 := Lib.hid ((b11.block _ (block_lt HJ2.out)).trans HJ2.out)
          replace HJ3 := Lib.hid ((b11.block _ (block_lt HJ3.out)).trans HJ3.out)
          replace HJ4 := Lib.hid ((b11.block _ (block_lt HJ4.out)).trans HJ4.out)
          replace HJ5 := Lib.hid ((b11.block _ (block_lt HJ5.out)).trans HJ5.out)
          replace HJ6 := Lib.hid ((b11.block _ (block_lt HJ6.out)).trans HJ6.out)
          replace HJ7 := Lib.hid (Row.off (X := fun _ => False) HJ7.out (Off.of_below b11) (fun _ _ h => h))
          replace HR1 := Lib.hid (HR1.out.below b11)
          replace HJ8 := Lib.hid (HJ8.out.trans (b11.mono HJ8.out.size))
          replace X18 := Lib.hid ((b11.block _ (block_lt X18.out)).trans X18.out)
          clear hb11 hl11 hF fb hne b11 fo0 fo1 fr0 fr1 fe0 G7
          have hle : w.heap.size ≤ w11.heap.size := HJ8.out.size
          go_wp2_with (at_builtin; go_loud (refine wpList_append_I _ rfl (.tmp 110) (.tmp 116) rfl w.heap.size _ L.length (fun i => L.getD i 0) rfl HJ7.out b7 (m : Int) rfl 3 (0, 0) X7.out (by have := HLL.out; omega) hle ?_))
          intro g12 cap12 w12 c1 c2 c3 c4 r12 o12
          replace HJ1 := Lib.hid ((o12.block _ (block_lt HJ1.out) (fun h => Row.ne HJ7.out h HJ1.out (by decide) rfl)).trans HJ1.out)
          replace HJ2 := Lib.hid ((o12.block _ (block_lt HJ2.out) (fun h => Row.ne HJ7.out h HJ2.out (by decide) rfl)).trans HJ2.out)
          replace HJ3 := Lib.hid ((o12.block _ (block_lt HJ3.out) (fun h => Row.ne HJ7.out h HJ3.out (by decide) rfl)).trans HJ3.out)
          replace HJ4 := Lib.hid ((o12.block _ (block_lt HJ4.out) (fun h => Row.ne HJ7.out h HJ4.out (by decide) rfl)).trans HJ4.out)
          replace HJ5 := Lib.hid ((o12.block _ (block_lt HJ5.out) (fun h => Row.ne HJ7.out h HJ5.out (by decide) rfl)).trans HJ5.out)
          replace HJ6 := Lib.hid ((o12.block _ (block_lt HJ6.out) (fun h => Row.ne HJ7.out h HJ6.out (by decide) rfl)).trans HJ6.out)
          replace X18 := Lib.hid ((o12.block _ (block_lt X18.out) (fun h => Row.ne HJ7.out h X18.out (by decide) rfl)).trans X18.out)
          replace HJ8 := Lib.hid (HJ8.out.trans (o12.toBelow HJ8.out.size (fun q hq h => by have := (World.ownsRow.lt HJ7.out q h).1; omega)))
          have R12 := Lib.hid r12
          have o0 := cell_at HJ6.out 0
          have o1 := cell_at HJ6.out 1
          have fr := fun j => free_at HJ6.out j
          have zo := szs (block_lt HJ6.out)
          clear r12 o12 HJ7 HR1 X7 c4 hle
          go_wp2_with fail
          have o13 : Off (fun q => q = b16) w12 (w12.setCell ⟨b16, 1, none⟩ (.slice (some ⟨g12, 0, none⟩) (L.length + 1) cap12)) := (Off.refl (fun q => q = b16) w12).setCell (p := ⟨b16, 1, none⟩) (fun _ => rfl) _
          have h6 : (w12.setCell ⟨b16, 1, none⟩ (.slice (some ⟨g12, 0, none⟩) (L.length + 1) cap12)).heap[b16]? = some (.cells #[.int .i64 r, .slice (some ⟨g12, 0, none⟩) (L.length + 1) cap12] 51 (0, 0)) := by
            rw [setCell_at HJ6.out, setAt_same (block_lt HJ6.out)]; rfl
          replace HJ1 := Lib.hid ((o13.block _ (block_lt HJ1.out) (ne_type HJ1.out HJ6.out (by decide))).trans HJ1.out)
          replace HJ2 := Lib.hid ((o13.block _ (block_lt HJ2.out) (fun h => by have h : w.heap.size + 1 = b16 := h; omega)).trans HJ2.out)
          replace HJ3 := Lib.hid ((o13.block _ (block_lt HJ3.out) (fun h => by have h : w.heap.size + 1 + 1 = b16 := h; omega)).trans HJ3.out)
          replace HJ4 := Lib.hid ((o13.block _ (block_lt HJ4.out) (ne_type HJ4.out HJ6.out (by decide))).trans HJ4.out)
          replace HJ5 := Lib.hid ((o13.block _ (block_lt HJ5.out) (ne_type HJ5.out HJ6.out (by decide))).trans HJ5.out)
          replace X18 := Lib.hid ((o13.block _ (block_lt X18.out) (ne_type X18.out HJ6.out (by decide))).trans X18.out)
          replace R12 := Lib.hid (Row.off R12.out o13 (fun gg hgg h => Row.ne R12.out hgg HJ6.out (by decide) h))
          replace HJ8 := Lib.hid (HJ8.out.trans (o13.toBelow HJ8.out.size (fun q hq h => by have h : q = b16 := h; omega)))
          replace HJ6 := Lib.hid h6
          clear o0 o1 fr zo h6 o13
          generalize w12.setCell ⟨b16, 1, none⟩ (.slice (some ⟨g12, 0, none⟩) (L.length + 1) cap12) = w13 at *
          refine onlyN_intro ?_
          have x0 := cell_at X18.out 0
          have x1 := cell_at X18.out 1
          have x2 := cell_at X18.out 2
          have s0 := cell_at HJ5.out 0
          have s1 := cell_at HJ5.out 1
          have s2 := cell_at HJ5.out 2
          have fr := fun j => free_at HJ5.out j
          have zx := szs (block_lt X18.out)
          have zs := szs (block_lt HJ5.out)
          go_wp2_with fail
          have o14 := off3 w13 b15 (.int .i64 y1) (.int .i64 y2) (.int .i64 y3)
          have h5 := put3 HJ5.out (.int .i64 y1) (.int .i64 y2) (.int .i64 y3)
          replace HJ1 := Lib.hid ((o14.block _ (block_lt HJ1.out) (ne_type HJ1.out HJ5.out (by decide))).trans HJ1.out)
          replace HJ2 := Lib.hid ((o14.block _ (block_lt HJ2.out) (ne_type HJ2.out HJ5.out (by decide))).trans HJ2.out)
          replace HJ3 := Lib.hid ((o14.block _ (block_lt HJ3.out) (ne_type HJ3.out HJ5.out (by decide))).trans HJ3.out)
          replace HJ4 := Lib.hid ((o14.block _ (block_lt HJ4.out) (ne_type HJ4.out HJ5.out (by decide))).trans HJ4.out)
          replace HJ6 := Lib.hid ((o14.block _ (block_lt HJ6.out) (ne_type HJ6.out HJ5.out (by decide))).trans HJ6.out)
          replace R12 := Lib.hid (Row.off R12.out o14 (fun gg hgg h => Row.ne R12.out hgg HJ5.out (by decide) h))
          replace HJ8 := Lib.hid (HJ8.out.trans (o14.toBelow HJ8.out.size (fun q hq h => by have h : q = b15 := h; omega)))
          replace HJ5 := Lib.hid h5
          clear x0 x1 x2 s0 s1 s2 fr zx zs o14 h5
          generalize World.setCell (World.setCell (World.setCell w13 _ _) _ _) _ _ = w14 at *
          go_step3
          refine ⟨rfl, ⟨HLF.out.1, (by rw [HLF.out.2.1]; exact HLF.out.2.2), d', j + 1, b14, b15, b16, .slice (some ⟨g12, 0, none⟩) (L.length + 1) cap12, rfl, ⟨rfl, rfl, rfl, rfl, rfl, rfl, rfl, rfl, ?a17⟩, ?J⟩, ?m⟩
          case a17 =>
            show some (Value.int .i64 ((jj : Int) + 1)) = some (Value.int .i64 ((d' + (j + 1) : Nat) : Int))
            rw [← Nat.add_assoc, HJJ.out]; rfl
          case m =>
            show k - ((jj : Int) + 1).toNat < k - ((jj : Int)).toNat
            omega
          case J =>
            have HN1 := HNX.out true HOKF.out
            rw [if_pos rfl] at HN1
            have hrow : IntRow w14 w.heap.size (.slice (some ⟨g12, 0, none⟩) (L.length + 1) cap12) (L ++ [R jj]).length (fun i => (L ++ [R jj]).getD i 0) := by
              rw [List.length_append, List.length_singleton]
              refine Row.congr R12.out (fun i hi => ?_)
              unfold nf
              congr 2
              by_cases e : i = L.length
              · subst e; rw [upd_same, HRJ.out]; simp
              · rw [upd_ne e]; simp [List.getD, List.getElem?_append_left (show i < L.length by omega)]
            exact ⟨by have := HJJ.out; omega, by rw [HCN.out]; exact HJ1.out, HJ2.out, HJ3.out, by rw [← HTK.out]; exact HJ4.out, by rw [HN1, HPE.out]; exact HJ5.out, HJ6.out, by rw [HN1]; exact hrow, HJ8.out, ⟨rfl, jn1, jn2⟩⟩
  case first =>
    intro PASS
    replace PASS := Lib.hid PASS
    have BB : Hid (Below w.heap.size w (((w.alloc (.cells g.cells 32)).alloc (.cells #[.int .i64 r, .slice ra k rc] 51)).alloc (.cells #[.int .i64 0, .slice none 0 0] 51))) := Lib.hid (by (repeat' (first | (with_reducible exact Below.refl _ _) | (with_reducible assumption) | (with_reducible refine Below.drew ?_) | (with_reducible refine below_drewN ?_ _) | (with_reducible refine Below.alloc ?_ ?_ _) | (with_reducible refine Below.setCell ?_ ?_ _) | go_size)))
    have HJ1 := Lib.hid (al_keep (al_keep (al_at w (.cells g.cells 32) rfl) (.cells #[.int .i64 r, .slice ra k rc] 51)) (.cells #[.int .i64 0, .slice none 0 0] 51))
    have HJ2 := Lib.hid (al_keep (al_at (w.alloc (.cells g.cells 32)) (.cells #[.int .i64 r, .slice ra k rc] 51) (k := w.heap.size + 1) (by simp)) (.cells #[.int .i64 0, .slice none 0 0] 51))
    have HJ3 := Lib.hid (al_at ((w.alloc (.cells g.cells 32)).alloc (.cells #[.int .i64 r, .slice ra k rc] 51)) (.cells #[.int .i64 0, .slice none 0 0] 51) (k := w.heap.size + 1 + 1) (by simp))
    obtain ⟨w1, hw1⟩ : ∃ w1, w1 = ((w.alloc (.cells g.cells 32)).alloc (.cells #[.int .i64 r, .slice ra k rc] 51)).alloc (.cells #[.int .i64 0, .slice none 0 0] 51) := ⟨_, rfl⟩
    rw [← hw1] at BB HJ1 HJ2 HJ3
    have HW1 := Lib.hid hw1
    have WK := Lib.hid (late49 g r R k ra rc done now w1 (HG.out.below BB.out) (HR.out.below BB.out) hk)
    rw [HCC.out] at WK HJ1 HW1
    have HG1 := Lib.hid (HG.out.below BB.out)
    have htm := HG.out.trucks.hm
    have htc := HG.out.trucks.hc
    have hnm := HG.out.needs.hm
    have hnc := HG.out.needs.hc
    have hrm := HR.out.hm
    have hrc := HR.out.hc
    obtain ⟨E, hE⟩ : ∃ E, E = lateE g r R k done now := ⟨_, rfl⟩
    have HE := Lib.hid hE
    clear hw1 hE
    go_wp2_with fail
    rw [← HW1.out]
    have n0 := cell_at HJ1.out 0
    have n1 := cell_at HJ1.out 1
    have n2 := cell_at HJ1.out 2
    have n3 := cell_at HJ1.out 3
    have n4 := cell_at HJ1.out 4
    have r0 := cell_at HJ2.out 0
    have r1 := cell_at HJ2.out 1
    have zn := szs (block_lt HJ1.out)
    have zr := szs (block_lt HJ2.out)
    go_wp2_with fail
    refine WK.out.mono ?_
    rintro e w2 ⟨b2, ⟨hne, rfl⟩ | ⟨hz, vv, rfl, hV⟩⟩
    · have B2 := Lib.hid (BB.out.trans (b2.mono BB.out.size))
      rw [← HE.out] at hne
      rw [← HE.out]
      have te : (E != 0) = true := by simpa using hne
      have HN := Lib.hid hne
      have HCE : Hid (cutE g r R k done now = E) := Lib.hid (by unfold cutE; rw [if_pos (by rw [← HE.out]; exact hne)]; exact HE.out.symm)
      replace HJ3 := Lib.hid ((b2.block _ (block_lt HJ3.out)).trans HJ3.out)
      clear WK hne b2 n0 n1 n2 n3 n4 r0 r1 zn zr
      have m0 := cell_at HJ3.out 0
      have m1 := cell_at HJ3.out 1
      have fr := fun j => free_at HJ3.out j
      have zm := szs (block_lt HJ3.out)
      go_wp2_with fail
      show bodyPost _ _ _ Exit.ret _ _
      have KZ := put2 HJ3.out (.int .i64 0) (.slice none 0 0)
      have OZ := off2 w2 (w.heap.size + 1 + 1) (.int .i64 0) (.slice none 0 0)
      have BZ := Lib.hid (B2.out.trans (OZ.toBelow B2.out.size (fun q hq h => by have h : q = w.heap.size + 1 + 1 := h; omega)))
      clear fr zm m0 m1 OZ HJ3
      generalize World.setCell (World.setCell w2 _ _) _ _ = w9 at *
      have k0 := cell_at KZ 0
      have k1 := cell_at KZ 1
      have zk := szs (block_lt KZ)
      exact bodyPost_ret (v := .tuple #[.agg #[.int .i64 0, .slice none 0 0], .int .i64 E]) (by simp [results, Tryz.results23, go_sem, k0, k1]) rfl ⟨BZ.out, .inl ⟨by rw [HCE.out]; exact HN.out, by rw [HCE.out]⟩⟩
    · have B5 := Lib.hid (BB.out.trans (b2.mono BB.out.size))
      obtain ⟨n, d, hw, hwz, rfl, hdk, hn0, hn1, hpn⟩ := late_ok hz
      have HWO := Lib.hid hw
      have HZ := Lib.hid hz
      have HGN := Lib.hid (HG1.out.below b2)
      obtain ⟨av, cv, rfl, sv⟩ := hV.toSl
      have hvm := sv.hm
      have hvc := sv.hc
      have SV := Lib.hid sv
      have hk16 := hw.ro.k16
      have hr0 := hw.ro.r0
      have hr1 := hw.ro.r1
      have HROAD := Lib.hid (nok_of (g := g) (by
        have h9 := hwz
        unfold walkE at h9
        split at h9
        · rename_i h1; exact absurd h9 h1
        · rename_i h1; exact Decidable.not_not.1 h1)).choose_spec.2
      have HD : Hid (((d : Int)).toNat = d) := Lib.hid (Int.toNat_natCast _)
      obtain ⟨tk, htk⟩ : ∃ tk, tk = g.T r.toNat := ⟨_, rfl⟩
      have HTK : Hid (g.T r.toNat = tk) := Lib.hid htk.symm
      obtain ⟨pa, hpa⟩ : ∃ pa, pa = atK g tk R d := ⟨_, rfl⟩
      obtain ⟨pl, hpl⟩ : ∃ pl, pl = loadK g R d := ⟨_, rfl⟩
      have HPA := Lib.hid hpa
      have HPL := Lib.hid hpl
      have HCEF : Hid (fitsB g tk ⟨pa, pl, now⟩ = false → cutE g r R k (d : Int) now = 25) := Lib.hid (fun h => by
        unfold cutE
        rw [if_neg (by rw [hz]; simp), if_pos (by rw [HTK.out, HD.out, ← hpa, ← hpl]; exact h)])
      have HCET : Hid (fitsB g tk ⟨pa, pl, now⟩ = true → fitsB g (g.T r.toNat) ⟨atK g (g.T r.toNat) R ((d : Int)).toNat, loadK g R ((d : Int)).toNat, now⟩ = true) := Lib.hid (fun h => by
        rw [HTK.out, HD.out, ← hpa, ← hpl]; exact h)
      have hld := hw.load_all hdk
      have htk2 := hw.ro.tk
      rw [HTK.out] at hld htk2
      have HSM : Hid ((⟨pa, pl, now⟩ : Cs).Small n) := Lib.hid ⟨by have := hw.ro.at hdk; rw [HTK.out, ← hpa] at this; exact this, ⟨by show -1000 ≤ pl; omega, by show pl ≤ 1000; omega⟩, ⟨by show -1000 ≤ now; omega, by show now ≤ 10000000; omega⟩⟩
      have hab := abs_mul (mv := pl) (h := g.h) (by omega) (by omega) hw.ro.ng.h0 hw.ro.ng.h1
      have HLM : Hid (-200000 ≤ (⟨pa, pl, now⟩ : Cs).load * g.h ∧ (⟨pa, pl, now⟩ : Cs).load * g.h ≤ 200000) := Lib.hid ⟨by show _ ≤ pl * g.h; omega, by show pl * g.h ≤ _; omega⟩
      obtain ⟨q, hq0⟩ := Int.eq_ofNat_of_zero_le hr0
      have hq : q < g.tn := by omega
      have tq : (q : Int) < (g.tn : Int) := by omega
      obtain ⟨tb, to, htb, hg4, p0, p1, p2, p3⟩ := HGN.out.trucks.tk hq
      have zt := szs hg4
      have e5 : g.T q = tk := by rw [htk, hq0]; rfl
      rw [e5] at p0 p1 p2 p3
      have HQ0 := Lib.hid hq0
      obtain ⟨d1, d2, d3, d4⟩ := tk
      have HDP : Hid (0 ≤ (⟨d1, d2, d3, d4⟩ : Tk).dep ∧ (⟨d1, d2, d3, d4⟩ : Tk).dep < n) := Lib.hid htk2.1
      dsimp only at p0 p1 p2 p3
      replace HJ1 := Lib.hid ((b2.block _ (block_lt HJ1.out)).trans HJ1.out)
      replace HJ2 := Lib.hid ((b2.block _ (block_lt HJ2.out)).trans HJ2.out)
      replace HJ3 := Lib.hid ((b2.block _ (block_lt HJ3.out)).trans HJ3.out)
      clear n0 n1 n2 n3 n4 r0 r1 zn zr
      have HCT : Hid (g.cells = #[.int .i64 g.N, .slice g.ea g.em g.ec, .slice (some ⟨tb, to, none⟩) g.tn g.tc, .slice g.na g.nn g.nc, .int .i64 g.h]) := Lib.hid (by rw [HCC.out, htb])
      rw [← HCC.out, HCT.out] at HJ1
      rw [hq0] at HJ2
      have n0 := cell_at HJ1.out 0
      have n1 := cell_at HJ1.out 1
      have n2 := cell_at HJ1.out 2
      have n3 := cell_at HJ1.out 3
      have n4 := cell_at HJ1.out 4
      have r0 := cell_at HJ2.out 0
      have r1 := cell_at HJ2.out 1
      have zn := szs (block_lt HJ1.out)
      have zr := szs (block_lt HJ2.out)
      have HJ4 := Lib.hid (al_keep (al_at w2 (.cells #[.int .i64 d1, .int .i64 d2, .int .i64 d3, .int .i64 d4] 62) rfl) (.cells #[.int .i64 d1, .int .i64 0, .int .i64 now] 113))
      have HJ5 := Lib.hid (al_at (w2.alloc (.cells #[.int .i64 d1, .int .i64 d2, .int .i64 d3, .int .i64 d4] 62)) (.cells #[.int .i64 d1, .int .i64 0, .int .i64 now] 113) (k := w2.heap.size + 1) (by simp))
      have b3 : Below w2.heap.size w2 ((w2.alloc (.cells #[.int .i64 d1, .int .i64 d2, .int .i64 d3, .int .i64 d4] 62)).alloc (.cells #[.int .i64 d1, .int .i64 0, .int .i64 now] 113)) := by (repeat' (first | (with_reducible exact Below.refl _ _) | (with_reducible assumption) | (with_reducible refine Below.drew ?_) | (with_reducible refine below_drewN ?_ _) | (with_reducible refine Below.alloc ?_ ?_ _) | (with_reducible refine Below.setCell ?_ ?_ _) | go_size))
      obtain ⟨w3, hw3⟩ : ∃ w3, w3 = (w2.alloc (.cells #[.int .i64 d1, .int .i64 d2, .int .i64 d3, .int .i64 d4] 62)).alloc (.cells #[.int .i64 d1, .int .i64 0, .int .i64 now] 113) := ⟨_, rfl⟩
      rw [← hw3] at HJ4 HJ5 b3
      have HW3 := Lib.hid hw3
      have jn2 : Hid (w.heap.size ≤ w2.heap.size + 1) := Lib.hid (by have := B5.out.size; omega)
      clear WK hz b2 hV sv hw hwz hr0 hr1 htk hpa hpl hld htk2 hab e5 hpn hw3 hq0 htb
      by_cases hd0 : d = 0
      · subst hd0
        have tp : decide ((0 : Int) < ((0 : Nat) : Int)) = false := by simp
        obtain rfl : d1 = pa := HPA.out.symm
        obtain rfl : 0 = pl := HPL.out.symm
        go_wp2_with fail
        rw [← HW3.out]
        replace HJ1 := Lib.hid ((b3.block _ (block_lt HJ1.out)).trans HJ1.out)
        replace HJ2 := Lib.hid ((b3.block _ (block_lt HJ2.out)).trans HJ2.out)
        replace HJ3 := Lib.hid ((b3.block _ (block_lt HJ3.out)).trans HJ3.out)
        replace B5 := Lib.hid (B5.out.trans (b3.mono B5.out.size))
        clear n0 n1 n2 n3 n4 r0 r1 zn zr p0 p1 p2 p3 zt b3 HW3
        generalize w2.heap.size = b14 at *
        generalize hw5 : w3 = w5 at *
        clear hw5
        have HDK : Hid (0 ≤ k) := Lib.hid (Nat.zero_le _)
        cases ra with
        | none =>
          obtain ⟨rfl, rfl⟩ := HR.out.hno rfl
          have FT := Lib.hid (fits52 g n ⟨d1, d2, d3, d4⟩ ⟨d1, 0, now⟩ w5 HWO.out.ro.ng HROAD.out (HG.out.below B5.out).net HSM.out HDP.out HLM.out)
          rw [HCT.out] at FT
          unfold cpC tkC at FT
          dsimp only at FT
          have s0 := cell_at HJ5.out 0
          have s1 := cell_at HJ5.out 1
          have s2 := cell_at HJ5.out 2
          have n0 := cell_at HJ1.out 0
          have n1 := cell_at HJ1.out 1
          have n2 := cell_at HJ1.out 2
          have n3 := cell_at HJ1.out 3
          have n4 := cell_at HJ1.out 4
          have t0 := cell_at HJ4.out 0
          have t1 := cell_at HJ4.out 1
          have t2 := cell_at HJ4.out 2
          have t3 := cell_at HJ4.out 3
          have zs := szs (block_lt HJ5.out)
          have zn := szs (block_lt HJ1.out)
          have zt := szs (block_lt HJ4.out)
          go_wp2_with fail
          refine FT.out.mono ?_
          rintro e w6 ⟨rfl, b6⟩
          clear FT s0 s1 s2 n0 n1 n2 n3 n4 t0 t1 t2 t3 zs zn zt
          replace HJ1 := Lib.hid ((b6.block _ (block_lt HJ1.out)).trans HJ1.out)
          replace HJ2 := Lib.hid ((b6.block _ (block_lt HJ2.out)).trans HJ2.out)
          replace HJ3 := Lib.hid ((b6.block _ (block_lt HJ3.out)).trans HJ3.out)
          replace HJ4 := Lib.hid ((b6.block _ (block_lt HJ4.out)).trans HJ4.out)
          replace HJ5 := Lib.hid ((b6.block _ (block_lt HJ5.out)).trans HJ5.out)
          replace B5 := Lib.hid (B5.out.trans (b6.mono B5.out.size))
          clear b6
          obtain ⟨F, hF⟩ : ∃ F, F = fitsB g ⟨d1, d2, d3, d4⟩ ⟨d1, 0, now⟩ := ⟨_, rfl⟩
          rw [← hF]
          have HF := Lib.hid hF
          clear hF
          cases F with
          | false =>
            have HCE := Lib.hid (HCEF.out HF.out.symm)
            have m0 := cell_at HJ3.out 0
            have m1 := cell_at HJ3.out 1
            have fr := fun j => free_at HJ3.out j
            have zm := szs (block_lt HJ3.out)
            go_wp2_with fail
            show bodyPost _ _ _ Exit.ret _ _
            have KZ := put2 HJ3.out (.int .i64 0) (.slice none 0 0)
            have OZ := off2 w6 (w.heap.size + 1 + 1) (.int .i64 0) (.slice none 0 0)
            have BZ := Lib.hid (B5.out.trans (OZ.toBelow B5.out.size (fun q hq h => by have h : q = w.heap.size + 1 + 1 := h; omega)))
            clear fr zm m0 m1 OZ HJ3
            generalize World.setCell (World.setCell w6 _ _) _ _ = w9 at *
            have k0 := cell_at KZ 0
            have k1 := cell_at KZ 1
            have zk := szs (block_lt KZ)
            exact bodyPost_ret (v := .tuple #[.agg #[.int .i64 0, .slice none 0 0], .int .i64 25]) (by simp [results, Tryz.results23, go_sem, k0, k1]) rfl ⟨BZ.out, .inl ⟨fun h => absurd (HCE.out.symm.trans h) (by decide), congrArg (fun z => Ending.returned (.tuple #[.agg #[.int .i64 0, .slice none 0 0], .int .i64 z])) HCE.out.symm⟩⟩
          | true =>
            have HFT := Lib.hid (HCET.out HF.out.symm)
            have r0 := cell_at HJ2.out 0
            have r1 := cell_at HJ2.out 1
            have CLN := Lib.hid (fun w' (hb : Below w6.heap.size w6 w') => clone53 none 0 0 (nf R) w' (Sl.cut (HR.out.below (B5.out.trans (hb.mono B5.out.size))) HDK.out) (fun i u hu => by obtain rfl := List.mem_singleton.1 hu; rfl) (by omega))
            go_wp2_with fail
            (obtain ⟨ι, hne, Fw, fb, hF⟩ := grow_family w6); have hF : ∀ w', (vPlan w6 (fun s w' => ∀ v, s = [v] → IntRow w' w.heap.size v 0 R) (fun s => ∃ a c, s = [.slice a 0 c]) [6] [(8, fun b => .pointer (some ⟨b, 0, none⟩), .cells #[.int .i64 0, .slice none 0 0] 51)] (fun _ => [])).D [] w' → ∃ i, w' = Fw i := hF
            have fr0 := fun i => cell_kept (fb i) r0
            have fr1 := fun i => cell_kept (fb i) r1
            clear r0 r1
            (refine region_chainO (vPlan w6 (fun s w' => ∀ v, s = [v] → IntRow w' w.heap.size v 0 R) (fun s => ∃ a c, s = [.slice a 0 c]) [6] [(8, fun b => .pointer (some ⟨b, 0, none⟩), .cells #[.int .i64 0, .slice none 0 0] 51)] (fun _ => [])) [] [] [0, 1, 2, 3, 4, 5, 8, 6, 7] [9] mixed (by kernel_rfl) (by kernel_rfl) (fun _ _ h => nomatch h) (vPlan_ok (fun s w1 w2 h hb v hv => Row.off (X := fun _ => False) (h v hv) (Off.of_below hb) (fun _ _ h => h)) (by simp)) (vPlan_start (fun v h => nomatch h)) ?_; refine wpPure_nil ?_; simp only [List.map_cons, List.map_nil, Array.getD_eq_getD_getElem?, List.getElem?_toArray, List.getElem?_cons_zero, List.getElem?_cons_succ, Option.getD_some])
            (repeat (first | (refine wpChainO_skip rfl ?_; simp only [Act.put, List.setIfInBounds_toArray, List.set_cons_succ, List.set_cons_zero]) | (refine wpChainO_quiet hF rfl rfl rfl ?_; intro K hK; go_big_quiet_op; go_big_quiet_on) | (refine wpChainO_pure _ rfl rfl (fun w' _ => by go_simp; try rfl) ?_; simp only [Act.put, List.setIfInBounds_toArray, List.set_cons_succ, List.set_cons_zero])))
            (refine wpChainO_alloc _ _ rfl (List.mem_cons_self ..) rfl (fun w' => by go_simp) (fun b16 hb16 => ?_); simp only [Act.put, List.setIfInBounds_toArray, List.set_cons_succ, List.set_cons_zero])
            (repeat (first | (refine wpChainO_skip rfl ?_; simp only [Act.put, List.setIfInBounds_toArray, List.set_cons_succ, List.set_cons_zero]) | (refine wpChainO_quiet hF rfl rfl rfl ?_; intro K hK; go_big_quiet_op; go_big_quiet_on) | (refine wpChainO_pure _ rfl rfl (fun w' _ => by go_simp; try rfl) ?_; simp only [Act.put, List.setIfInBounds_toArray, List.set_cons_succ, List.set_cons_zero])))
            refine wpChainO_vcall 53 #[.slice none 0 0] rfl rfl (fun w' => by go_simp) (fun w' hb _ _ => ?_) ?_
            · refine (CLN.out w' hb).mono ?_
              rintro e w7 ⟨v7, rfl, r7, b7⟩
              obtain ⟨a7, c7, rfl, _⟩ := Row.toSl r7 (fun _ => rfl)
              exact ⟨_, rfl, ⟨a7, c7, rfl⟩, fun v hv => by cases hv; exact Row.base_mono r7 (Nat.le_trans B5.out.size hb.size), b7⟩
            rintro u1 ⟨a7, c7, hu⟩
            cases hu
            simp only [Act.put, List.setIfInBounds_toArray, List.set_cons_succ, List.set_cons_zero]
            (repeat (first | (refine wpChainO_skip rfl ?_; simp only [Act.put, List.setIfInBounds_toArray, List.set_cons_succ, List.set_cons_zero]) | (refine wpChainO_quiet hF rfl rfl rfl ?_; intro K hK; go_big_quiet_op; go_big_quiet_on) | (refine wpChainO_pure _ rfl rfl (fun w' _ => by go_simp; try rfl) ?_; simp only [Act.put, List.setIfInBounds_toArray, List.set_cons_succ, List.set_cons_zero])))
            refine wpChainO_nil (fun w7 hb7 hl7 => ?_)
            have b7 : Below w6.heap.size w6 w7 := hb7.1
            have R7 := Lib.hid (hb7.2 _ rfl)
            have X16 := Lib.hid (hl7.1.2 (8, b16, .cells #[.int .i64 0, .slice none 0 0] 51) (by simp)).2
            have G16 := (hl7.1.2 (8, b16, .cells #[.int .i64 0, .slice none 0 0] 51) (by simp)).1
            have G16 : Hid (w.heap.size + 1 + 1 < b16) := Lib.hid (Nat.lt_of_lt_of_le (block_lt HJ3.out) G16)
            replace HJ1 := Lib.hid ((b7.block _ (block_lt HJ1.out)).trans HJ1.out)
            replace HJ2 := Lib.hid ((b7.block _ (block_lt HJ2.out)).trans HJ2.out)
            replace HJ3 := Lib.hid ((b7.block _ (block_lt HJ3.out)).trans HJ3.out)
            replace HJ4 := Lib.hid ((b7.block _ (block_lt HJ4.out)).trans HJ4.out)
            replace HJ5 := Lib.hid ((b7.block _ (block_lt HJ5.out)).trans HJ5.out)
            replace B5 := Lib.hid (B5.out.trans (b7.mono B5.out.size))
            clear hb7 hl7 hF fb hne b7 fr0 fr1 CLN
            have o0 := cell_at X16.out 0
            have o1 := cell_at X16.out 1
            have fr := fun j => free_at X16.out j
            have zo := szs (block_lt X16.out)
            go_wp2_with fail
            have o8 := off2 w7 b16 (.int .i64 (q : Int)) (.slice a7 0 c7)
            have h6 := put2 X16.out (.int .i64 (q : Int)) (.slice a7 0 c7)
            replace HJ1 := Lib.hid ((o8.block _ (block_lt HJ1.out) (ne_type HJ1.out X16.out (by decide))).trans HJ1.out)
            replace HJ2 := Lib.hid ((o8.block _ (block_lt HJ2.out) (fun h => by have h : w.heap.size + 1 = b16 := h; have := G16.out; omega)).trans HJ2.out)
            replace HJ3 := Lib.hid ((o8.block _ (block_lt HJ3.out) (fun h => by have h : w.heap.size + 1 + 1 = b16 := h; have := G16.out; omega)).trans HJ3.out)
            replace HJ4 := Lib.hid ((o8.block _ (block_lt HJ4.out) (ne_type HJ4.out X16.out (by decide))).trans HJ4.out)
            replace HJ5 := Lib.hid ((o8.block _ (block_lt HJ5.out) (ne_type HJ5.out X16.out (by decide))).trans HJ5.out)
            replace R7 := Lib.hid (Row.off R7.out o8 (fun gg hgg h => Row.ne R7.out hgg X16.out (by decide) h))
            replace B5 := Lib.hid (B5.out.trans (o8.toBelow B5.out.size (fun q hq h => by have h : q = b16 := h; have := G16.out; omega)))
            have H6 := Lib.hid h6
            clear o0 o1 fr zo o8 h6 X16
            generalize World.setCell (World.setCell w7 _ _) _ _ = w8 at *
            refine onlyN_intro ?_
            go_wp2_with fail
            go_step3
            rename_i K0 hK0
            refine hK0 _ _ (PASS.out _ _ ⟨HZ.out, HFT.out, 0, 0, b14, b14 + 1, b16, .slice a7 0 c7, rfl, ⟨rfl, rfl, rfl, rfl, rfl, rfl, rfl, rfl, rfl⟩, ?J⟩)
            case J =>
              have e0 : cutK g (g.T r.toNat) R 0 now 0 = (⟨atK g (g.T r.toNat) R 0, loadK g R 0, now⟩, (List.range 0).map R) := rfl
              have hrow : IntRow w8 w.heap.size (.slice a7 0 c7) ((List.range 0).map R).length (fun i => ((List.range 0).map R).getD i 0) := by
                rw [List.length_map, List.length_range]
                refine Row.congr R7.out (fun i hi => ?_)
                have hgd : ((List.range 0).map R).getD i 0 = R i := by rw [List.getD, List.getElem?_map, List.getElem?_range hi]; rfl
                show [Value.int .i64 (R i)] = [Value.int .i64 (((List.range 0).map R).getD i 0)]
                rw [hgd]
              exact ⟨HDK.out, by rw [HCT.out]; exact HJ1.out, by rw [HQ0.out]; exact HJ2.out, HJ3.out, by rw [HTK.out]; exact HJ4.out, by rw [e0, HTK.out]; unfold cpC; dsimp only; rw [← HPA.out, ← HPL.out]; exact HJ5.out, by rw [HQ0.out]; exact H6.out, by rw [e0]; exact hrow, B5.out, ⟨rfl, G16.out, by have := jn2.out; omega⟩⟩
        | some ad =>
          have FT := Lib.hid (fits52 g n ⟨d1, d2, d3, d4⟩ ⟨d1, 0, now⟩ w5 HWO.out.ro.ng HROAD.out (HG.out.below B5.out).net HSM.out HDP.out HLM.out)
          rw [HCT.out] at FT
          unfold cpC tkC at FT
          dsimp only at FT
          have s0 := cell_at HJ5.out 0
          have s1 := cell_at HJ5.out 1
          have s2 := cell_at HJ5.out 2
          have n0 := cell_at HJ1.out 0
          have n1 := cell_at HJ1.out 1
          have n2 := cell_at HJ1.out 2
          have n3 := cell_at HJ1.out 3
          have n4 := cell_at HJ1.out 4
          have t0 := cell_at HJ4.out 0
          have t1 := cell_at HJ4.out 1
          have t2 := cell_at HJ4.out 2
          have t3 := cell_at HJ4.out 3
          have zs := szs (block_lt HJ5.out)
          have zn := szs (block_lt HJ1.out)
          have zt := szs (block_lt HJ4.out)
          go_wp2_with fail
          refine FT.out.mono ?_
          rintro e w6 ⟨rfl, b6⟩
          clear FT s0 s1 s2 n0 n1 n2 n3 n4 t0 t1 t2 t3 zs zn zt
          replace HJ1 := Lib.hid ((b6.block _ (block_lt HJ1.out)).trans HJ1.out)
          replace HJ2 := Lib.hid ((b6.block _ (block_lt HJ2.out)).trans HJ2.out)
          replace HJ3 := Lib.hid ((b6.block _ (block_lt HJ3.out)).trans HJ3.out)
          replace HJ4 := Lib.hid ((b6.block _ (block_lt HJ4.out)).trans HJ4.out)
          replace HJ5 := Lib.hid ((b6.block _ (block_lt HJ5.out)).trans HJ5.out)
          replace B5 := Lib.hid (B5.out.trans (b6.mono B5.out.size))
          clear b6
          obtain ⟨F, hF⟩ : ∃ F, F = fitsB g ⟨d1, d2, d3, d4⟩ ⟨d1, 0, now⟩ := ⟨_, rfl⟩
          rw [← hF]
          have HF := Lib.hid hF
          clear hF
          cases F with
          | false =>
            have HCE := Lib.hid (HCEF.out HF.out.symm)
            have m0 := cell_at HJ3.out 0
            have m1 := cell_at HJ3.out 1
            have fr := fun j => free_at HJ3.out j
            have zm := szs (block_lt HJ3.out)
            go_wp2_with fail
            show bodyPost _ _ _ Exit.ret _ _
            have KZ := put2 HJ3.out (.int .i64 0) (.slice none 0 0)
            have OZ := off2 w6 (w.heap.size + 1 + 1) (.int .i64 0) (.slice none 0 0)
            have BZ := Lib.hid (B5.out.trans (OZ.toBelow B5.out.size (fun q hq h => by have h : q = w.heap.size + 1 + 1 := h; omega)))
            clear fr zm m0 m1 OZ HJ3
            generalize World.setCell (World.setCell w6 _ _) _ _ = w9 at *
            have k0 := cell_at KZ 0
            have k1 := cell_at KZ 1
            have zk := szs (block_lt KZ)
            exact bodyPost_ret (v := .tuple #[.agg #[.int .i64 0, .slice none 0 0], .int .i64 25]) (by simp [results, Tryz.results23, go_sem, k0, k1]) rfl ⟨BZ.out, .inl ⟨fun h => absurd (HCE.out.symm.trans h) (by decide), congrArg (fun z => Ending.returned (.tuple #[.agg #[.int .i64 0, .slice none 0 0], .int .i64 z])) HCE.out.symm⟩⟩
          | true =>
            have HFT := Lib.hid (HCET.out HF.out.symm)
            have r0 := cell_at HJ2.out 0
            have r1 := cell_at HJ2.out 1
            have CLN := Lib.hid (fun w' (hb : Below w6.heap.size w6 w') => clone53 (some ad) 0 rc (nf R) w' (Sl.cut (HR.out.below (B5.out.trans (hb.mono B5.out.size))) HDK.out) (fun i u hu => by obtain rfl := List.mem_singleton.1 hu; rfl) (by omega))
            go_wp2_with fail
            (obtain ⟨ι, hne, Fw, fb, hF⟩ := grow_family w6); have hF : ∀ w', (vPlan w6 (fun s w' => ∀ v, s = [v] → IntRow w' w.heap.size v 0 R) (fun s => ∃ a c, s = [.slice a 0 c]) [6] [(8, fun b => .pointer (some ⟨b, 0, none⟩), .cells #[.int .i64 0, .slice none 0 0] 51)] (fun _ => [])).D [] w' → ∃ i, w' = Fw i := hF
            have fr0 := fun i => cell_kept (fb i) r0
            have fr1 := fun i => cell_kept (fb i) r1
            clear r0 r1
            (refine region_chainO (vPlan w6 (fun s w' => ∀ v, s = [v] → IntRow w' w.heap.size v 0 R) (fun s => ∃ a c, s = [.slice a 0 c]) [6] [(8, fun b => .pointer (some ⟨b, 0, none⟩), .cells #[.int .i64 0, .slice none 0 0] 51)] (fun _ => [])) [] [] [0, 1, 2, 3, 4, 5, 8, 6, 7] [9] mixed (by kernel_rfl) (by kernel_rfl) (fun _ _ h => nomatch h) (vPlan_ok (fun s w1 w2 h hb v hv => Row.off (X := fun _ => False) (h v hv) (Off.of_below hb) (fun _ _ h => h)) (by simp)) (vPlan_start (fun v h => nomatch h)) ?_; refine wpPure_nil ?_; simp only [List.map_cons, List.map_nil, Array.getD_eq_getD_getElem?, List.getElem?_toArray, List.getElem?_cons_zero, List.getElem?_cons_succ, Option.getD_some])
            (repeat (first | (refine wpChainO_skip rfl ?_; simp only [Act.put, List.setIfInBounds_toArray, List.set_cons_succ, List.set_cons_zero]) | (refine wpChainO_quiet hF rfl rfl rfl ?_; intro K hK; go_big_quiet_op; go_big_quiet_on) | (refine wpChainO_pure _ rfl rfl (fun w' _ => by go_simp; try rfl) ?_; simp only [Act.put, List.setIfInBounds_toArray, List.set_cons_succ, List.set_cons_zero])))
            (refine wpChainO_alloc _ _ rfl (List.mem_cons_self ..) rfl (fun w' => by go_simp) (fun b16 hb16 => ?_); simp only [Act.put, List.setIfInBounds_toArray, List.set_cons_succ, List.set_cons_zero])
            (repeat (first | (refine wpChainO_skip rfl ?_; simp only [Act.put, List.setIfInBounds_toArray, List.set_cons_succ, List.set_cons_zero]) | (refine wpChainO_quiet hF rfl rfl rfl ?_; intro K hK; go_big_quiet_op; go_big_quiet_on) | (refine wpChainO_pure _ rfl rfl (fun w' _ => by go_simp; try rfl) ?_; simp only [Act.put, List.setIfInBounds_toArray, List.set_cons_succ, List.set_cons_zero])))
            refine wpChainO_vcall 53 #[.slice (some ad) 0 rc] rfl rfl (fun w' => by go_simp) (fun w' hb _ _ => ?_) ?_
            · refine (CLN.out w' hb).mono ?_
              rintro e w7 ⟨v7, rfl, r7, b7⟩
              obtain ⟨a7, c7, rfl, _⟩ := Row.toSl r7 (fun _ => rfl)
              exact ⟨_, rfl, ⟨a7, c7, rfl⟩, fun v hv => by cases hv; exact Row.base_mono r7 (Nat.le_trans B5.out.size hb.size), b7⟩
            rintro u1 ⟨a7, c7, hu⟩
            cases hu
            simp only [Act.put, List.setIfInBounds_toArray, List.set_cons_succ, List.set_cons_zero]
            (repeat (first | (refine wpChainO_skip rfl ?_; simp only [Act.put, List.setIfInBounds_toArray, List.set_cons_succ, List.set_cons_zero]) | (refine wpChainO_quiet hF rfl rfl rfl ?_; intro K hK; go_big_quiet_op; go_big_quiet_on) | (refine wpChainO_pure _ rfl rfl (fun w' _ => by go_simp; try rfl) ?_; simp only [Act.put, List.setIfInBounds_toArray, List.set_cons_succ, List.set_cons_zero])))
            refine wpChainO_nil (fun w7 hb7 hl7 => ?_)
            have b7 : Below w6.heap.size w6 w7 := hb7.1
            have R7 := Lib.hid (hb7.2 _ rfl)
            have X16 := Lib.hid (hl7.1.2 (8, b16, .cells #[.int .i64 0, .slice none 0 0] 51) (by simp)).2
            have G16 := (hl7.1.2 (8, b16, .cells #[.int .i64 0, .slice none 0 0] 51) (by simp)).1
            have G16 : Hid (w.heap.size + 1 + 1 < b16) := Lib.hid (Nat.lt_of_lt_of_le (block_lt HJ3.out) G16)
            replace HJ1 := Lib.hid ((b7.block _ (block_lt HJ1.out)).trans HJ1.out)
            replace HJ2 := Lib.hid ((b7.block _ (block_lt HJ2.out)).trans HJ2.out)
            replace HJ3 := Lib.hid ((b7.block _ (block_lt HJ3.out)).trans HJ3.out)
            replace HJ4 := Lib.hid ((b7.block _ (block_lt HJ4.out)).trans HJ4.out)
            replace HJ5 := Lib.hid ((b7.block _ (block_lt HJ5.out)).trans HJ5.out)
            replace B5 := Lib.hid (B5.out.trans (b7.mono B5.out.size))
            clear hb7 hl7 hF fb hne b7 fr0 fr1 CLN
            have o0 := cell_at X16.out 0
            have o1 := cell_at X16.out 1
            have fr := fun j => free_at X16.out j
            have zo := szs (block_lt X16.out)
            go_wp2_with fail
            have o8 := off2 w7 b16 (.int .i64 (q : Int)) (.slice a7 0 c7)
            have h6 := put2 X16.out (.int .i64 (q : Int)) (.slice a7 0 c7)
            replace HJ1 := Lib.hid ((o8.block _ (block_lt HJ1.out) (ne_type HJ1.out X16.out (by decide))).trans HJ1.out)
            replace HJ2 := Lib.hid ((o8.block _ (block_lt HJ2.out) (fun h => by have h : w.heap.size + 1 = b16 := h; have := G16.out; omega)).trans HJ2.out)
            replace HJ3 := Lib.hid ((o8.block _ (block_lt HJ3.out) (fun h => by have h : w.heap.size + 1 + 1 = b16 := h; have := G16.out; omega)).trans HJ3.out)
            replace HJ4 := Lib.hid ((o8.block _ (block_lt HJ4.out) (ne_type HJ4.out X16.out (by decide))).trans HJ4.out)
            replace HJ5 := Lib.hid ((o8.block _ (block_lt HJ5.out) (ne_type HJ5.out X16.out (by decide))).trans HJ5.out)
            replace R7 := Lib.hid (Row.off R7.out o8 (fun gg hgg h => Row.ne R7.out hgg X16.out (by decide) h))
            replace B5 := Lib.hid (B5.out.trans (o8.toBelow B5.out.size (fun q hq h => by have h : q = b16 := h; have := G16.out; omega)))
            have H6 := Lib.hid h6
            clear o0 o1 fr zo o8 h6 X16
            generalize World.setCell (World.setCell w7 _ _) _ _ = w8 at *
            refine onlyN_intro ?_
            go_wp2_with fail
            go_step3
            rename_i K0 hK0
            refine hK0 _ _ (PASS.out _ _ ⟨HZ.out, HFT.out, 0, 0, b14, b14 + 1, b16, .slice a7 0 c7, rfl, ⟨rfl, rfl, rfl, rfl, rfl, rfl, rfl, rfl, rfl⟩, ?J⟩)
            case J =>
              have e0 : cutK g (g.T r.toNat) R 0 now 0 = (⟨atK g (g.T r.toNat) R 0, loadK g R 0, now⟩, (List.range 0).map R) := rfl
              have hrow : IntRow w8 w.heap.size (.slice a7 0 c7) ((List.range 0).map R).length (fun i => ((List.range 0).map R).getD i 0) := by
                rw [List.length_map, List.length_range]
                refine Row.congr R7.out (fun i hi => ?_)
                have hgd : ((List.range 0).map R).getD i 0 = R i := by rw [List.getD, List.getElem?_map, List.getElem?_range hi]; rfl
                show [Value.int .i64 (R i)] = [Value.int .i64 (((List.range 0).map R).getD i 0)]
                rw [hgd]
              exact ⟨HDK.out, by rw [HCT.out]; exact HJ1.out, by rw [HQ0.out]; exact HJ2.out, HJ3.out, by rw [HTK.out]; exact HJ4.out, by rw [e0, HTK.out]; unfold cpC; dsimp only; rw [← HPA.out, ← HPL.out]; exact HJ5.out, by rw [HQ0.out]; exact H6.out, by rw [e0]; exact hrow, B5.out, ⟨rfl, G16.out, by have := jn2.out; omega⟩⟩
      · obtain ⟨m, rfl⟩ : ∃ m, d = m + 1 := ⟨d - 1, by omega⟩
        have ed : ((m + 1 : Nat) : Int) = (m : Int) + 1 := rfl
        have tp : decide ((0 : Int) < (m : Int) + 1) = true := decide_eq_true (by omega)
        have hmk : m < k := by omega
        have tmk : (m : Int) < (k : Int) := by omega
        have HDK : Hid (m + 1 ≤ k) := Lib.hid hdk
        have hneed := HWO.out.ro.needs m hmk
        obtain ⟨mi, hmi⟩ := Int.eq_ofNat_of_zero_le hneed.1
        have hmn : mi < g.nn := by omega
        have tmn : (mi : Int) < (g.nn : Int) := by omega
        obtain ⟨rb, ro, rfl, hgr, e0⟩ := ((HR.out.below B5.out)).num hmk
        rw [hmi] at e0
        have zg := szs hgr
        obtain ⟨nb, no, hna, hgn, q0, q1⟩ := (HGN.out.needs).nd hmn
        have zb := szs hgn
        obtain ⟨vb, vo, rfl, hg6, v0, v1, v2, v3⟩ := SV.out.vi hmk
        have zv := szs hg6
        have e1 : (g.D mi).node = pa := by rw [HPA.out]; show _ = (g.D (R m).toNat).node; rw [hmi, Int.toNat_natCast]
        have e2 : (visK g (g.T r.toNat) R m).load = pl := by rw [HPL.out]; rfl
        rw [e1] at q0
        rw [e2] at v3
        rw [hna] at HJ1 HCT n0 n1 n2 n3 n4
        rw [ed]
        go_wp2_with fail
        rw [← HW3.out]
        replace n0 := cell_kept b3 n0
        replace n1 := cell_kept b3 n1
        replace n2 := cell_kept b3 n2
        replace n3 := cell_kept b3 n3
        replace n4 := cell_kept b3 n4
        replace r0 := cell_kept b3 r0
        replace r1 := cell_kept b3 r1
        replace e0 := cell_kept b3 e0
        replace q0 := cell_kept b3 q0
        replace q1 := cell_kept b3 q1
        replace v0 := cell_kept b3 v0
        replace v1 := cell_kept b3 v1
        replace v2 := cell_kept b3 v2
        replace v3 := cell_kept b3 v3
        replace HJ1 := Lib.hid ((b3.block _ (block_lt HJ1.out)).trans HJ1.out)
        replace HJ2 := Lib.hid ((b3.block _ (block_lt HJ2.out)).trans HJ2.out)
        replace HJ3 := Lib.hid ((b3.block _ (block_lt HJ3.out)).trans HJ3.out)
        replace B5 := Lib.hid (B5.out.trans (b3.mono B5.out.size))
        clear zn zr zt zg zb zv p0 p1 p2 p3 b3 HW3
        have zn := szs (cell_lt n0)
        have zr := szs (cell_lt r0)
        have zg := szs (cell_lt e0)
        have zb := szs (cell_lt q0)
        have zv := szs (cell_lt v0)
        dsimp only at zn zr zg zb zv
        generalize w2.heap.size = b14 at *
        (refine region_order (fun i : Nat => World.drewN _ i) [] [0, 1, 2, 3, 4, 5, 6, 7, 8, 9, 10, 11, 12, 13, 14, 15, 16, 17, 18] 19 [] mixed (by kernel_rfl) ⟨1, rfl⟩ ?_; simp only [List.map_cons, List.map_nil, Array.getD_eq_getD_getElem?, List.getElem?_toArray, List.getElem?_cons_zero, List.getElem?_cons_succ, Option.getD_some]; (repeat (refine wpPure_cons _ rfl (fun w' => by go_simp; try rfl) ?_; dsimp only [Act.put])); refine wpPure_nil ?_; (repeat (any_goals (first | go_big_quiet_step (fail) | quiet_step (fail) | (refine wpQuiet_step (fun K hK => ?_); go_simp; split <;> (refine hK _ ?_; clear hK K))))); (all_goals (refine wpQuiet_nil (fun nq => ?_))))
        have b4 : Below w3.heap.size w3 (w3.drewN nq) := below_drewN (Below.refl _ _) nq
        clear n0 n1 n2 n3 n4 r0 r1 e0 q0 q1 v0 v1 v2 v3 zn zr zg zb zv
        replace HJ1 := Lib.hid ((b4.block _ (block_lt HJ1.out)).trans HJ1.out)
        replace HJ2 := Lib.hid ((b4.block _ (block_lt HJ2.out)).trans HJ2.out)
        replace HJ3 := Lib.hid ((b4.block _ (block_lt HJ3.out)).trans HJ3.out)
        replace HJ4 := Lib.hid ((b4.block _ (block_lt HJ4.out)).trans HJ4.out)
        replace HJ5 := Lib.hid ((b4.block _ (block_lt HJ5.out)).trans HJ5.out)
        replace B5 := Lib.hid (B5.out.trans (b4.mono B5.out.size))
        clear b4
        generalize w3.drewN nq = w4 at *
        have s0 := cell_at HJ5.out 0
        have s1 := cell_at HJ5.out 1
        have s2 := cell_at HJ5.out 2
        have fr := fun j => free_at HJ5.out j
        have zs := szs (block_lt HJ5.out)
        go_wp2_with fail
        have o5 := off3 w4 (b14 + 1) (.int .i64 pa) (.int .i64 pl) (.int .i64 now)
        have h5 := put3 HJ5.out (.int .i64 pa) (.int .i64 pl) (.int .i64 now)
        replace HJ1 := Lib.hid ((o5.block _ (block_lt HJ1.out) (ne_type HJ1.out HJ5.out (by decide))).trans HJ1.out)
        replace HJ2 := Lib.hid ((o5.block _ (block_lt HJ2.out) (ne_type HJ2.out HJ5.out (by decide))).trans HJ2.out)
        replace HJ3 := Lib.hid ((o5.block _ (block_lt HJ3.out) (ne_type HJ3.out HJ5.out (by decide))).trans HJ3.out)
        replace HJ4 := Lib.hid ((o5.block _ (block_lt HJ4.out) (ne_type HJ4.out HJ5.out (by decide))).trans HJ4.out)
        replace B5 := Lib.hid (B5.out.trans (o5.toBelow B5.out.size (fun q hq h => by have h : q = b14 + 1 := h; have := jn2.out; omega)))
        replace HJ5 := Lib.hid h5
        clear s0 s1 s2 fr zs o5 h5
        generalize World.setCell (World.setCell (World.setCell w4 _ _) _ _) _ _ = w5 at *
        refine onlyN_intro ?_
        have FT := Lib.hid (fits52 g n ⟨d1, d2, d3, d4⟩ ⟨pa, pl, now⟩ w5 HWO.out.ro.ng HROAD.out (HG.out.below B5.out).net HSM.out HDP.out HLM.out)
        rw [HCT.out] at FT
        unfold cpC tkC at FT
        dsimp only at FT
        have s0 := cell_at HJ5.out 0
        have s1 := cell_at HJ5.out 1
        have s2 := cell_at HJ5.out 2
        have n0 := cell_at HJ1.out 0
        have n1 := cell_at HJ1.out 1
        have n2 := cell_at HJ1.out 2
        have n3 := cell_at HJ1.out 3
        have n4 := cell_at HJ1.out 4
        have t0 := cell_at HJ4.out 0
        have t1 := cell_at HJ4.out 1
        have t2 := cell_at HJ4.out 2
        have t3 := cell_at HJ4.out 3
        have zs := szs (block_lt HJ5.out)
        have zn := szs (block_lt HJ1.out)
        have zt := szs (block_lt HJ4.out)
        go_wp2_with fail
        refine FT.out.mono ?_
        rintro e w6 ⟨rfl, b6⟩
        clear FT s0 s1 s2 n0 n1 n2 n3 n4 t0 t1 t2 t3 zs zn zt
        replace HJ1 := Lib.hid ((b6.block _ (block_lt HJ1.out)).trans HJ1.out)
        replace HJ2 := Lib.hid ((b6.block _ (block_lt HJ2.out)).trans HJ2.out)
        replace HJ3 := Lib.hid ((b6.block _ (block_lt HJ3.out)).trans HJ3.out)
        replace HJ4 := Lib.hid ((b6.block _ (block_lt HJ4.out)).trans HJ4.out)
        replace HJ5 := Lib.hid ((b6.block _ (block_lt HJ5.out)).trans HJ5.out)
        replace B5 := Lib.hid (B5.out.trans (b6.mono B5.out.size))
        clear b6
        obtain ⟨F, hF⟩ : ∃ F, F = fitsB g ⟨d1, d2, d3, d4⟩ ⟨pa, pl, now⟩ := ⟨_, rfl⟩
        rw [← hF]
        have HF := Lib.hid hF
        clear hF
        cases F with
        | false =>
          have HCE := Lib.hid (HCEF.out HF.out.symm)
          have m0 := cell_at HJ3.out 0
          have m1 := cell_at HJ3.out 1
          have fr := fun j => free_at HJ3.out j
          have zm := szs (block_lt HJ3.out)
          go_wp2_with fail
          show bodyPost _ _ _ Exit.ret _ _
          have KZ := put2 HJ3.out (.int .i64 0) (.slice none 0 0)
          have OZ := off2 w6 (w.heap.size + 1 + 1) (.int .i64 0) (.slice none 0 0)
          have BZ := Lib.hid (B5.out.trans (OZ.toBelow B5.out.size (fun q hq h => by have h : q = w.heap.size + 1 + 1 := h; omega)))
          clear fr zm m0 m1 OZ HJ3
          generalize World.setCell (World.setCell w6 _ _) _ _ = w9 at *
          have k0 := cell_at KZ 0
          have k1 := cell_at KZ 1
          have zk := szs (block_lt KZ)
          exact bodyPost_ret (v := .tuple #[.agg #[.int .i64 0, .slice none 0 0], .int .i64 25]) (by simp [results, Tryz.results23, go_sem, k0, k1]) rfl ⟨BZ.out, .inl ⟨fun h => absurd (HCE.out.symm.trans h) (by decide), congrArg (fun z => Ending.returned (.tuple #[.agg #[.int .i64 0, .slice none 0 0], .int .i64 z])) HCE.out.symm⟩⟩
        | true =>
          have HFT := Lib.hid (HCET.out HF.out.symm)
          have r0 := cell_at HJ2.out 0
          have r1 := cell_at HJ2.out 1
          have CLN := Lib.hid (fun w' (hb : Below w6.heap.size w6 w') => clone53 (some ⟨rb, ro, none⟩) (m + 1) rc (nf R) w' (Sl.cut (HR.out.below (B5.out.trans (hb.mono B5.out.size))) HDK.out) (fun i u hu => by obtain rfl := List.mem_singleton.1 hu; rfl) (by omega))
          go_wp2_with fail
          (obtain ⟨ι, hne, Fw, fb, hF⟩ := grow_family w6); have hF : ∀ w', (vPlan w6 (fun s w' => ∀ v, s = [v] → IntRow w' w.heap.size v (m + 1) R) (fun s => ∃ a c, s = [.slice a (m + 1) c]) [6] [(8, fun b => .pointer (some ⟨b, 0, none⟩), .cells #[.int .i64 0, .slice none 0 0] 51)] (fun _ => [])).D [] w' → ∃ i, w' = Fw i := hF
          have fr0 := fun i => cell_kept (fb i) r0
          have fr1 := fun i => cell_kept (fb i) r1
          clear r0 r1
          (refine region_chainO (vPlan w6 (fun s w' => ∀ v, s = [v] → IntRow w' w.heap.size v (m + 1) R) (fun s => ∃ a c, s = [.slice a (m + 1) c]) [6] [(8, fun b => .pointer (some ⟨b, 0, none⟩), .cells #[.int .i64 0, .slice none 0 0] 51)] (fun _ => [])) [] [] [0, 1, 2, 3, 4, 5, 8, 6, 7] [9] mixed (by kernel_rfl) (by kernel_rfl) (fun _ _ h => nomatch h) (vPlan_ok (fun s w1 w2 h hb v hv => Row.off (X := fun _ => False) (h v hv) (Off.of_below hb) (fun _ _ h => h)) (by simp)) (vPlan_start (fun v h => nomatch h)) ?_; refine wpPure_nil ?_; simp only [List.map_cons, List.map_nil, Array.getD_eq_getD_getElem?, List.getElem?_toArray, List.getElem?_cons_zero, List.getElem?_cons_succ, Option.getD_some])
          (repeat (first | (refine wpChainO_skip rfl ?_; simp only [Act.put, List.setIfInBounds_toArray, List.set_cons_succ, List.set_cons_zero]) | (refine wpChainO_quiet hF rfl rfl rfl ?_; intro K hK; go_big_quiet_op; go_big_quiet_on) | (refine wpChainO_pure _ rfl rfl (fun w' _ => by go_simp; try rfl) ?_; simp only [Act.put, List.setIfInBounds_toArray, List.set_cons_succ, List.set_cons_zero])))
          (refine wpChainO_alloc _ _ rfl (List.mem_cons_self ..) rfl (fun w' => by go_simp) (fun b16 hb16 => ?_); simp only [Act.put, List.setIfInBounds_toArray, List.set_cons_succ, List.set_cons_zero])
          (repeat (first | (refine wpChainO_skip rfl ?_; simp only [Act.put, List.setIfInBounds_toArray, List.set_cons_succ, List.set_cons_zero]) | (refine wpChainO_quiet hF rfl rfl rfl ?_; intro K hK; go_big_quiet_op; go_big_quiet_on) | (refine wpChainO_pure _ rfl rfl (fun w' _ => by go_simp; try rfl) ?_; simp only [Act.put, List.setIfInBounds_toArray, List.set_cons_succ, List.set_cons_zero])))
          refine wpChainO_vcall 53 #[.slice (some ⟨rb, ro, none⟩) (m + 1) rc] rfl rfl (fun w' => by go_simp) (fun w' hb _ _ => ?_) ?_
          · refine (CLN.out w' hb).mono ?_
            rintro e w7 ⟨v7, rfl, r7, b7⟩
            obtain ⟨a7, c7, rfl, _⟩ := Row.toSl r7 (fun _ => rfl)
            exact ⟨_, rfl, ⟨a7, c7, rfl⟩, fun v hv => by cases hv; exact Row.base_mono r7 (Nat.le_trans B5.out.size hb.size), b7⟩
          rintro u1 ⟨a7, c7, hu⟩
          cases hu
          simp only [Act.put, List.setIfInBounds_toArray, List.set_cons_succ, List.set_cons_zero]
          (repeat (first | (refine wpChainO_skip rfl ?_; simp only [Act.put, List.setIfInBounds_toArray, List.set_cons_succ, List.set_cons_zero]) | (refine wpChainO_quiet hF rfl rfl rfl ?_; intro K hK; go_big_quiet_op; go_big_quiet_on) | (refine wpChainO_pure _ rfl rfl (fun w' _ => by go_simp; try rfl) ?_; simp only [Act.put, List.setIfInBounds_toArray, List.set_cons_succ, List.set_cons_zero])))
          refine wpChainO_nil (fun w7 hb7 hl7 => ?_)
          have b7 : Below w6.heap.size w6 w7 := hb7.1
          have R7 := Lib.hid (hb7.2 _ rfl)
          have X16 := Lib.hid (hl7.1.2 (8, b16, .cells #[.int .i64 0, .slice none 0 0] 51) (by simp)).2
          have G16 := (hl7.1.2 (8, b16, .cells #[.int .i64 0, .slice none 0 0] 51) (by simp)).1
          have G16 : Hid (w.heap.size + 1 + 1 < b16) := Lib.hid (Nat.lt_of_lt_of_le (block_lt HJ3.out) G16)
          replace HJ1 := Lib.hid ((b7.block _ (block_lt HJ1.out)).trans HJ1.out)
          replace HJ2 := Lib.hid ((b7.block _ (block_lt HJ2.out)).trans HJ2.out)
          replace HJ3 := Lib.hid ((b7.block _ (block_lt HJ3.out)).trans HJ3.out)
          replace HJ4 := Lib.hid ((b7.block _ (block_lt HJ4.out)).trans HJ4.out)
          replace HJ5 := Lib.hid ((b7.block _ (block_lt HJ5.out)).trans HJ5.out)
          replace B5 := Lib.hid (B5.out.trans (b7.mono B5.out.size))
          clear hb7 hl7 hF fb hne b7 fr0 fr1 CLN
          have o0 := cell_at X16.out 0
          have o1 := cell_at X16.out 1
          have fr := fun j => free_at X16.out j
          have zo := szs (block_lt X16.out)
          go_wp2_with fail
          have o8 := off2 w7 b16 (.int .i64 (q : Int)) (.slice a7 (m + 1) c7)
          have h6 := put2 X16.out (.int .i64 (q : Int)) (.slice a7 (m + 1) c7)
          replace HJ1 := Lib.hid ((o8.block _ (block_lt HJ1.out) (ne_type HJ1.out X16.out (by decide))).trans HJ1.out)
          replace HJ2 := Lib.hid ((o8.block _ (block_lt HJ2.out) (fun h => by have h : w.heap.size + 1 = b16 := h; have := G16.out; omega)).trans HJ2.out)
          replace HJ3 := Lib.hid ((o8.block _ (block_lt HJ3.out) (fun h => by have h : w.heap.size + 1 + 1 = b16 := h; have := G16.out; omega)).trans HJ3.out)
          replace HJ4 := Lib.hid ((o8.block _ (block_lt HJ4.out) (ne_type HJ4.out X16.out (by decide))).trans HJ4.out)
          replace HJ5 := Lib.hid ((o8.block _ (block_lt HJ5.out) (ne_type HJ5.out X16.out (by decide))).trans HJ5.out)
          replace R7 := Lib.hid (Row.off R7.out o8 (fun gg hgg h => Row.ne R7.out hgg X16.out (by decide) h))
          replace B5 := Lib.hid (B5.out.trans (o8.toBelow B5.out.size (fun q hq h => by have h : q = b16 := h; have := G16.out; omega)))
          have H6 := Lib.hid h6
          clear o0 o1 fr zo o8 h6 X16
          generalize World.setCell (World.setCell w7 _ _) _ _ = w8 at *
          refine onlyN_intro ?_
          go_wp2_with fail
          go_step3
          rename_i K0 hK0
          refine hK0 _ _ (PASS.out _ _ ⟨HZ.out, HFT.out, (m + 1), 0, b14, b14 + 1, b16, .slice a7 (m + 1) c7, rfl, ⟨rfl, rfl, rfl, rfl, rfl, rfl, rfl, rfl, rfl⟩, ?J⟩)
          case J =>
            have e0 : cutK g (g.T r.toNat) R (m + 1) now 0 = (⟨atK g (g.T r.toNat) R (m + 1), loadK g R (m + 1), now⟩, (List.range (m + 1)).map R) := rfl
            have hrow : IntRow w8 w.heap.size (.slice a7 (m + 1) c7) ((List.range (m + 1)).map R).length (fun i => ((List.range (m + 1)).map R).getD i 0) := by
              rw [List.length_map, List.length_range]
              refine Row.congr R7.out (fun i hi => ?_)
              have hgd : ((List.range (m + 1)).map R).getD i 0 = R i := by rw [List.getD, List.getElem?_map, List.getElem?_range hi]; rfl
              show [Value.int .i64 (R i)] = [Value.int .i64 (((List.range (m + 1)).map R).getD i 0)]
              rw [hgd]
            exact ⟨HDK.out, by rw [HCT.out]; exact HJ1.out, by rw [HQ0.out]; exact HJ2.out, HJ3.out, by rw [HTK.out]; exact HJ4.out, by rw [e0, HTK.out]; unfold cpC; dsimp only; rw [← HPA.out, ← HPL.out]; exact HJ5.out, by rw [HQ0.out]; exact H6.out, by rw [e0]; exact hrow, B5.out, ⟨rfl, G16.out, by have := jn2.out; omega⟩⟩
end Go.Proofs.YtlnfhlmgnppcbaaGreat

/- The night of the examples: travel times, the walk, what remains and what is kept. Plain theorems, no program. -/
namespace Go.Proofs.YtlnfhlmgnppcbaaGreat
set_option linter.unusedVariables false
set_option linter.unusedSimpArgs false
open Rd
theorem Rd.Rc.low {g : Gr} {src : Int} (p : Int → Int) (h0 : p src ≤ 0) (h : ∀ i, i < g.m → p (g.b i) ≤ p (g.a i) + g.c i) {v s k : Int} (r : Rc g src v s k) : p v ≤ s := by
  induction r with
  | nil => exact h0
  | snoc i r hi ih => have := h i hi; omega
theorem sec_is {g : Gr} (o : g.Ok) {src v s k : Int} (r : Rc g src v s k) (p : Int → Int) (h0 : p src ≤ 0) (h : ∀ i, i < g.m → p (g.b i) ≤ p (g.a i) + g.c i) (hv : p v = s) : sec g src v = s := by
  have hc : Rd.Can g src v := (can_iff o).2 ⟨_, _, r⟩
  have h1 := hc.best.2 _ _ r
  have h2 := hc.best.1.low p h0 h
  unfold leL at h1; omega
def smE : Nat → Ed := fun i => [(⟨0, 1, 100⟩ : Ed), ⟨1, 0, 100⟩, ⟨1, 2, 60⟩, ⟨2, 1, 60⟩, ⟨0, 2, 200⟩, ⟨2, 0, 200⟩].getD i ⟨0, 0, 0⟩
def smT : Nat → Tk := fun i => [(⟨0, 10, 1000, 2000⟩ : Tk)].getD i ⟨0, 0, 0, 0⟩
def smD : Nat → Nd := fun i => [(⟨1, 8⟩ : Nd), ⟨2, -5⟩].getD i ⟨0, 0⟩
/-- The night of the examples. -/
def smG (ea ta na : Option Addr) : Ng := ⟨3, ea, 6, 6, smE, ta, 1, 1, smT, na, 2, 2, smD, 10⟩
def smR : Nat → Int := fun i => [(0 : Int), 1].getD i 0
section
variable (ea ta na : Option Addr)
def smgr : Gr := gr Ed.frm Ed.til 3 6 smE
theorem smOk : smgr.Ok := by
  refine ⟨fun i hi => ?_, fun i hi => ?_, fun i hi => ?_⟩ <;> revert i <;> decide
theorem sm_01 : sec smgr 0 1 = 100 := sec_is smOk (k := 1) (Rc.snoc (g := smgr) 0 .nil (by decide)) (fun v => if v = 1 then 100 else if v = 2 then 160 else 0) (by decide) (by intro i hi; revert i; decide) (by decide)
theorem sm_12 : sec smgr 1 2 = 60 := sec_is smOk (k := 1) (Rc.snoc (g := smgr) 2 .nil (by decide)) (fun v => if v = 0 then 100 else if v = 2 then 60 else 0) (by decide) (by intro i hi; revert i; decide) (by decide)
theorem sm_10 : sec smgr 1 0 = 100 := sec_is smOk (k := 1) (Rc.snoc (g := smgr) 1 .nil (by decide)) (fun v => if v = 0 then 100 else if v = 2 then 60 else 0) (by decide) (by intro i hi; revert i; decide) (by decide)
theorem sm_20 : sec smgr 2 0 = 160 := sec_is smOk (k := 2) (Rc.snoc (g := smgr) 1 (Rc.snoc (g := smgr) 3 .nil (by decide)) (by decide)) (fun v => if v = 0 then 160 else if v = 1 then 60 else 0) (by decide) (by intro i hi; revert i; decide) (by decide)
theorem smS (a b : Int) : (smG ea ta na).S a b = sec smgr a b := rfl
theorem sm_night : nightE (smG ea ta na) = 0 := by rw [show nightE (smG ea ta na) = nightE (smG none none none) from rfl]; decide
theorem sm_names : namesE (smG ea ta na) 0 smR 2 = 0 := by rw [show namesE (smG ea ta na) 0 smR 2 = namesE (smG none none none) 0 smR 2 from rfl]; decide
theorem sm_now1 : nowK (smG ea ta na) (smT 0) smR 1 = 1180 := by
  have e : nowK (smG ea ta na) (smT 0) smR 1 = 1000 + (smG ea ta na).S 0 1 + (smG ea ta na).work 0 := rfl
  rw [e, smS, sm_01]; rfl
theorem sm_now2 : nowK (smG ea ta na) (smT 0) smR 2 = 1290 := by
  have e : nowK (smG ea ta na) (smT 0) smR 2 = nowK (smG ea ta na) (smT 0) smR 1 + (smG ea ta na).S 1 2 + (smG ea ta na).work 1 := rfl
  rw [e, sm_now1, smS, sm_12]; rfl
theorem sm_load (k : Nat) : loadK (smG ea ta na) smR k = loadK (smG none none none) smR k := by
  induction k with
  | zero => rfl
  | succ k ih => unfold loadK; rw [ih]; rfl
theorem sm_step : scan (stepK (smG ea ta na) (smT 0) smR) 2 = 0 := by
  have s0 : stepK (smG ea ta na) (smT 0) smR 0 = 0 := by
    unfold stepK
    rw [show (smG ea ta na).S (atK (smG ea ta na) (smT 0) smR 0) ((smG ea ta na).nd (smR 0)).node = 100 from sm_01, sm_load]
    decide
  have s1 : stepK (smG ea ta na) (smT 0) smR 1 = 0 := by
    unfold stepK
    rw [show (smG ea ta na).S (atK (smG ea ta na) (smT 0) smR 1) ((smG ea ta na).nd (smR 1)).node = 60 from sm_12, sm_load]
    decide
  simp [scan, s0, s1]
theorem sm_back : backK (smG ea ta na) (smT 0) smR 2 = 1480 := by
  unfold backK
  rw [show (smG ea ta na).S (atK (smG ea ta na) (smT 0) smR 2) (smT 0).dep = 160 from sm_20, sm_now2]; rfl
theorem sm_home : homeK (smG ea ta na) (smT 0) smR 2 = 0 := by
  unfold homeK
  rw [show (smG ea ta na).S (atK (smG ea ta na) (smT 0) smR 2) (smT 0).dep = 160 from sm_20, sm_back]; rfl
theorem sm_walk : walkE (smG ea ta na) 0 smR 2 = 0 := by
  unfold walkE
  rw [if_neg (by rw [sm_night]; simp), if_neg (by rw [sm_names]; simp), if_neg (by rw [show (smG ea ta na).T (0 : Int).toNat = smT 0 from rfl, sm_step]; simp)]
  exact sm_home ea ta na
theorem sm_late {now : Int} (h0 : 0 ≤ now) (h1 : now ≤ 86400) : lateE (smG ea ta na) 0 smR 2 1 now = if now < 1180 then 18 else 0 := by
  unfold lateE
  rw [if_neg (by rw [sm_walk]; simp), if_neg (by omega), show nowK (smG ea ta na) ((smG ea ta na).T (0 : Int).toNat) smR (1 : Int).toNat = 1180 from sm_now1 ea ta na]
theorem sm_rest1 : restE (smG ea ta na) 0 smR 2 1 1200 = 0 := by
  unfold restE delayK
  rw [if_neg (by rw [sm_late ea ta na (by omega) (by omega)]; simp), show nowK (smG ea ta na) ((smG ea ta na).T (0 : Int).toNat) smR (1 : Int).toNat = 1180 from sm_now1 ea ta na, show backK (smG ea ta na) ((smG ea ta na).T (0 : Int).toNat) smR 2 = 1480 from sm_back ea ta na]
  rfl
theorem sm_delay1 : delayK (smG ea ta na) 0 smR 1 1200 = 20 := by
  unfold delayK
  rw [show nowK (smG ea ta na) ((smG ea ta na).T (0 : Int).toNat) smR (1 : Int).toNat = 1180 from sm_now1 ea ta na]; rfl
theorem sm_rest2 : restE (smG ea ta na) 0 smR 2 1 1179 = 18 := by
  unfold restE
  rw [if_pos (by rw [sm_late ea ta na (by omega) (by omega)]; simp), sm_late ea ta na (by omega) (by omega)]; rfl
theorem sm_vis1 : visK (smG ea ta na) (smT 0) smR 1 = ⟨1, 1240, 1290, 3⟩ := by
  unfold visK
  rw [show (smG ea ta na).S (atK (smG ea ta na) (smT 0) smR 1) ((smG ea ta na).nd (smR 1)).node = 60 from sm_12, sm_now1, sm_now2, sm_load]; rfl
theorem sm_fits {load now : Int} : fitsB (smG ea ta na) (smT 0) ⟨1, load, now⟩ = decide (now + 100 + load * 10 ≤ 2000) := by
  unfold fitsB
  rw [show (smG ea ta na).S 1 (smT 0).dep = 100 from sm_10]
  simp [smG, smT]
theorem sm_ok {now : Int} : okB (smG ea ta na) (smT 0) ⟨1, 8, now⟩ 1 = decide (now + 300 ≤ 2000) := by
  unfold okB servB fitsB servO
  dsimp only
  rw [show (smG ea ta na).S 1 ((smG ea ta na).nd 1).node = 60 from sm_12, show (smG ea ta na).S ((smG ea ta na).nd 1).node (smT 0).dep = 160 from sm_20,
    show ((smG ea ta na).nd 1).mv = -5 from rfl, show (smG ea ta na).work 1 = 50 from rfl, show (smG ea ta na).h = 10 from rfl, show (smT 0).til = 2000 from rfl, show (smT 0).cap = 10 from rfl]
  rw [Bool.eq_iff_iff, Bool.and_eq_true, decide_eq_true_iff, decide_eq_true_iff, decide_eq_true_iff]
  omega
theorem sm_start (now : Int) : cutK (smG ea ta na) (smT 0) smR 1 now 0 = (⟨1, 8, now⟩, [0]) := by
  unfold cutK
  rw [sm_load]; rfl
theorem sm_cut1 : cutL (smG ea ta na) 0 smR 2 1 1700 = [0, 1] := by
  unfold cutL
  show (cutK (smG ea ta na) (smT 0) smR 1 1700 (0 + 1)).2 = _
  unfold cutK
  rw [sm_start]
  unfold cutS
  rw [show smR (1 + 0) = 1 from rfl, if_pos (by rw [sm_ok]; decide)]; rfl
theorem sm_cut2 : cutL (smG ea ta na) 0 smR 2 1 1701 = [0] := by
  unfold cutL
  show (cutK (smG ea ta na) (smT 0) smR 1 1701 (0 + 1)).2 = _
  unfold cutK
  rw [sm_start]
  unfold cutS
  rw [show smR (1 + 0) = 1 from rfl, if_neg (by rw [sm_ok]; decide)]
theorem sm_cutE {now : Int} (h0 : 1180 ≤ now) (h1 : now ≤ 86400) : cutE (smG ea ta na) 0 smR 2 1 now = if 1820 < now then 25 else 0 := by
  unfold cutE
  rw [if_neg (by rw [sm_late ea ta na (by omega) (by omega), if_neg (by omega)]; simp)]
  show (if fitsB (smG ea ta na) (smT 0) ⟨1, loadK (smG ea ta na) smR 1, now⟩ = false then _ else _) = _
  rw [sm_load, show loadK (smG none none none) smR 1 = 8 from rfl, sm_fits]
  by_cases h : 1820 < now
  · rw [if_pos h, if_pos (decide_eq_false (by omega))]
  · rw [if_neg h, if_neg (by simp; omega)]
end
end Go.Proofs.YtlnfhlmgnppcbaaGreat
