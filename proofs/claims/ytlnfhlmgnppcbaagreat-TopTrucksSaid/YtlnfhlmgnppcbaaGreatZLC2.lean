/- custody.Loads: the levels of a truck. -/
import Derived.Test.YtlnfhlmgnppcbaaGreatZLC39
import Derived.Test.YtlnfhlmgnppcbaaGreatZLC1
import Derived.Test.YtlnfhlmgnppcbaaGreatZCR2L
import Derived.BigQuiet
import Derived.BigRegion
namespace Go.Proofs.YtlnfhlmgnppcbaaGreat
open Go.RowKit Go.ChangeShapes Go.WideShapes Go.Deep Go.Maps
set_option linter.unusedVariables false
set_option linter.unusedSimpArgs false
theorem lookL {f : Fl} {truck : Int} {A O T : Nat} {v0 : Value} {wE : World} (hf : f.bikes.toNat ≤ 1000) (h0 : LvN f truck A wE.heap.size O T wE.heap.size v0 [] wE) : Look2 f 37 A wE O T v0 (LvN f truck A wE.heap.size O T) where
  off h ho h1 h2 h3 := h.off ho h1 h2 h3
  row h hg := by
    obtain ⟨g, n, c, F, rfl, r, _, _, _, h4, _, _⟩ := h.row
    have := World.ownsRow.lt r _ hg
    cases hg
    refine ⟨?_, this.2⟩
    rcases h4 with h4 | h4
    · exact .inl ⟨this.1, h4⟩
    · exact .inr h4
  start hb hl := by
    have h1 := h0.off (X := fun _ => False) (Off.of_below hb) (fun h => h) (fun h => h) (fun _ _ h => h)
    obtain ⟨g, n, c, F, e, r, e2, e3, e4, h4, h5⟩ := h1.row
    obtain ⟨a1, a2, a3, a4, a5⟩ := h1.apart
    refine ⟨h1.box, h1.tr, ⟨g, n, c, F, e, r, e2, e3, e4, ?_, h5⟩, a1, a2, hl, a4, a5⟩
    rcases h4 with h4 | h4
    · exact .inl h4
    · exact .inr (by
        exfalso
        obtain ⟨g', n', c', F', e', r', _, _, _, h4', _⟩ := h0.row
        have hh := (World.ownsRow.lt r' g' (by rw [e']; rfl)).2
        rw [e] at e'
        cases e'
        omega)
  seen x err hC hs hJ hl hc := note37 x err _ hC hs hJ hl hf
theorem alk {w : World} {o : Obj} {k : Nat} (h : w.heap[k]? = some o) (o2 : Obj) : (w.alloc o2).heap[k]? = some o := (Below.heap_alloc w o2 k (block_lt h)).trans h
def LoadsW (f : Fl) (l : List Ev) (truck : Int) (w : World) (e : Ending) (w' : World) : Prop :=
  Below w.heap.size w w' ∧ ((loadsE f truck ≠ 0 ∧ e = .returned (.tuple #[.slice none 0 0, .int .i64 (loadsE f truck)])) ∨
    (loadsE f truck = 0 ∧ ∃ (v : Value) (m : Nat) (F : Nat → Int × Int), e = .returned (.tuple #[v, .int .i64 0]) ∧ LvR w' w.heap.size v m F ∧ ents F m = loadsL f l truck))
set_option maxRecDepth 8000 in
set_option maxHeartbeats 4000000 in
theorem loads14 (f : Fl) (ao : Option Addr) (n c : Nat) (F : Nat → Ev) (truck : Int) (w : World) (hf : f.In w) (hs : EvSl w ao n c F) (hn : n ≤ 1000) (hin : ∀ e ∈ ents F n, inN e) :
    Calls Tryz.prog 14 #[.agg f.cells, .slice ao n c, .int .i64 truck] w (LoadsW f (ents F n) truck w) := by
  have B0 : Hid (Below w.heap.size w ((w.alloc (.cells f.cells 24)).alloc (.cells #[.int .i64 truck] 3))) := Lib.hid (by (repeat' (first | (with_reducible exact Below.refl _ _) | (with_reducible assumption) | (with_reducible refine Below.drew ?_) | (with_reducible refine below_drewN ?_ _) | (with_reducible refine Below.alloc ?_ ?_ _) | (with_reducible refine Below.setCell ?_ ?_ _) | go_size)))
  have X0 := Lib.hid (alk (heap_alloc_new w (.cells f.cells 24)) (.cells #[.int .i64 truck] 3))
  have X1 : Hid (((w.alloc (.cells f.cells 24)).alloc (.cells #[.int .i64 truck] 3)).heap[w.heap.size + 1]? = some (.cells #[.int .i64 truck] 3 (0, 0))) := Lib.hid (by have h0 := heap_alloc_new (w.alloc (.cells f.cells 24)) (.cells #[.int .i64 truck] 3); rwa [show (w.alloc (.cells f.cells 24)).heap.size = w.heap.size + 1 by simp] at h0)
  obtain ⟨w1, hw1⟩ : ∃ w1, w1 = (w.alloc (.cells f.cells 24)).alloc (.cells #[.int .i64 truck] 3) := ⟨_, rfl⟩
  rw [← hw1] at B0 X0 X1
  have HW1 := Lib.hid hw1
  have FE := Lib.hid (fleet35 f w1 (hf.below B0.out))
  have FZ : Hid (fleetE f = 0 → 1 ≤ f.bikes ∧ f.bikes ≤ 128) := Lib.hid (fun h => (fleetE_zero h).1)
  have HFC : Hid (f.cells = #[.int .i64 f.bikes, .int .i64 f.riders, .int .i64 f.devs, .slice f.ad f.nd f.cd, .slice f.a2 f.nt f.ct]) := Lib.hid rfl
  rw [HFC.out] at X0 HW1 FE ⊢
  have HF0 := Lib.hid hf
  have HS0 := Lib.hid hs
  have HIN := Lib.hid hin
  have x0 := cell_at X0.out 0
  have x1 := cell_at X0.out 1
  have x2 := cell_at X0.out 2
  have x3 := cell_at X0.out 3
  have x4 := cell_at X0.out 4
  have zx := szs (block_lt X0.out)
  clear hw1 hf hs hin
  go_enter Tryz.func14, Tryz.ntmps14
  go_wp2_with fail
  rw [← HW1.out]
  go_wp2_with fail
  refine FE.out.mono ?_
  rintro e w2 ⟨rfl, b2⟩
  have B2 := Lib.hid (B0.out.trans (b2.mono B0.out.size))
  have X1' := Lib.hid ((b2.block _ (block_lt X1.out)).trans X1.out)
  replace x0 := cell_kept b2 x0
  replace x1 := cell_kept b2 x1
  replace x2 := cell_kept b2 x2
  replace x3 := cell_kept b2 x3
  replace x4 := cell_kept b2 x4
  have zx2 := szs (cell_lt x0)
  have y0 := cell_at X1'.out 0
  have zy := szs (block_lt X1'.out)
  clear FE X0 X1 HW1 B0 zx b2
  obtain ⟨xe, hxe⟩ : ∃ xe, xe = fleetE f := ⟨_, rfl⟩
  rw [← hxe] at FZ ⊢
  have HXE := Lib.hid hxe
  clear hxe
  by_cases hx : xe = 0
  · subst hx
    by_cases ht0 : truck < 0
    · have tt : decide (truck < 0) = true := decide_eq_true ht0
      have HE7 : Hid (loadsE f truck = 7) := Lib.hid (by unfold loadsE; rw [if_neg (by rw [← HXE.out]; simp), if_pos (.inl ht0)])
      clear FZ ht0
      go_wp2_with fail
      go_returns
      exact ⟨B2.out, .inl ⟨by rw [HE7.out]; decide, by rw [HE7.out]; rfl⟩⟩
    have tt : decide (truck < 0) = false := decide_eq_false ht0
    by_cases ht1 : (f.nt : Int) ≤ truck
    · have tu : decide ((f.nt : Int) ≤ truck) = true := decide_eq_true ht1
      have HE7 : Hid (loadsE f truck = 7) := Lib.hid (by unfold loadsE; rw [if_neg (by rw [← HXE.out]; simp), if_pos (.inr ht1)])
      clear FZ ht0 ht1
      go_wp2_with fail
      go_returns
      exact ⟨B2.out, .inl ⟨by rw [HE7.out]; decide, by rw [HE7.out]; rfl⟩⟩
    have tu : decide ((f.nt : Int) ≤ truck) = false := decide_eq_false ht1
    have HE0 : Hid (loadsE f truck = 0) := Lib.hid (by unfold loadsE; rw [if_neg (by rw [← HXE.out]; simp), if_neg (fun h => h.elim ht0 ht1)])
    have HFB : Hid (f.bikes.toNat ≤ 1000) := Lib.hid (by have := FZ.out rfl; omega)
    clear FZ ht0 ht1
    have bw3 : Below w2.heap.size w2 ((w2.alloc (.cells #[.int .i64 0, .int .i64 0] 46)).alloc (.cells #[.slice (some ⟨w2.heap.size, 0, none⟩) 1 1] 42)) := by (repeat' (first | (with_reducible exact Below.refl _ _) | (with_reducible assumption) | (with_reducible refine Below.drew ?_) | (with_reducible refine below_drewN ?_ _) | (with_reducible refine Below.alloc ?_ ?_ _) | (with_reducible refine Below.setCell ?_ ?_ _) | go_size))
    have XG : ((w2.alloc (.cells #[.int .i64 0, .int .i64 0] 46)).alloc (.cells #[.slice (some ⟨w2.heap.size, 0, none⟩) 1 1] 42)).heap[w2.heap.size]? = some (.cells #[.int .i64 0, .int .i64 0] 46 (0, 0)) := alk (heap_alloc_new w2 _) _
    have XO : ((w2.alloc (.cells #[.int .i64 0, .int .i64 0] 46)).alloc (.cells #[.slice (some ⟨w2.heap.size, 0, none⟩) 1 1] 42)).heap[w2.heap.size + 1]? = some (.cells #[.slice (some ⟨w2.heap.size, 0, none⟩) 1 1] 42 (0, 0)) := by
      have h0 := heap_alloc_new (w2.alloc (.cells #[.int .i64 0, .int .i64 0] 46)) (.cells #[.slice (some ⟨w2.heap.size, 0, none⟩) 1 1] 42)
      rwa [show (w2.alloc (.cells #[.int .i64 0, .int .i64 0] 46)).heap.size = w2.heap.size + 1 by simp] at h0
    have SZ3 : ((w2.alloc (.cells #[.int .i64 0, .int .i64 0] 46)).alloc (.cells #[.slice (some ⟨w2.heap.size, 0, none⟩) 1 1] 42)).heap.size = w2.heap.size + 2 := by simp
    obtain ⟨w3, hw3⟩ : ∃ w3, w3 = (w2.alloc (.cells #[.int .i64 0, .int .i64 0] 46)).alloc (.cells #[.slice (some ⟨w2.heap.size, 0, none⟩) 1 1] 42) := ⟨_, rfl⟩
    have XT := (bw3.block _ (block_lt X1'.out)).trans X1'.out
    rw [← hw3] at bw3 XG XO SZ3 XT
    have HW3 := Lib.hid hw3
    have B3 : Below w.heap.size w w3 := B2.out.trans (bw3.mono B2.out.size)
    have hT2 := block_lt X1'.out
    have hw2 := B2.out.size
    have L0 : LvN f truck w.heap.size w3.heap.size (w2.heap.size + 1) (w.heap.size + 1) w3.heap.size (.slice (some ⟨w2.heap.size, 0, none⟩) 1 1) [] w3 :=
      ⟨XO, XT, ⟨w2.heap.size, 1, 1, fun _ => (0, 0), rfl, Row.of_block XG hw2 (lvf_len _) rfl (by unfold maxLen; omega), rfl, by omega, by simp, .inl (by omega), by omega, by omega⟩, by omega, by omega, Nat.le_refl _, by omega, by omega⟩
    have RN := Lib.hid (runTellL f w w3 (lookL HFB.out L0) ao n c F HF0.out HS0.out hn HIN.out B3 (by omega) (by omega) XO (by omega))
    have HT2 := Lib.hid hT2
    have HW2 := Lib.hid hw2
    rw [HFC.out] at RN
    clear hw3 bw3 XG XO SZ3 XT B3 L0 hT2 hw2
    go_wp2_with fail
    rw [← HW3.out]
    refine RN.out.mono ?_
    rintro e w4 ⟨b4, ⟨h1, _⟩ | ⟨_, sb, lo, v, rfl, hJ⟩⟩
    · exact absurd HXE.out.symm h1
    obtain ⟨g, m, c4, F4, rfl, r4, he4, hm0, _⟩ := hJ.row
    have R4 := Lib.hid r4
    have HE4 := Lib.hid he4
    have B4 := Lib.hid b4
    have o0 := cell_at hJ.box 0
    have zo := szs (block_lt hJ.box)
    have CC := Lib.hid (compact39 w.heap.size g m c4 F4 w4 r4)
    have HGW := Lib.hid (World.ownsRow.lt r4 g rfl).1
    clear RN b4 hJ r4 he4
    go_wp2_with fail
    refine CC.out.mono ?_
    rintro e w5 ⟨m5, F5, rfl, hm5, he5, r5, o5⟩
    have R5 := Lib.hid r5
    have HE5 := Lib.hid he5
    have B5 := Lib.hid (B4.out.trans (o5.toBelow B4.out.size (fun q hq h => by have := HGW.out; omega)))
    clear CC r5 he5 o5
    go_wp2_with fail
    go_returns
    exact ⟨B5.out, .inr ⟨HE0.out, _, m5, F5, rfl, R5.out, by rw [HE5.out, HE4.out]; exact raw_loads f _ truck⟩⟩
  · have tx : (xe != 0) = true := by simpa using hx
    have HEX : Hid (loadsE f truck = xe) := Lib.hid (by unfold loadsE; rw [← HXE.out, if_pos hx])
    have HXN := Lib.hid hx
    clear hx FZ
    go_wp2_with fail
    go_returns
    exact ⟨B2.out, .inl ⟨by rw [HEX.out]; exact HXN.out, by rw [HEX.out]; rfl⟩⟩
end Go.Proofs.YtlnfhlmgnppcbaaGreat
