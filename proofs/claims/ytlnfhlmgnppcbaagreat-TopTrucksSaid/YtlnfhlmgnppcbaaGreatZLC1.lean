/- custody.Loads notes the level of a truck behind an event. -/
import Derived.Test.YtlnfhlmgnppcbaaGreatZLC0
import Derived.Test.YtlnfhlmgnppcbaaGreatZCMR2
import Derived.BigQuiet
import Derived.BigRegion
namespace Go.Proofs.YtlnfhlmgnppcbaaGreat
open Go.RowKit Go.ChangeShapes Go.WideShapes Go.Deep Go.Maps
set_option linter.unusedVariables false
set_option linter.unusedSimpArgs false
def rawN (f : Fl) (truck : Int) (l : List Ev) : List (Int × Int) := rawL f.bikes.toNat truck startS l [(0, 0)]
structure LvN (f : Fl) (truck : Int) (A B O T lo : Nat) (v : Value) (l : List Ev) (w : World) : Prop where
  box : w.heap[O]? = some (.cells #[v] 42 (0, 0))
  tr : w.heap[T]? = some (.cells #[.int .i64 truck] 3 (0, 0))
  row : ∃ (g n c : Nat) (F : Nat → Int × Int), v = .slice (some ⟨g, 0, none⟩) n c ∧ LvR w A v n F ∧ ents F n = rawN f truck l ∧ 0 < n ∧ n ≤ l.length + 1 ∧ (g < B ∨ lo ≤ g) ∧ g ≠ O ∧ g ≠ T
  apart : O < B ∧ T < B ∧ B ≤ lo ∧ A ≤ B ∧ O ≠ T
theorem LvN.off {X : Nat → Prop} {f : Fl} {truck : Int} {A B O T lo : Nat} {v : Value} {l : List Ev} {w w' : World} (h : LvN f truck A B O T lo v l w) (ho : Off X w w') (h1 : ¬ X O) (h2 : ¬ X T) (h3 : ∀ g, v.ownBlock = some g → ¬ X g) : LvN f truck A B O T lo v l w' := by
  obtain ⟨g, n, c, F, e, r, h4⟩ := h.row
  exact ⟨(ho.block _ (block_lt h.box) h1).trans h.box, (ho.block _ (block_lt h.tr) h2).trans h.tr, ⟨g, n, c, F, e, Row.off r ho h3, h4⟩, h.apart⟩
theorem rawN_snoc (f : Fl) (truck : Int) (l : List Ev) (x : Ev) : rawN f truck (l ++ [x]) = rawS (rawN f truck l) x.at' (cntN ((l ++ [x]).foldl applyK startS).F 4 truck f.bikes.toNat) := rawL_snoc _ _ _ _ _ _
set_option maxRecDepth 8000 in
set_option maxHeartbeats 4000000 in
theorem note37 {f : Fl} {truck : Int} {A B O T base lo : Nat} {L : Lay} {s : CSt} {v : Value} {l : List Ev} (x : Ev) (err : Int) (w : World) (hC : CM base lo f L s w) (hs : s = (if err = 0 then l ++ [x] else l).foldl applyK startS) (h : LvN f truck A B O T lo v l w) (hl : l.length ≤ 1000) (hf : f.bikes.toNat ≤ 1000) :
    Calls Tryz.prog 37 #[.pointer (some ⟨L.sb, 0, none⟩), .agg (eC x), .int .i64 err, .pointer (some ⟨T, 0, none⟩), .pointer (some ⟨O, 0, none⟩)] w fun e w' => e = .returned (.tuple #[]) ∧ ∃ v', LvN f truck A B O T lo v' (if err = 0 then l ++ [x] else l) w' ∧
      (∀ g, v'.ownBlock = some g → v.ownBlock = some g ∨ w.heap.size ≤ g) ∧ Off (fun q => q = O ∨ v.ownBlock = some q) w w' := by
  by_cases he : err = 0
  · subst he
    have hRN := rawN_snoc f truck l x
    rw [if_pos rfl] at hs ⊢
    rw [← hs] at hRN
    obtain ⟨v1, v2, v3, v4, v5, v6, v7, v8, v9⟩ := x
    unfold eC at *
    dsimp only at hRN ⊢
    obtain ⟨g, n, c, F, rfl, r, he2, hn0, hn1, hgB, hgO, hgT⟩ := h.row
    rw [← he2] at hRN
    have b0 : Below w.heap.size w (w.alloc (.cells #[.int .i64 v1, .int .i64 v2, .int .i64 v3, .int .i64 v4, .int .i64 v5, .int .i64 v6, .int .i64 v7, .int .i64 v8, .int .i64 v9] 81)) := by (repeat' (first | (with_reducible exact Below.refl _ _) | (with_reducible assumption) | (with_reducible refine Below.drew ?_) | (with_reducible refine below_drewN ?_ _) | (with_reducible refine Below.alloc ?_ ?_ _) | (with_reducible refine Below.setCell ?_ ?_ _) | go_size))
    have X0 := heap_alloc_new w (.cells #[.int .i64 v1, .int .i64 v2, .int .i64 v3, .int .i64 v4, .int .i64 v5, .int .i64 v6, .int .i64 v7, .int .i64 v8, .int .i64 v9] 81)
    obtain ⟨w1, hw1⟩ : ∃ w1, w1 = w.alloc (.cells #[.int .i64 v1, .int .i64 v2, .int .i64 v3, .int .i64 v4, .int .i64 v5, .int .i64 v6, .int .i64 v7, .int .i64 v8, .int .i64 v9] 81) := ⟨_, rfl⟩
    rw [← hw1] at b0 X0
    have HW1 := Lib.hid hw1
    have CT := Lib.hid (count38 (hC.below b0) 4 truck hf)
    have B0 := Lib.hid b0
    have XX := Lib.hid X0
    have HL0 := Lib.hid h
    have HR0 := Lib.hid r
    have HRN := Lib.hid hRN
    have HLO := Lib.hid hC.hi
    have HTS := Lib.hid (block_lt h.tr)
    have HOS := Lib.hid (block_lt h.box)
    obtain ⟨ct, hct⟩ : ∃ ct : Nat, ct = cntN s.F 4 truck f.bikes.toNat := ⟨_, rfl⟩
    rw [← hct] at CT HRN
    have hgl := (World.ownsRow.lt r g rfl)
    have hT1 : w.cell? ⟨T, 0, none⟩ = some (.int .i64 truck) := cell_at h.tr 0
    have zT := szs (block_lt h.tr)
    clear hw1 hC h r hRN hct b0 X0 hs he2
    go_enter Tryz.func37, Tryz.ntmps37
    go_wp2_with fail
    rw [← HW1.out]
    go_wp2_with fail
    refine CT.out.mono ?_
    rintro e w2 ⟨rfl, b2⟩
    have B2 := Lib.hid (B0.out.trans (b2.mono B0.out.size))
    have X2 := Lib.hid ((b2.block _ (block_lt XX.out)).trans XX.out)
    have L2 := Lib.hid (HL0.out.off (X := fun _ => False) (Off.of_below B2.out) (fun h => h) (fun h => h) (fun _ _ h => h))
    have R2 : Hid (LvR w2 A (.slice (some ⟨g, 0, none⟩) n c) n F) := Lib.hid (Row.off (X := fun _ => False) HR0.out (Off.of_below B2.out) (fun _ _ h => h))
    clear CT B0 XX HL0 HR0 HW1 hT1 zT b2
    have o0 := cell_at L2.out.box 0
    have of := free_at L2.out.box 0
    have zo := szs (block_lt L2.out.box)
    have y2 := cell_at X2.out 2
    have zy := szs (block_lt X2.out)
    have rr := R2.out.at (show n - 1 < n by omega)
    have rf := fun j => Row.free R2.out j
    have zr := szs (World.ownsRow.lt R2.out g rfl).2
    obtain ⟨m, rfl⟩ : ∃ m, n = m + 1 := ⟨n - 1, by omega⟩
    rw [Nat.add_sub_cancel] at rr
    obtain ⟨r0, r1⟩ := rr
    have HQ : Hid ((F m).1 = (F (m + 1 - 1)).1) := Lib.hid (by rw [Nat.add_sub_cancel])
    obtain ⟨q1, hq1⟩ : ∃ q1, q1 = (F m).1 := ⟨_, rfl⟩
    rw [← hq1] at r0
    have HQ1 := Lib.hid hq1
    clear hq1
    by_cases hq : q1 = v3
    · have tq : (q1 == v3) = true := by simpa using hq
      have HQ3 := Lib.hid hq
      clear hq
      go_wp2_with fail
      (refine region_all (fun i : Nat => World.drewN _ i) mixed (by kernel_rfl) ⟨1, rfl⟩ ?_; (repeat (any_goals (first | go_big_quiet_step (fail) | quiet_step (fail) | (refine wpQuiet_step (fun K hK => ?_); go_simp; split <;> (refine hK _ ?_; clear hK K))))); (all_goals (refine wpQuiet_nil (fun nq => ?_))))
      have BQ := below_drewN (Below.refl w2.heap.size w2) nq
      have R3 : Hid (LvR (w2.drewN nq) A (.slice (some ⟨g, 0, none⟩) (m + 1) c) (m + 1) F) := Lib.hid (Row.off (X := fun _ => False) R2.out (Off.of_below BQ) (fun _ _ h => h))
      have L3 := Lib.hid (L2.out.off (X := fun _ => False) (Off.of_below BQ) (fun h => h) (fun h => h) (fun _ _ h => h))
      have B3 := Lib.hid (B2.out.trans (BQ.mono B2.out.size))
      clear BQ R2 L2 o0 of zo y2 zy r0 r1 rf zr X2 B2
      generalize w2.drewN nq = w3 at *
      have o0 := cell_at L3.out.box 0
      have zo := szs (block_lt L3.out.box)
      have rr := R3.out.at (show m < m + 1 by omega)
      obtain ⟨r0, r1⟩ := rr
      have rf := fun j => Row.free R3.out j
      have zr := szs (World.ownsRow.lt R3.out g rfl).2
      go_wp2_with fail
      go_end0
      have og : Off (fun q => q = g) w3 (w3.setCell ⟨g, m * 2 + 1, none⟩ (.int .i64 (ct : Int))) := (Off.refl (fun q => q = g) w3).setCell (p := ⟨g, m * 2 + 1, none⟩) (fun _ => rfl) _
      refine ⟨rfl, .slice (some ⟨g, 0, none⟩) (m + 1) c, ⟨(og.block _ (block_lt L3.out.box) (fun e => hgO e.symm)).trans L3.out.box, (og.block _ (block_lt L3.out.tr) (fun e => hgT e.symm)).trans L3.out.tr, ⟨g, m + 1, c, upd F m ((F m).1, (ct : Int)), rfl, R3.out.set (by omega) _, ?_, by omega, by simp; omega, hgB, hgO, hgT⟩, L3.out.apart⟩, fun g' h => .inl h, (Off.of_below B3.out).trans og (fun i _ h => .inr (by rw [h]; rfl))⟩
      rw [HRN.out, rawS_set (by omega) (by rw [← HQ.out, ← HQ1.out]; exact HQ3.out), Nat.add_sub_cancel]
    · have tq : (q1 == v3) = false := by simpa using hq
      have HQ3 := Lib.hid hq
      clear hq
      go_wp2_with fail
      (refine region_all (fun i : Nat => World.drewN _ i) mixed (by kernel_rfl) ⟨1, rfl⟩ ?_; (repeat (any_goals (first | go_big_quiet_step (fail) | quiet_step (fail) | (refine wpQuiet_step (fun K hK => ?_); go_simp; split <;> (refine hK _ ?_; clear hK K))))); (all_goals (refine wpQuiet_nil (fun nq => ?_))))
      have BQ := below_drewN (Below.refl w2.heap.size w2) nq
      have R3 : Hid (LvR (w2.drewN nq) A (.slice (some ⟨g, 0, none⟩) (m + 1) c) (m + 1) F) := Lib.hid (Row.off (X := fun _ => False) R2.out (Off.of_below BQ) (fun _ _ h => h))
      have L3 := Lib.hid (L2.out.off (X := fun _ => False) (Off.of_below BQ) (fun h => h) (fun h => h) (fun _ _ h => h))
      have B3 := Lib.hid (B2.out.trans (BQ.mono B2.out.size))
      have X3 := Lib.hid ((BQ.block _ (block_lt X2.out)).trans X2.out)
      clear BQ R2 L2 o0 of zo y2 zy r0 r1 rf zr X2 B2
      generalize w2.drewN nq = w3 at *
      have o0 := cell_at L3.out.box 0
      have of := free_at L3.out.box 0
      have zo := szs (block_lt L3.out.box)
      have y2 := cell_at X3.out 2
      have zy := szs (block_lt X3.out)
      have ba : Below w3.heap.size w3 (w3.alloc (.cells #[.int .i64 v3, .int .i64 (ct : Int)] 46)) := by (repeat' (first | (with_reducible exact Below.refl _ _) | (with_reducible assumption) | (with_reducible refine Below.drew ?_) | (with_reducible refine below_drewN ?_ _) | (with_reducible refine Below.alloc ?_ ?_ _) | (with_reducible refine Below.setCell ?_ ?_ _) | go_size))
      have XB := Lib.hid (heap_alloc_new w3 (.cells #[.int .i64 v3, .int .i64 (ct : Int)] 46))
      have RA : Hid (LvR (w3.alloc (.cells #[.int .i64 v3, .int .i64 (ct : Int)] 46)) A (.slice (some ⟨g, 0, none⟩) (m + 1) c) (m + 1) F) := Lib.hid (Row.off (X := fun _ => False) R3.out (Off.of_below ba) (fun _ _ h => h))
      have LA := Lib.hid (L3.out.off (X := fun _ => False) (Off.of_below ba) (fun h => h) (fun h => h) (fun _ _ h => h))
      have BA := Lib.hid (B3.out.trans (ba.mono B3.out.size))
      have HAS : A ≤ (w3.alloc (.cells #[.int .i64 v3, .int .i64 (ct : Int)] 46)).heap.size := Nat.le_trans hgl.1 (Nat.le_trans (Nat.le_of_lt hgl.2) BA.out.size)
      clear ba
      go_wp2_with (at_builtin; go_loud (refine wpList_append_LvR _ rfl (.tmp 31) (.tmp 36) rfl A _ _ F rfl RA.out w3.heap.size v3 (ct : Int) rfl 46 (0, 0) XB.out (by omega) HAS ?_))
      intro g2 cap w4 k1 k2 k3 k4 r4 o4
      have R4 := Lib.hid r4
      have O4 := Lib.hid o4
      have X4 := (o4.block _ (block_lt LA.out.box) (fun e => hgO (by cases e; rfl))).trans LA.out.box
      have T4 := (o4.block _ (block_lt LA.out.tr) (fun e => hgT (by cases e; rfl))).trans LA.out.tr
      have HX4 := Lib.hid X4
      have HT4 := Lib.hid T4
      have HK4 := Lib.hid k4
      have oc4 := cell_at X4 0
      have of4 := free_at X4 0
      have zo4 := szs (block_lt X4)
      clear r4 o4 X4 T4 o0 of zo y2 zy k4
      go_wp2_with fail
      go_end0
      have hAsz : w.heap.size ≤ (w3.alloc (.cells #[.int .i64 v3, .int .i64 (ct : Int)] 46)).heap.size := BA.out.size
      have hg2 : g2 = g ∨ w.heap.size ≤ g2 := by
        rcases HK4.out with h | h
        · left; cases h; rfl
        · right
          have hs3 : w.heap.size ≤ w3.heap.size := B3.out.size
          first | omega | exact Nat.le_trans hAsz h
      have hg2O : g2 ≠ O := by
        rcases hg2 with rfl | h
        · exact hgO
        · have := HOS.out; omega
      have hg2T : g2 ≠ T := by
        rcases hg2 with rfl | h
        · exact hgT
        · have := HTS.out; omega
      have os : Off (fun q => q = O) w4 (w4.setCell ⟨O, 0, none⟩ (.slice (some ⟨g2, 0, none⟩) (m + 1 + 1) cap)) := (Off.refl (fun q => q = O) w4).setCell (p := ⟨O, 0, none⟩) (fun _ => rfl) _
      refine ⟨rfl, .slice (some ⟨g2, 0, none⟩) (m + 1 + 1) cap, ⟨?_, (os.block _ (block_lt HT4.out) (fun e => LA.out.apart.2.2.2.2 e.symm)).trans HT4.out, ⟨g2, m + 1 + 1, cap, upd F (m + 1) (v3, (ct : Int)), rfl, Row.off R4.out os (fun g' hg' h => by cases hg'; exact hg2O h), ?_, by omega, by simp; omega, ?_, hg2O, hg2T⟩, LA.out.apart⟩, fun g' h => ?_, ((Off.of_below BA.out).trans O4.out (fun i _ h => .inr h)).trans os (fun i _ h => .inl h)⟩
      · rw [setCell_at HX4.out, setAt_same (block_lt HX4.out)]; rfl
      · rw [HRN.out, rawS_push (by omega) (by rw [← HQ.out, ← HQ1.out]; exact HQ3.out)]
      · rcases hg2 with rfl | h
        · exact hgB
        · exact .inr (Nat.le_trans HLO.out h)
      · cases h
        rcases hg2 with rfl | h
        · exact .inl rfl
        · exact .inr h
  · have te : (err != 0) = true := by simpa using he
    rw [if_neg he] at hs ⊢
    have BB : Hid (Below w.heap.size w (w.alloc (.cells (eC x) 81))) := Lib.hid (by (repeat' (first | (with_reducible exact Below.refl _ _) | (with_reducible assumption) | (with_reducible refine Below.drew ?_) | (with_reducible refine below_drewN ?_ _) | (with_reducible refine Below.alloc ?_ ?_ _) | (with_reducible refine Below.setCell ?_ ?_ _) | go_size)))
    have HL := Lib.hid h
    obtain ⟨v1, v2, v3, v4, v5, v6, v7, v8, v9⟩ := x
    unfold eC at *
    dsimp only at BB ⊢
    clear h hs hC
    go_enter Tryz.func37, Tryz.ntmps37
    go_wp2_with fail
    go_returns
    exact ⟨rfl, v, HL.out.off (X := fun _ => False) (Off.of_below BB.out) (fun h => h) (fun h => h) (fun _ _ h => h), fun g h => .inl h, Off.of_below BB.out⟩
end Go.Proofs.YtlnfhlmgnppcbaaGreat
