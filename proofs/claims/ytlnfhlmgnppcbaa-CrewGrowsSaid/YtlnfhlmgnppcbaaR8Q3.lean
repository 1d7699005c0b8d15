/- A value pushed onto a queue. Conditions: fewer than a million pushes. -/
import Derived.Test.YtlnfhlmgnppcbaaR8Q2
import Derived.Test.YtlnfhlmgnppcbaaBB
import Derived.Outline
namespace Go.Proofs.Ytlnfhlmgnppcbaa
open Go.RowKit
namespace QT
set_option linter.unusedVariables false
set_option linter.unusedSimpArgs false
set_option maxRecDepth 8000
theorem infoE : (Try.prog.info? 218).map (fun i => (i.zero, i.size, i.bytes)) = some (some (.agg #[.int .i64 0, .int .i64 0, .int .i64 0, .int .i64 0]), 4, 32) := by kernel_rfl
theorem ec_one (x : T × Int) : ∀ u ∈ ec x, u.oneCell' = true := by
  intro u hu
  simp [ec] at hu
  rcases hu with rfl | rfl | rfl | rfl <;> rfl
theorem ec_upd (G : Nat → T × Int) (n : Nat) (x : T × Int) (j : Nat) : upd (fun j => ec (G j)) n (ec x) j = ec (upd G n x j) := by
  by_cases hj : j = n
  · subst hj; rw [upd_same, upd_same]
  · rw [upd_ne hj, upd_ne hj]
/-- What a push leaves. -/
def Pushed (w : World) (base q : Nat) (d : D) (v : Value) (n : Nat) (p : Int) (G : Nat → T × Int) (x : T) (w' : World) : Prop :=
  ∃ v' G', QB w' q d v' (p + 1) ∧ RowE w' base v' (n + 1) G' ∧ Heap (befE (lt d)) G' (n + 1) ∧ (ents G' (n + 1)).Perm (ents G n ++ [(x, p)]) ∧ v'.ownBlock ≠ some q ∧
    Off (fun b => b = q ∨ some b = v.ownBlock) w w' ∧ ∀ g, v'.ownBlock = some g → v.ownBlock = some g ∨ w.heap.size ≤ g
/-- A push's loop: where the new entry is. -/
def Rising (w : World) (base q g cap : Nat) (d : D) (v : Value) (n : Nat) (p : Int) (G : Nat → T × Int) (x : T) (k : Nat) (wr : World) : Prop :=
  ∃ G', QB wr q d (.slice (some ⟨g, 0, none⟩) (n + 1) cap) (p + 1) ∧ RowE wr base (.slice (some ⟨g, 0, none⟩) (n + 1) cap) (n + 1) G' ∧ UpInv (befE (lt d)) G' (n + 1) k ∧ (ents G' (n + 1)).Perm (ents G n ++ [(x, p)]) ∧
    Off (fun b => b = q ∨ some b = v.ownBlock) w wr
theorem pushed_of {w wr : World} {base q g cap : Nat} {d : D} {v : Value} {n : Nat} {p : Int} {G G' : Nat → T × Int} {x : T} {k : Nat} (hq : QB wr q d (.slice (some ⟨g, 0, none⟩) (n + 1) cap) (p + 1)) (hr : RowE wr base (.slice (some ⟨g, 0, none⟩) (n + 1) cap) (n + 1) G')
    (hu : UpInv (befE (lt d)) G' (n + 1) k) (hp : (ents G' (n + 1)).Perm (ents G n ++ [(x, p)])) (ho : Off (fun b => b = q ∨ some b = v.ownBlock) w wr) (hgq : g ≠ q) (hgf : v.ownBlock = some g ∨ w.heap.size ≤ g)
    (hb : k = 0 ∨ befE (lt d) (G' k) (G' ((k - 1) / 2)) = false) {w' : World} (hw : Below wr.heap.size wr w') : Pushed w base q d v n p G x w' :=
  ⟨_, G', hq.off (X := fun _ => False) (Off.of_below hw) (fun h => h), Row.off (X := fun _ => False) hr (Off.of_below hw) (fun _ _ h => h), up_done hu hb, hp, by simp [Value.ownBlock]; exact hgq, ho.trans (Off.of_below (X := fun _ => False) hw) (fun _ _ h => h.elim), fun g' hg' => by
    simp [Value.ownBlock] at hg'; subst hg'; exact hgf⟩
set_option maxHeartbeats 2000000 in
theorem push (d : D) (w : World) (base q n : Nat) (v : Value) (p : Int) (G : Nat → T × Int) (x : T) (hq : QB w q d v p) (hr : RowE w base v n G) (hh : Heap (befE (lt d)) G n) (hne : v.ownBlock ≠ some q)
    (hb : base ≤ w.heap.size) (hn : n < 1000000) (hp : 0 ≤ p ∧ p < 1000000) :
    Calls Try.prog 142 #[.pointer (some ⟨q, 0, none⟩), vv x] w fun e w' => e = .returned (.tuple #[]) ∧ Pushed w base q d v n p G x w' := by
  have oE := befE_ord (lt_ord d)
  obtain ⟨i0, hi, hz0, hz1, hz2⟩ := info_parts infoE
  have ho : ∃ (o : Obj), o = .cells #[.int .i64 x.node, .int .i64 x.secs, .int .i64 x.edges] 208 := ⟨_, rfl⟩
  obtain ⟨o, ho⟩ := ho
  have b0 : Below w.heap.size w (w.alloc o) := (Below.refl _ _).alloc (Nat.le_refl _) o
  have x0 : (w.alloc o).heap[w.heap.size]? = some o := heap_alloc_new w o
  have z0 : (w.alloc o).heap.size = w.heap.size + 1 := by simp
  have q0 : QB (w.alloc o) q d v p := hq.off (X := fun _ => False) (Off.of_below b0) (fun h => h)
  have r0 : RowE (w.alloc o) base v n G := Row.off (X := fun _ => False) hr (Off.of_below b0) (fun _ _ h => h)
  have x1 : (w.alloc o).cell? ⟨w.heap.size, 0, none⟩ = some (.int .i64 x.node) := by rw [ho] at x0 ⊢; exact cell_at x0 0
  have x2 : (w.alloc o).cell? ⟨w.heap.size, 1, none⟩ = some (.int .i64 x.secs) := by rw [ho] at x0 ⊢; exact cell_at x0 1
  have x3 : (w.alloc o).cell? ⟨w.heap.size, 2, none⟩ = some (.int .i64 x.edges) := by rw [ho] at x0 ⊢; exact cell_at x0 2
  have hxx : x = x := rfl
  obtain ⟨xk, xt, xu⟩ := x
  clear hxx
  unfold vv
  dsimp only at *
  have HB := Lib.hid hb
  have HR := Lib.hid r0
  have HH := Lib.hid hh
  have q1 : (w.alloc o).cell? ⟨q, 1, none⟩ = some v := cell_at q0 1
  have q2 : (w.alloc o).cell? ⟨q, 2, none⟩ = some (.int .i64 p) := cell_at q0 2
  have HQ := Lib.hid q0
  have HX0 := Lib.hid x0
  have HZ := Lib.hid z0
  have HB0 := Lib.hid b0
  have HNE := Lib.hid hne
  clear hb r0 hh q0 hq hr x0 z0 b0 hne
  go_enter Try.func142, Try.ntmps142
  go_wp2_with fail
  rw [← ho]
  generalize w.alloc o = w0 at *
  obtain ⟨ι, hne, Fw, fb, hF⟩ := grow_family w0
  have hF : ∀ w', (gPlan w0 (fun _ => undef) [] [] []).D () w' → ∃ i, w' = Fw i := hF
  have fq1 := fun i => cell_kept (fb i) q1
  have fq2 := fun i => cell_kept (fb i) q2
  have fx1 := fun i => cell_kept (fb i) x1; have fx2 := fun i => cell_kept (fb i) x2; have fx3 := fun i => cell_kept (fb i) x3
  refine region_chain (gPlan w0 (fun _ => undef) [] [(11, fun b => .slice (some ⟨b, 0, none⟩) 1 1, .cells #[.int .i64 xk, .int .i64 xt, .int .i64 xu, .int .i64 p] 218)] []) () [0] [1, 2, 3, 4, 5, 6, 7, 8, 9, 10, 11] [12, 13, 14, 15] mixed (by kernel_rfl) (by kernel_rfl) (gPlan_ok (by simp) (by simp)) (gPlan_start _ _ _ _ _) ?_
  simp only [List.map_cons, List.map_nil, Array.getD_eq_getD_getElem?, List.getElem?_toArray, List.getElem?_cons_zero, List.getElem?_cons_succ, Option.getD_some]
  refine wpPure_cons _ rfl (fun w' => by go_simp; rfl) ?_
  simp only [Act.put, List.setIfInBounds_toArray, List.set_cons_succ, List.set_cons_zero]
  refine wpPure_nil ?_
  (repeat (refine wpChain_quiet hF rfl rfl rfl ?_; intro K hK; go_big_quiet_op; go_big_quiet_on))
  (refine wpChain_alloc _ _ rfl (List.mem_cons_self ..) rfl (fun w' => by go_simp) (fun b1 hb1 => ?_); simp only [Act.put, List.setIfInBounds_toArray, List.set_cons_succ, List.set_cons_zero])
  refine wpChain_nil (fun w4 hb4 hl4 => ?_)
  have hx1 : w4.heap[b1]? = some (.cells #[.int .i64 xk, .int .i64 xt, .int .i64 xu, .int .i64 p] 218) := (hl4.2 (11, b1, .cells #[.int .i64 xk, .int .i64 xt, .int .i64 xu, .int .i64 p] 218) (by simp)).2
  have O4 : Off (fun _ => False) w0 w4 := Off.of_below hb4
  have r4 := Row.off HR.out O4 (fun _ _ h => h)
  have q4 : QB w4 q d v p := HQ.out.off O4 (fun h => h)
  have HX1 := Lib.hid hx1
  have HO4 := Lib.hid O4
  have hbs : base ≤ w4.heap.size := by have := hb4.size; have := HB.out; have := HZ.out; omega
  clear hb4 hl4 hF fb fq1 fq2 hx1 O4 q1 q2 x1 x2 x3 fx1 fx2 fx3
  have Q4 := Lib.hid q4
  clear q4
  go_wp2_with (at_builtin; refine wpList_append_row _ rfl _ _ 214 rfl base 218 i0 _ 4 32 Try.underlying214 hi hz0 hz1 hz2 rfl (by decide) _ _ _ rfl r4 (fun j => ec_len (G j)) b1 1 [.int .i64 xk, .int .i64 xt, .int .i64 xu, .int .i64 p] rfl rfl 218 (0, 0) HX1.out (ec_one ((⟨xk, xt, xu⟩ : T), p)) (by omega) (by unfold maxLen; omega) hbs ?_)
  intro g cap wA hcap hcap2 hbg hgl hown hrA hgr
  have OA : Off (fun k => some k = v.ownBlock) w4 wA := Off.of_grown hgr
  have qA : QB wA q d v p := Q4.out.off OA (fun h => HNE.out h.symm)
  have hgq : g ≠ q := by
    intro e
    subst e
    rcases hrA.2 with ⟨h, _⟩ | ⟨g', _, cur, h, _, hg, _⟩
    · cases h
    · cases h
      unfold QB at qA
      rw [hg] at qA
      simp at qA
  have a0 : wA.frozen? ⟨q, 1, none⟩ = false := free_at qA 1
  have a1 : wA.cell? ⟨q, 1, none⟩ = some v := cell_at qA 1
  have a2 : wA.cell? ⟨q, 2, none⟩ = some (.int .i64 p) := cell_at qA 2
  have a3 : wA.frozen? ⟨q, 2, none⟩ = false := free_at qA 2
  have qB := Lib.hid (QB.set2 (p' := p + 1) (QB.set1 (v' := .slice (some ⟨g, 0, none⟩) (n + 1) cap) qA))
  have oB : Off (fun b => b = q) wA ((wA.setCell ⟨q, 1, none⟩ (.slice (some ⟨g, 0, none⟩) (n + 1) cap)).setCell ⟨q, 2, none⟩ (.int .i64 (p + 1))) := ((Off.refl (fun b => b = q) wA).setCell (fun _ => rfl) _).setCell (fun _ => rfl) _
  have rB0 : RowE _ base (.slice (some ⟨g, 0, none⟩) (n + 1) cap) (n + 1) (upd G n ((⟨xk, xt, xu⟩ : T), p)) := Row.congr (Row.off (X := fun b => b = q) hrA oB (fun g' hg' h => by cases hg'; exact hgq h)) (fun j _ => ec_upd G n ((⟨xk, xt, xu⟩ : T), p) j)
  have rB := Lib.hid rB0
  have OB : Off (fun b => b = q ∨ some b = v.ownBlock) w ((wA.setCell ⟨q, 1, none⟩ (.slice (some ⟨g, 0, none⟩) (n + 1) cap)).setCell ⟨q, 2, none⟩ (.int .i64 (p + 1))) :=
    ((Off.trans (Off.of_below HB0.out) HO4.out (fun _ _ h => h.elim)).trans OA (fun _ _ h => .inr h)).trans oB (fun _ _ h => .inl h)
  have OB' := Lib.hid OB
  have hgf : v.ownBlock = some g ∨ w.heap.size ≤ g := by
    rcases hown with h | h
    · exact .inl h
    · right; have := HO4.out.size; have := HZ.out; omega
  have HGF := Lib.hid hgf
  have HGQ := Lib.hid hgq
  clear OA qA oB OB hgr hrA hgf hown hgq rB0
  go_wp2_with fail
  refine onlyN_intro ?_
  go_wp2_with fail
  go_loopw [4] (fun i wr => ∃ k : Nat, k ≤ n ∧ i = .int .i64 k ∧ Rising w base q g cap d v n p G (⟨xk, xt, xu⟩ : T) k wr) (fun i _ => (intOf i).toNat)
  case atStart => exact ⟨n, Nat.le_refl _, rfl, _, qB.out, rB.out, up_start _ HH.out, List.Perm.of_eq (ents_push _ _ _), OB'.out⟩
  case round =>
    obtain ⟨k, hk, rfl, G', hq, hr, hu, hpm, hoff⟩ := hrel
    clear qB rB OB' HH HR HQ HX0 HX1 HO4 r4 a0 a1 a2 a3 Q4 hbs
    by_cases hk0 : k = 0
    · subst hk0
      go_wp2_with fail
      go_returns
      exact ⟨rfl, pushed_of hq hr hu hpm hoff HGQ.out HGF.out (.inl rfl) (Below.refl _ _)⟩
    · have e2 : (((k - 1) / 2 : Nat) : Int) = ((k : Int) - 1) / 2 := by omega
      have k1 : (0 : Int) < (k : Int) := by omega
      obtain ⟨r, hrr⟩ : ∃ r, r = befE (lt d) (G' k) (G' ((k - 1) / 2)) := ⟨_, rfl⟩
      have C := before d wr base q g (n + 1) cap (p + 1) G' k ((k - 1) / 2) hq hr (by omega) (by omega) hcap hcap2
      rw [← hrr, e2] at C
      have S := fun w5 (h5 : Below wr.heap.size wr w5) => swap d w5 base q g (n + 1) cap (p + 1) G' k ((k - 1) / 2) (hq.off (X := fun _ => False) (Off.of_below h5) (fun h => h)) (Row.off (X := fun _ => False) hr (Off.of_below h5) (fun _ _ h => h)) (by omega) (by omega) hcap hcap2 (fun e => HGQ.out e.symm)
      rw [e2] at S
      have HRR := Lib.hid hrr
      have E2 := Lib.hid e2
      have HC := Lib.hid C
      have HS := Lib.hid S
      have H1 := Lib.hid hq
      have H2 := Lib.hid hr
      have H3 := Lib.hid hu
      have H4 := Lib.hid hpm
      have H5 := Lib.hid hoff
      clear hrr e2 C S hq hr hu hpm hoff
      cases r
      · go_wp2_with (go_at_call 144; refine HC.out.mono ?_; rintro e w5 ⟨rfl, hb5⟩)
        go_returns
        exact ⟨rfl, pushed_of H1.out H2.out H3.out H4.out H5.out HGQ.out HGF.out (.inr HRR.out.symm) hb5⟩
      · go_wp2_with (first | (go_at_call 144; refine HC.out.mono ?_; rintro e w5 ⟨rfl, hb5⟩) | (go_at_call 145; refine (HS.out _ hb5).mono ?_; rintro e w6 ⟨rfl, hr6, ho6⟩))
        go_roundw
        case rel =>
          refine ⟨(k - 1) / 2, by omega, by rw [E2.out], swp G' k ((k - 1) / 2), ?_, hr6, up_step oE H3.out (by omega) (by omega) HRR.out.symm, (swp_perm (by omega) (by omega)).trans H4.out, ?_⟩
          · exact (H1.out.off (X := fun _ => False) (Off.of_below hb5) (fun h => h)).off ho6 (fun e => HGQ.out e.symm)
          · refine (H5.out.trans (Off.of_below (X := fun _ => False) hb5) (fun _ _ h => h.elim)).trans ho6 (fun b hb h => ?_)
            subst h
            rcases HGF.out with h | h
            · exact .inr h.symm
            · omega
        case measure => simp [intOf]; omega
end QT
end Go.Proofs.Ytlnfhlmgnppcbaa
