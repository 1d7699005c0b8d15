/- The program's Table walked. -/
import Derived.Test.YtbmlnjdfnjjjhaaZ0
import Derived.Test.YtbmlnjdfnjjjhaaT2
namespace Go.Proofs.Ytbmlnjdfnjjjhaa
open Go.RowKit
set_option linter.unusedVariables false
set_option linter.unusedSimpArgs false
open Rd
def badN (N : Int) (K : Nat → Int) : Nat → Int := fun i => if nodeB N (K i) = true then 0 else 7
noncomputable def tabE (N : Int) (m : Nat) (E : Nat → Ed) (q : Nat) (K : Nat → Int) : Int := if roadE N m E ≠ 0 then roadE N m E else if 64 < q then 8 else scan (badN N K) q
/-- What Table returns. -/
def Tb (N : Int) (m : Nat) (E : Nat → Ed) (q : Nat) (K : Nat → Int) (w : World) (e : Ending) (w' : World) : Prop :=
  Below w.heap.size w w' ∧
    ((tabE N m E q K ≠ 0 ∧ e = .returned (.tuple #[.slice none 0 0, .int .i64 (tabE N m E q K)])) ∨
     (∃ (n : Nat) (v : Value), tabE N m E q K = 0 ∧ N = n ∧ Right n m E ∧ q ≤ 64 ∧ e = .returned (.tuple #[v, .int .i64 0]) ∧ Tab w' w.heap.size v q q (fun i j => sec (gr Ed.frm Ed.til n m E) (K i) (K j))))
theorem info27 : (Try.prog.info? 27).map (fun i => (i.zero, i.size, i.bytes)) = some (some (.slice none 0 0), 1, 24) := by kernel_rfl
theorem slice_one (a : Option Addr) (n c : Nat) : ∀ u ∈ [Value.slice a n c], u.oneCell' = true := by
  intro u hu
  simp at hu
  subst hu; rfl
def tabF (K : Nat → Int) (f : Int → Int) (k : Nat) : Int → Int := fun i => if i < k then f (K i.toNat) else 0
theorem tabF_up (K : Nat → Int) (f : Int → Int) (k : Nat) (i : Int) (hi : 0 ≤ i) : upz (tabF K f k) k (f (K k)) i = tabF K f (k + 1) i := by
  unfold upz tabF
  by_cases e : i = k
  · subst e; simp; omega
  · by_cases e2 : i < k
    · rw [if_neg e, if_pos e2, if_pos (by omega)]
    · rw [if_neg e, if_neg e2, if_neg (by omega)]
set_option maxHeartbeats 4000000 in
set_option maxRecDepth 100000 in
theorem table16 (N : Int) (ao : Option Addr) (m c : Nat) (E : Nat → Ed) (an : Option Addr) (q cn : Nat) (K : Nat → Int) (w : World) (hw : Net w ao m c E) (hK : Ints w an q K) (hqc : q ≤ cn) (hcn : cn ≤ 9223372036854775807) :
    Calls Try.prog 16 #[.agg #[.int .i64 N, .slice ao m c], .slice an q cn] w fun e w' => Tb N m E q K w e w' := by
  obtain ⟨w0, hw0⟩ : ∃ w0, w0 = w.alloc (.cells #[.int .i64 N, .slice ao m c] 24) := ⟨_, rfl⟩
  have b0 : Below w.heap.size w w0 := by rw [hw0]; exact (Below.refl _ _).alloc (Nat.le_refl _) _
  have x0 : w0.heap[w.heap.size]? = some (.cells #[.int .i64 N, .slice ao m c] 24) := by rw [hw0]; exact heap_alloc_new w _
  have r0 : w0.cell? ⟨w.heap.size, 0, none⟩ = some (.int .i64 N) := cell_at x0 0
  have r1 : w0.cell? ⟨w.heap.size, 1, none⟩ = some (.slice ao m c) := cell_at x0 1
  have B0 := Lib.hid b0
  have HW := Lib.hid hw0
  have zb : w.heap.size < w0.heap.size := block_lt x0
  have n0 := Lib.hid (hw.below b0)
  have k0 := Lib.hid (hK.below b0)
  have CK := check13 N ao m c E w0 n0.out
  obtain ⟨x, hx⟩ : ∃ x, x = roadE N m E := ⟨_, rfl⟩
  rw [← hx] at CK
  have HCK := Lib.hid CK
  have HX := Lib.hid hx
  clear hw b0 x0 hw0 CK hx hK
  by_cases h0 : x = 0
  · subst h0
    go_enter Try.func16, Try.ntmps16
    go_wp2_with fail
    rw [← HW.out]
    clear HW
    refine HCK.out.mono ?_
    rintro e w1 ⟨rfl, b1⟩
    have d0 := cell_kept b1 r0
    have d1 := cell_kept b1 r1
    have zd := szs (cell_lt d0)
    dsimp only at zd
    have B1 := Lib.hid (B0.out.trans (b1.mono B0.out.size))
    have n1 := Lib.hid (n0.out.below b1)
    have k1 := Lib.hid (k0.out.below b1)
    clear b1 r0 r1 zb
    by_cases hq64 : 64 < q
    · have tq : (64 : Int) < (q : Int) := by omega
      have HT : Hid (tabE N m E q K = 8) := Lib.hid (by unfold tabE; rw [if_neg (by rw [← HX.out]; simp), if_pos hq64])
      clear hq64
      go_wp2_with fail
      go_returns
      exact ⟨B1.out, .inl ⟨by rw [HT.out]; decide, by rw [HT.out]; rfl⟩⟩
    have tq : (q : Int) ≤ 64 := by omega
    have hq64' : q ≤ 64 := by omega
    have HT : Hid (tabE N m E q K = scan (badN N K) q) := Lib.hid (by unfold tabE; rw [if_neg (by rw [← HX.out]; simp), if_neg hq64])
    clear hq64
    go_wp2_with fail
    go_loopw [26] (fun i wr => ∃ k : Nat, i = .int .i64 k ∧ k ≤ q ∧ Hid (scan (badN N K) k = 0 ∧ Below w1.heap.size w1 wr)) (fun i _ => q - (intOf i).toNat)
    case atStart => exact ⟨0, rfl, by omega, rfl, Below.refl _ _⟩
    case round =>
      obtain ⟨k, rfl, hk, hrel⟩ := hrel
      have g0 := cell_kept hrel.out.2 d0
      have g1 := cell_kept hrel.out.2 d1
      have zg := szs (cell_lt g0)
      dsimp only at zg
      by_cases hlt : k < q
      · obtain ⟨g, o, hao, hg, e0⟩ := (k1.out.below hrel.out.2).cell hlt
        subst hao
        have zz := szs hg
        have tk : (k : Int) < (q : Int) := by omega
        obtain ⟨y, hy⟩ : ∃ y, y = K k := ⟨_, rfl⟩
        rw [← hy] at e0
        have ND := node24 N y (.slice ao m c) wr rfl
        obtain ⟨p, hp⟩ : ∃ p, p = nodeB N y := ⟨_, rfl⟩
        rw [← hp] at ND
        have HND := Lib.hid ND
        have HB : Hid (badN N K k = if p = true then 0 else 7) := Lib.hid (by unfold badN; rw [hp, hy])
        clear ND hp hy
        go_wp2_with fail
        refine HND.out.mono ?_
        rintro e w2 ⟨rfl, b2⟩
        have B2 := Lib.hid (hrel.out.2.trans (b2.mono hrel.out.2.size))
        clear b2
        cases p
        · go_wp2_with fail
          go_returns
          have hit := scan_hit hrel.out.1 (by rw [HB.out]; decide) hlt
          exact ⟨B1.out.trans (B2.out.mono B1.out.size), .inl ⟨by rw [HT.out, hit, HB.out]; decide, by rw [HT.out, hit, HB.out]; rfl⟩⟩
        · go_wp2_with fail
          go_roundw
          case rel => exact ⟨k + 1, by go_num, by omega, scan_next hrel.out.1 (by rw [HB.out]; rfl), B2.out⟩
          case measure => simp [intOf]; omega
      · obtain rfl : k = q := by omega
        obtain ⟨n, hn, hr⟩ := right_of HX.out.symm
        subst hn
        have HZ := Lib.hid (scan_zero hrel.out.1)
        have HR := Lib.hid hr
        have hn64 := hr.n2
        have HT0 : Hid (tabE n m E k K = 0) := Lib.hid (by rw [HT.out]; exact hrel.out.1)
        have HKN : Hid (∀ i, i < k → ∃ s : Nat, K i = s ∧ s < n) := Lib.hid (fun i hi => by
          have h1 := HZ.out i hi
          unfold badN at h1
          have h2 : nodeB n (K i) = true := by
            cases h : nodeB n (K i)
            · rw [h] at h1; simp at h1
            · rfl
          simp [nodeB] at h2
          exact ⟨(K i).toNat, by omega, by omega⟩)
        have BW := Lib.hid (B1.out.trans (hrel.out.2.mono B1.out.size))
        have n2 := Lib.hid (n1.out.below hrel.out.2)
        have k2 := Lib.hid (k1.out.below hrel.out.2)
        have hM := mk27 k hq64'
        obtain ⟨M, hm⟩ : ∃ M, M = madeCells #[.int .i64 0] (k * 1) := ⟨_, rfl⟩
        rw [← hm] at hM
        have HM := Lib.hid hm
        obtain ⟨i0, hi, hz0, hz1, hz2⟩ := info_parts info27
        obtain ⟨wo, rfl⟩ : ∃ wo : World, wo = wr := ⟨_, rfl⟩
        clear hr hm hrel d0 d1 zd HZ
        go_wp2_with fail
        go_loopw [9, 37] (fun tv iv wr => ∃ i : Nat, iv = .int .i64 i ∧ i ≤ k ∧ Hid (Tab wr wo.heap.size tv i k (fun i j => sec (gr Ed.frm Ed.til n m E) (K i) (K j)) ∧ Below wo.heap.size wo wr)) (fun _ iv _ => k - (intOf iv).toNat)
        case atStart => exact ⟨0, rfl, by omega, Tab.nil _ _ _ _, Below.refl _ _⟩
        case round =>
          obtain ⟨i, rfl, hik, hrel⟩ := hrel
          by_cases hlt2 : i < k
          · obtain ⟨g, o, hao, hg, e0⟩ := (k2.out.below hrel.out.2).cell hlt2
            subst hao
            obtain ⟨s, hs, hsn⟩ := HKN.out i hlt2
            rw [hs] at e0
            have zz := szs hg
            have ti : (i : Int) < (k : Int) := by omega
            have y0 := cell_kept hrel.out.2 g0
            have y1 := cell_kept hrel.out.2 g1
            have zy := szs (cell_lt y0)
            dsimp only at zy
            have TM := Lib.hid (times25 n m c ao E s wr (n2.out.below hrel.out.2) HR.out hsn)
            have HS := Lib.hid hs
            have HO := hrel
            clear hs hrel
            obtain ⟨w5, rfl⟩ : ∃ w5 : World, w5 = wr := ⟨_, rfl⟩
            obtain ⟨tv, htv⟩ : ∃ tv, tv = u9 := ⟨_, rfl⟩
            rw [← htv] at HO ⊢
            clear htv
            go_wp2_with fail
            refine TM.out.mono ?_
            rintro e w3 ⟨b, rfl, hN, b3⟩
            have B3 := Lib.hid b3
            have N3 := Lib.hid hN
            have zb3 := hN.lt.2
            clear hN b3 y0 y1 zy e0 zz
            go_wp2_with fail
            obtain ⟨w4, hw4⟩ : ∃ w4, w4 = w3.alloc (.cells M 3) := ⟨_, rfl⟩
            rw [← hw4]
            have b4 : Below w3.heap.size w3 w4 := by rw [hw4]; exact (Below.refl _ _).alloc (Nat.le_refl _) _
            have x4 : w4.heap[w3.heap.size]? = some (.cells M 3) := by rw [hw4]; exact heap_alloc_new w3 _
            have z4 : w3.heap.size < w4.heap.size := block_lt x4
            have u0 : Nums w4 w3.heap.size w3.heap.size k (fun _ => 0) := Row.of_made (z := #[.int .i64 0]) rfl (by decide) (by rw [← HM.out]; exact x4) (Nat.le_refl _) (by unfold maxLen; omega)
            have U0 := Lib.hid (u0.congr (f' := tabF K (sec (gr Ed.frm Ed.til n m E) s) 0) (fun i _ => by unfold tabF; rw [if_neg (by omega)]))
            have N4 := Lib.hid (N3.out.below b4)
            have B4 := Lib.hid (B3.out.trans (b4.mono B3.out.size))
            clear x4 u0 hw4 b4
            go_loopw [49] (fun jv wr' => ∃ j : Nat, jv = .int .i64 j ∧ j ≤ k ∧ Hid (Nums wr' w3.heap.size w3.heap.size k (tabF K (sec (gr Ed.frm Ed.til n m E) s) j) ∧ Off (fun b => b = w3.heap.size) w4 wr')) (fun jv _ => k - (intOf jv).toNat)
            case atStart => exact ⟨0, rfl, by omega, U0.out, Off.refl _ _⟩
            case round =>
              clear U0
              obtain ⟨j, rfl, hj, hrel⟩ := hrel
              have zs0 := HO.out.2.size
              have zs1 := B4.out.size
              have zs2 := hrel.out.2.size
              have zs3 := B3.out.size
              have BI := Lib.hid ((HO.out.2.trans (B4.out.mono zs0)).trans (hrel.out.2.toBelow (by omega) (fun b hb e => by omega)))
              by_cases hlt3 : j < k
              · obtain ⟨g', o', hao, hg', e1⟩ := (k2.out.below BI.out).cell hlt3
                cases hao
                obtain ⟨s', hs', hsn'⟩ := HKN.out j hlt3
                rw [hs'] at e1
                have zz := szs hg'
                have tj : (j : Int) < (k : Int) := by omega
                have ts' : (s' : Int) < (n : Int) := by omega
                have NB := N4.out.off hrel.out.2 (by omega)
                have p1 := NB.cell hsn'
                have p2 := hrel.out.1.cell hlt3
                have p3 := hrel.out.1.free
                have z1 := szs NB.lt.2
                have z2 := szs hrel.out.1.lt.2
                have u := hrel.out.1.set hlt3 (sec (gr Ed.frm Ed.til n m E) s s')
                have HE := Lib.hid (And.intro (u.congr (f' := tabF K (sec (gr Ed.frm Ed.til n m E) s) (j + 1)) (fun i _ => by rw [← hs']; exact tabF_up K _ j i (by omega))) (hrel.out.2.setCell (p := ⟨w3.heap.size, j, none⟩) (fun _ => rfl) (.int .i64 (sec (gr Ed.frm Ed.til n m E) s s'))))
                generalize sec (gr Ed.frm Ed.til n m E) s s' = ss at *
                clear NB u hs'
                go_wp2_with fail
                go_roundw
                case rel => exact ⟨j + 1, by go_num, by omega, HE.out⟩
                case measure => simp [intOf]; omega
              · obtain rfl : j = k := by omega
                have b6 : Below wr.heap.size wr (wr.alloc (.cells #[.slice (some ⟨w3.heap.size, 0, none⟩) j j] 27)) := (Below.refl _ _).alloc (Nat.le_refl _) _
                have BW0 : Below w5.heap.size w5 wr := B4.out.trans (hrel.out.2.toBelow (by omega) (fun b hb e => by omega))
                obtain ⟨A, hA1, hA2⟩ := (HO.out.1.below BW0).below b6
                have HA1 := Lib.hid hA1
                have HA2 := Lib.hid hA2
                have B6 := Lib.hid (BI.out.trans (b6.mono BI.out.size))
                have tvo := Lib.hid (HO.out.1.own)
                have NM : Hid (Nm (wr.alloc (.cells #[.slice (some ⟨w3.heap.size, 0, none⟩) j j] 27)) w3.heap.size j (fun i => sec (gr Ed.frm Ed.til n m E) s (K i))) := Lib.hid (fun i hi => by
                  have := (hrel.out.1.below b6).cell hi
                  rw [this]; unfold tabF; rw [if_pos (by omega), Int.toNat_natCast])
                have zw := hrel.out.1.lt.2
                clear hA1 hA2 b6 BW0
                go_wp2_with (at_builtin; refine wpList_append_row _ rfl _ _ 34 rfl wo.heap.size 27 i0 _ 1 24 Try.underlying34 hi hz0 hz1 hz2 rfl (by decide) _ i (fun i => [.slice (some ⟨(A i).1, 0, none⟩) j (A i).2]) rfl HA1.out (fun _ => rfl) wr.heap.size 1 [.slice (some ⟨w3.heap.size, 0, none⟩) j j] rfl rfl 27 (0, 0) (heap_alloc_new wr _) (slice_one _ _ _) (by omega) (by unfold maxLen; omega) B6.out.size ?_)
                intro g'' cap' w7 hc1' hc2' hbg' hgl' hown hr7 hg7
                have o7 := Off.of_grown hg7
                have hne : tv.ownBlock ≠ some w3.heap.size := fun e => by have := (tvo.out _ e).2; omega
                have TB := Lib.hid (Tab.push (T := fun i j => sec (gr Ed.frm Ed.til n m E) (K i) (K j)) HA2.out hr7 o7 (by
                  rcases hown with h | h
                  · left; rw [h]; rfl
                  · right; intro g hg; simp [Value.ownBlock] at hg; subst hg; simpa using h) (by omega) hne (by simp; omega) (Nat.le_refl _) (by omega) (by
                    have := NM.out; rw [show (fun i' => sec (gr Ed.frm Ed.til n m E) (K i) (K i')) = fun i => sec (gr Ed.frm Ed.til n m E) s (K i) from by rw [HS.out]]; exact this) (by omega))
                have B7 := Lib.hid (B6.out.trans (o7.toBelow B6.out.size (fun b hb e => by have := (tvo.out b e.symm).1; omega)))
                clear o7 hr7 hg7 hown
                go_wp2_with fail
                go_roundw
                case rel => exact ⟨i + 1, by go_num, by omega, TB.out, B7.out⟩
                case measure => simp [intOf]; omega
          · obtain rfl : i = k := by omega
            obtain ⟨hTb, hBb⟩ := hrel.out
            have HE := Lib.hid (hTb.base_mono (base := w.heap.size) BW.out.size)
            have HB := Lib.hid (BW.out.trans (hBb.mono BW.out.size))
            clear hTb hBb hrel
            go_wp2_with fail
            go_returns
            exact ⟨HB.out, .inr ⟨n, _, HT0.out, rfl, HR.out, hq64', rfl, HE.out⟩⟩
  · have h0' : (x != 0) = true := by simp [h0]
    have H0 := Lib.hid h0
    have HT : Hid (tabE N m E q K = x) := Lib.hid (by unfold tabE; rw [← HX.out, if_pos h0])
    clear h0
    go_enter Try.func16, Try.ntmps16
    go_wp2_with fail
    rw [← HW.out]
    clear HW
    refine HCK.out.mono ?_
    rintro e w1 ⟨rfl, b1⟩
    have B1 := Lib.hid b1
    clear b1
    go_wp2_with fail
    go_returns
    exact ⟨B0.out.trans (B1.out.mono B0.out.size), .inl ⟨by rw [HT.out]; exact H0.out, by rw [HT.out]; rfl⟩⟩
end Go.Proofs.Ytbmlnjdfnjjjhaa
