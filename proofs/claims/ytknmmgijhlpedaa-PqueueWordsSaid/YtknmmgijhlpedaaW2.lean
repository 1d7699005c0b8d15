/- The law PqueueWords walked. -/
import Derived.Test.YtknmmgijhlpedaaW1
namespace Go.Proofs.Ytknmmgijhlpedaa
open Go.RowKit Go.ChangeShapes Go.WideShapes Go.Deep
set_option linter.unusedVariables false
set_option linter.unusedSimpArgs false
open QS
/-- What the popping loops keep. -/
def Popping (W wr : World) (S : Nat → ByteArray) (n : Nat) (lv : Value) (rest gone : List ByteArray) (ow : Option Nat) : Prop :=
  Q wr W.heap.size W.heap.size ow () rest (n : Int) ∧ SL wr W.heap.size lv gone ∧ gone ++ Lv.leave (lt ()) rest = Lv.leave (lt ()) (ws S n) ∧ Below W.heap.size W wr ∧ ∀ g, lv.ownBlock = some g → ¬ FP W.heap.size ow g
def lenS : Value → Nat | .slice _ n _ => n | _ => 0
set_option maxHeartbeats 8000000 in
set_option maxRecDepth 100000 in
theorem words (W : World) (a : Option Addr) (n c : Nat) (S : Nat → ByteArray) (early : Int) (hn : n ≤ c) (hc : c ≤ 9223372036854775807) (hS : SlE W 1 a n (wf S)) (hz : ∀ i, i < n → (S i).size ≤ 9223372036854775807) (hn2 : n ≤ 100) (he0 : 0 ≤ early) (he1 : early ≤ 255) :
    Calls Try.prog 7 #[.slice a n c, .int .u8 early] W fun e w' => e = .returned (.bool true) ∧ Below W.heap.size W w' := by
  have t1 : (n : Int) ≤ 100 := by omega
  have N1 := new () W W.heap.size (Nat.le_refl _)
  simp only [F, fn] at N1
  have HN1 := Lib.hid N1
  have HS := Lib.hid hS
  have HZ := Lib.hid hz
  obtain ⟨m, hm⟩ : ∃ m : Nat, (m : Int) = early % ((n : Int) + 1) := ⟨(early % ((n : Int) + 1)).toNat, by rw [Int.toNat_of_nonneg (Int.emod_nonneg _ (by omega))]⟩
  have hmn : m ≤ n := by have := Int.emod_lt_of_pos early (show 0 < (n : Int) + 1 by omega); omega
  have HM := Lib.hid hm
  clear hS hz N1 hm
  go_enter Try.func7, Try.ntmps7
  go_wp2_with fail
  refine HN1.out.mono ?_
  rintro e w1 ⟨rfl, q1, b1⟩
  have Q1 := Lib.hid q1
  have B1 := Lib.hid b1
  clear q1 b1
  go_wp2_with fail
  rw [← HM.out]
  go_loopw [7] (fun i wr => ∃ (k : Nat) (ow : Option Nat), i = .int .i64 k ∧ k ≤ n ∧ Hid (Q wr W.heap.size W.heap.size ow () (ws S k) (k : Int) ∧ Below W.heap.size W wr)) (fun i _ => n - (intOf i).toNat)
  case atStart => exact ⟨0, none, rfl, by omega, Q1.out, B1.out⟩
  case round =>
    obtain ⟨k, ow, rfl, hk, hrel⟩ := hrel
    clear Q1 B1
    by_cases hlt : k < n
    · obtain ⟨g, o, rfl, hcl⟩ := (SlE.below (wf_len S) HS.out hrel.out.2).all (by omega)
      have x0 : wr.cell? ⟨g, o + k, none⟩ = some (.string (S k)) := by have := hcl k hlt 0 (by decide); simpa [wf] using this
      have zg := szs (cell_lt x0)
      dsimp only at zg
      have t2 : (k : Int) < (n : Int) := by omega
      have P := push_q () wr W.heap.size W.heap.size ow (ws S k) k (S k) hrel.out.1 (by omega) hrel.out.2.size trivial (Nat.zero_le _) (HZ.out k hlt)
      rw [← ws_succ] at P
      unfold vv at P
      have HP := Lib.hid P
      generalize S k = x at *
      clear P hcl
      go_wp2_with fail
      refine HP.out.mono ?_
      rintro e w2 ⟨rfl, ow2, q2, o2, f2⟩
      have Q2 := Lib.hid q2
      have B2 := Lib.hid (hrel.out.2.trans (o2.toBelow hrel.out.2.size (fun b hb hx => by have := (hrel.out.1.within b hx).1; omega)))
      clear q2 o2 f2
      go_wp2_with fail
      go_roundw
      case rel => exact ⟨k + 1, ow2, by go_num, by omega, by have := Q2.out; rwa [show ((k : Int) + 1) = ((k + 1 : Nat) : Int) by omega] at this, B2.out⟩
      case measure => simp [intOf]; omega
    · obtain rfl : k = n := by omega
      have Q1 := Lib.hid hrel.out.1
      have B1 := Lib.hid hrel.out.2
      clear hrel
      go_wp2_with fail
      go_loopw [8, 9] (fun lv i wr => ∃ (j : Nat) (rest gone : List ByteArray) (ow : Option Nat), i = .int .i64 j ∧ j ≤ m ∧ gone.length = j ∧ rest.length + j = k ∧ Hid (Popping W wr S k lv rest gone ow)) (fun _ i _ => m - (intOf i).toNat)
      case atStart => exact ⟨0, ws S k, [], ow, rfl, by omega, rfl, by simp [ws_len], Q1.out, SL.nil _ _, rfl, B1.out, fun g hg => by simp [Value.ownBlock] at hg⟩
      case round =>
        obtain ⟨j, rest, gone, ow, rfl, hj, hgl, hrl, hrel⟩ := hrel
        clear Q1 B1
        by_cases hlt2 : j < m
        · have t2 : (j : Int) < (m : Int) := by omega
          have hne : rest ≠ [] := by intro e; subst e; simp at hrl; omega
          have P := pop_some () wr W.heap.size W.heap.size ow rest k hrel.out.1 hne (by omega) trivial (Nat.zero_le _)
          have hlv : Lv.leave (lt ()) rest = _ := Lv.leave_cons hne
          have hil := minIx_lt (lt := lt ()) hne
          have hle : (rest.eraseIdx (minIx (lt ()) rest)).length + 1 = rest.length := by rw [List.length_eraseIdx_of_lt hil]; omega
          unfold vv at P
          generalize rest.getD (minIx (lt ()) rest) default = x at *
          generalize rest.eraseIdx (minIx (lt ()) rest) = rest2 at *
          have HP := Lib.hid P
          have HLV := Lib.hid hlv
          have HGL := Lib.hid hgl
          have HRL := Lib.hid hrl
          have HLE := Lib.hid hle
          clear P hlv hgl hrl hle hil
          go_wp2_with fail
          refine HP.out.mono ?_
          rintro e w2 ⟨rfl, q2, o2⟩
          obtain ⟨h1, h2, h3, h4, h5⟩ := hrel.out
          have l2 := h2.off o2 (fun g hg hx => h5 g hg hx)
          have B2 := Lib.hid (h4.trans (o2.toBelow h4.size (fun b hb hx => by have := (h1.within b hx).1; omega)))
          have b3 : Below w2.heap.size w2 (w2.alloc (.cells #[.string x] 9)) := (Below.refl _ _).alloc (Nat.le_refl _) _
          have Q3 := Lib.hid (q2.below b3)
          have L3 := Lib.hid (l2.below b3)
          have B3 := Lib.hid (B2.out.trans (b3.mono B2.out.size))
          have H3 := Lib.hid h3
          have H5 := Lib.hid h5
          clear h1 h2 h3 h4 h5 q2 o2 l2 b3
          have hgl2 : gone.length ≤ 100 := by rw [HGL.out]; omega
          obtain ⟨i0, hi, hz0, hz1, hz2⟩ := info_parts infoS
          go_wp2_with (at_builtin; refine wpList_append_row _ rfl _ _ 49 rfl W.heap.size 9 i0 _ 1 16 Try.underlying49 hi hz0 hz1 hz2 rfl (by decide) u8 gone.length (sf gone) rfl L3.out (sf_len _) w2.heap.size 1 [.string x] rfl rfl 9 (0, 0) (heap_alloc_new w2 _) (sf_one x) (by omega) (by unfold maxLen; omega) B3.out.size ?_)
          intro g cap' w4 hc1 hc2 hbg hgl4 hown hr4 hg4
          have o4 := Off.of_grown hg4
          have q4 := Lib.hid (Q3.out.off o4 (fun b hb e => H5.out b e.symm hb))
          have l4 := Lib.hid (SL.of_push hr4)
          have B4 := Lib.hid (B3.out.trans (o4.toBelow B3.out.size (fun b hb e => by have := (L3.out.own b e.symm).1; omega)))
          have N4 := Lib.hid (show ∀ g', (Value.slice (some ⟨g, 0, none⟩) (gone.length + 1) cap').ownBlock = some g' → ¬ FP W.heap.size ow g' from fun g' hg' hx => by
            simp [Value.ownBlock] at hg'
            subst hg'
            rcases hown with h | h
            · exact H5.out _ h hx
            · have h6 := (Q3.out.within _ hx).2; first | omega | (simp at h6; omega))
          clear o4 hr4 hg4 hown hi hz0 hz1 hz2
          go_wp2_with fail
          go_roundw
          case rel => exact ⟨j + 1, rest2, gone ++ [x], ow, by go_num, by omega, by simp [HGL.out], by have := HRL.out; have := HLE.out; omega, q4.out, by have := l4.out; simpa using this, by rw [← H3.out, HLV.out]; simp, B4.out, by have := N4.out; simpa using this⟩
          case measure => simp [intOf]; omega
        · obtain rfl : j = m := by omega
          obtain ⟨h1, h2, h3, h4, h5⟩ := hrel.out
          have L := len () wr W.heap.size W.heap.size ow rest k h1
          rw [show (rest.length : Int) = (k : Int) - (j : Int) by omega] at L
          have hgr : gone.length + rest.length = k := by omega
          have HL := Lib.hid L
          have HGR := Lib.hid hgr
          have HPO := hrel
          clear hrel
          clear L hgr hgl hrl h1 h2 h3 h4 h5
          go_wp2_with fail
          refine HL.out.mono ?_
          rintro e w2 ⟨rfl, rfl⟩
          go_wp2_with fail
          go_loopw [8] (fun lv wr => ∃ (rest gone : List ByteArray) (ow : Option Nat), Hid (gone.length + rest.length = k) ∧ Hid (Popping W wr S k lv rest gone ow)) (fun lv _ => k + 1 - lenS lv)
          case atStart => exact ⟨rest, gone, ow, HGR, HPO⟩
          case round =>
            clear HPO HGR HL
            obtain ⟨rest, gone, ow, hgr, hrel⟩ := hrel
            have L := len () wr W.heap.size W.heap.size ow rest k hrel.out.1
            obtain ⟨a3, c3, rfl, hc31, hc32, sl3, _⟩ := Row.sl hrel.out.2.1 (sf_len _)
            have SL3 := Lib.hid sl3
            clear sl3
            by_cases hne : rest = []
            · subst hne
              have L0 := Lib.hid (show Calls Try.prog 28 #[.pointer (some ⟨W.heap.size, 0, none⟩)] wr fun e w' => e = .returned (.int .i64 0) ∧ wr = w' from L)
              have hgk : gone.length = k := by have := hgr.out; simpa using this
              have hG : gone = Lv.leave (lt ()) (ws S k) := by have := hrel.out.2.2.1; rwa [Lv.leave_nil, List.append_nil] at this
              rw [hgk] at hc31 SL3 ⊢
              have HG := Lib.hid hG
              have B3 := Lib.hid hrel.out.2.2.2.1
              clear L hgk hG hrel hgr
              obtain ⟨wo, rfl⟩ : ∃ wo : World, wo = wr := ⟨_, rfl⟩
              go_wp2_with fail
              refine L0.out.mono ?_
              rintro e w2 ⟨rfl, rfl⟩
              go_wp2_with fail
              clear L0
              go_loopw [14, 15] (fun atv sv wr => ∃ s p : Nat, atv = .int .i64 p ∧ sv = .int .i64 s ∧ p ≤ k ∧ s ≤ 9223372036854775807 ∧ Hid (p = Lv.cnt (fun j => decide ((S j).size < s)) k ∧ Below wo.heap.size wo wr)) (fun _ sv _ => Lv.cnt (fun j => decide ((intOf sv).toNat < (S j).size)) k)
              case atStart => exact ⟨0, 0, rfl, rfl, by omega, by omega, (Lv.cnt_none (by simp)).symm, Below.refl _ _⟩
              case round =>
                obtain ⟨s, p, rfl, rfl, hp, hs, hrel⟩ := hrel
                have B4 := Lib.hid (B3.out.trans (hrel.out.2.mono B3.out.size))
                by_cases hpk : p < k
                · have t3 : (p : Int) < (k : Int) := by omega
                  have e0 : p = at_ S k s 0 := hrel.out.1
                  have HE0 := Lib.hid e0
                  have HO := hrel
                  clear hrel e0
                  go_wp2_with fail
                  go_loopw [14, 16, 17, 18] (fun atv lv bv iv wr => ∃ (i : Nat) (b : Bool) (least r : Nat), iv = .int .i64 i ∧ i ≤ k ∧ atv = .int .i64 r ∧ bv = .bool b ∧ lv = .int .i64 least ∧ least ≤ 9223372036854775807 ∧ r ≤ 2 * k ∧ Hid (r = at_ S k s i ∧ QS.Next S s i b least ∧ Below wo.heap.size wo wr)) (fun _ _ _ iv _ => k - (intOf iv).toNat)
                  case atStart => exact ⟨0, false, 0, p, rfl, by omega, rfl, rfl, rfl, by omega, by omega, HE0.out, QS.Next.start _ _, HO.out.2⟩
                  case round =>
                    clear HE0 t3 hpk
                    obtain ⟨i, b, least, r, rfl, hi, rfl, rfl, rfl, hls, hr2, hin⟩ := hrel
                    have B5 := Lib.hid (B3.out.trans (hin.out.2.2.mono B3.out.size))
                    by_cases hik : i < k
                    · obtain ⟨g, o, rfl, hcl⟩ := (SlE.below (wf_len S) HS.out B5.out).all (by omega)
                      have x0 : wr.cell? ⟨g, o + i, none⟩ = some (.string (S i)) := by have := hcl i hik 0 (by decide); simpa [wf] using this
                      have zg := szs (cell_lt x0)
                      dsimp only at zg
                      have t3 : (i : Int) < (k : Int) := by omega
                      have hsz := HZ.out i hik
                      have nx := hin.out.2.1
                      have ea := hin.out.1
                      have bw := hin.out.2.2
                      clear hcl hin
                      by_cases hs1 : (S i).size = s
                      · have hrk := rank S k hik hs1
                        rw [← ea, ← HG.out] at hrk
                        have hrl : r < k := by have := (List.getElem?_eq_some_iff.1 hrk).1; have hgk : gone.length = k := by rw [HG.out, Lv.leave_len, ws_len]
                                               omega
                        obtain ⟨g3, o3, rfl, hcl⟩ := (SlE.below (sf_len gone) SL3.out bw).all (by omega)
                        have x1 : wr.cell? ⟨g3, o3 + r, none⟩ = some (.string (S i)) := by have := hcl r hrl 0 (by decide); simpa [sf, List.getD, hrk] using this
                        have zg3 := szs (cell_lt x1)
                        dsimp only at zg3
                        have t4 : (r : Int) < (k : Int) := by omega
                        have e1 := Lib.hid (at_yes (n := k) hs1)
                        have e2 := Lib.hid (nx.keep (.inl (by omega)))
                        have EA := Lib.hid ea
                        have BW := Lib.hid bw
                        generalize S i = x at *
                        obtain rfl : s = x.size := hs1.symm
                        clear nx hcl hrk ea bw hs1
                        go_wp2_with fail
                        (refine region_all (fun i : Nat => World.drewN _ i) mixed (by kernel_rfl) ⟨1, rfl⟩ ?_; (repeat (any_goals (first | go_big_quiet_step (fail) | quiet_step (fail) | (refine wpQuiet_step (fun K hK => ?_); go_simp; split <;> (refine hK _ ?_; clear hK K))))); (all_goals (refine wpQuiet_nil (fun nq => ?_))))
                        all_goals go_wp2_with fail
                        all_goals go_roundw
                        case rel => exact ⟨i + 1, b, least, r + 1, by go_num, by omega, by go_num, rfl, rfl, hls, by omega, by rw [e1.out, EA.out], e2.out, by have := BW.out; (repeat' (first | (with_reducible exact Below.refl _ _) | (with_reducible assumption) | (with_reducible refine Below.drew ?_) | (with_reducible refine below_drewN ?_ _) | (with_reducible refine Below.alloc ?_ ?_ _) | (with_reducible refine Below.setCell ?_ ?_ _) | go_size))⟩
                        case measure => simp [intOf]; omega
                      · have t5 : (((S i).size : Int) == (s : Int)) = false := by simp; omega
                        have e1 := Lib.hid (at_no (n := k) hs1)
                        have BW := Lib.hid bw
                        have EA := Lib.hid ea
                        have hb3 : (S i).size ≤ s ∨ (s < (S i).size ∧ b = false) ∨ (s < (S i).size ∧ b = true ∧ (S i).size < least) ∨ (s < (S i).size ∧ b = true ∧ least ≤ (S i).size) := by
                          cases b <;> simp <;> omega
                        have HN := Lib.hid nx
                        clear nx ea bw hs1
                        rcases hb3 with h | ⟨h, rfl⟩ | ⟨h, rfl, h2⟩ | ⟨h, rfl, h2⟩
                        · have t6 : ((S i).size : Int) ≤ (s : Int) := by omega
                          have e2 := Lib.hid (HN.out.keep (.inl h))
                          clear h HN
                          generalize S i = x at *
                          go_wp2_with fail
                          go_roundw
                          case rel => exact ⟨i + 1, b, least, r, by go_num, by omega, rfl, rfl, rfl, hls, hr2, by rw [e1.out, EA.out], e2.out, BW.out⟩
                          case measure => simp [intOf]; omega
                        · have t6 : (s : Int) < ((S i).size : Int) := by omega
                          have e2 := Lib.hid (HN.out.take h (fun h => by cases h))
                          clear h HN
                          generalize S i = x at *
                          go_wp2_with fail
                          go_roundw
                          case rel => exact ⟨i + 1, true, x.size, r, by go_num, by omega, rfl, rfl, rfl, hsz, hr2, by rw [e1.out, EA.out], e2.out, BW.out⟩
                          case measure => simp [intOf]; omega
                        · have t6 : (s : Int) < ((S i).size : Int) := by omega
                          have t7 : ((S i).size : Int) < (least : Int) := by omega
                          have e2 := Lib.hid (HN.out.take h (fun _ => h2))
                          clear h h2 HN
                          generalize S i = x at *
                          go_wp2_with fail
                          go_roundw
                          case rel => exact ⟨i + 1, true, x.size, r, by go_num, by omega, rfl, rfl, rfl, hsz, hr2, by rw [e1.out, EA.out], e2.out, BW.out⟩
                          case measure => simp [intOf]; omega
                        · have t6 : (s : Int) < ((S i).size : Int) := by omega
                          have t7 : (least : Int) ≤ ((S i).size : Int) := by omega
                          have e2 := Lib.hid (HN.out.keep (.inr ⟨rfl, h2⟩))
                          clear h h2 HN
                          generalize S i = x at *
                          go_wp2_with fail
                          go_roundw
                          case rel => exact ⟨i + 1, true, least, r, by go_num, by omega, rfl, rfl, rfl, hls, hr2, by rw [e1.out, EA.out], e2.out, BW.out⟩
                          case measure => simp [intOf]; omega
                    · obtain rfl : i = k := by omega
                      cases b
                      · obtain rfl : r = i := by rw [hin.out.1]; exact at_last (hin.out.2.1.1 rfl)
                        go_wp2_with fail
                        refine (QI.awake9 _).mono ?_
                        rintro e w5 ⟨rfl, b5⟩
                        have B6 := Lib.hid (B5.out.trans (b5.mono B5.out.size))
                        clear b5
                        go_wp2_with fail
                        go_returns
                        exact ⟨rfl, B6.out⟩
                      · obtain ⟨g1, ⟨j2, g2, g3⟩, g4⟩ := hin.out.2.1.2 rfl
                        have G1 := Lib.hid (And.intro g1 (And.intro g2 (And.intro g3 g4)))
                        have hri : r ≤ i := by rw [hin.out.1, at_next g1 g4]; exact Lv.cnt_le _ _
                        clear g1 g2 g3 g4
                        go_wp2_with fail
                        go_roundw
                        case rel => exact ⟨least, r, rfl, rfl, hri, hls, by rw [hin.out.1]; exact at_next G1.out.1 G1.out.2.2.2, hin.out.2.2⟩
                        case measure =>
                          show Lv.cnt (fun j => decide (least < (S j).size)) i < Lv.cnt (fun j => decide (s < (S j).size)) i
                          obtain ⟨g1, g2, g3, g4⟩ := G1.out
                          exact Lv.cnt_lt (j := j2) (fun q hq h => by simp at *; omega) g2 (by simp; omega) (by simp; omega)
                · obtain rfl : p = k := by omega
                  go_wp2_with fail
                  refine (QI.awake9 _).mono ?_
                  rintro e w5 ⟨rfl, b5⟩
                  have B5 := Lib.hid (B4.out.trans (b5.mono B4.out.size))
                  clear b5
                  go_wp2_with fail
                  go_returns
                  exact ⟨rfl, B5.out⟩
            · have hlv : Lv.leave (lt ()) rest = _ := Lv.leave_cons hne
              have P := pop_some () wr W.heap.size W.heap.size ow rest k hrel.out.1 hne (by omega) trivial (Nat.zero_le _)
              have hil := minIx_lt (lt := lt ()) hne
              have hle : (rest.eraseIdx (minIx (lt ()) rest)).length + 1 = rest.length := by rw [List.length_eraseIdx_of_lt hil]; omega
              have t2 : (0 : Int) < (rest.length : Int) := by omega
              have hgk : gone.length < k := by have := hgr.out; omega
              have t3 : (gone.length : Int) ≤ (k : Int) := by omega
              unfold vv at P
              generalize rest.getD (minIx (lt ()) rest) default = x at *
              generalize rest.eraseIdx (minIx (lt ()) rest) = rest2 at *
              have HP := Lib.hid P
              have HL := Lib.hid L
              have HLV := Lib.hid hlv
              have HLE := Lib.hid hle
              clear P L hlv hle hil
              go_wp2_with fail
              refine HL.out.mono ?_
              rintro e w2 ⟨rfl, rfl⟩
              go_wp2_with fail
              refine HP.out.mono ?_
              rintro e w2 ⟨rfl, q2, o2⟩
              obtain ⟨h1, h2, h3, h4, h5⟩ := hrel.out
              have l2 := h2.off o2 (fun g hg hx => h5 g hg hx)
              have B2 := Lib.hid (h4.trans (o2.toBelow h4.size (fun b hb hx => by have := (h1.within b hx).1; omega)))
              have b3 : Below w2.heap.size w2 (w2.alloc (.cells #[.string x] 9)) := (Below.refl _ _).alloc (Nat.le_refl _) _
              have Q3 := Lib.hid (q2.below b3)
              have L3 := Lib.hid (l2.below b3)
              have B3 := Lib.hid (B2.out.trans (b3.mono B2.out.size))
              have H3 := Lib.hid h3
              have H5 := Lib.hid h5
              clear h1 h2 h3 h4 h5 q2 o2 l2 b3
              obtain ⟨i0, hi, hz0, hz1, hz2⟩ := info_parts infoS
              go_wp2_with (at_builtin; refine wpList_append_row _ rfl _ _ 49 rfl W.heap.size 9 i0 _ 1 16 Try.underlying49 hi hz0 hz1 hz2 rfl (by decide) _ gone.length (sf gone) rfl L3.out (sf_len _) w2.heap.size 1 [.string x] rfl rfl 9 (0, 0) (heap_alloc_new w2 _) (sf_one x) (by omega) (by unfold maxLen; omega) B3.out.size ?_)
              intro g cap' w4 hc1 hc2 hbg hgl4 hown hr4 hg4
              have o4 := Off.of_grown hg4
              have q4 := Lib.hid (Q3.out.off o4 (fun b hb e => H5.out b e.symm hb))
              have l4 := Lib.hid (SL.of_push hr4)
              have B4 := Lib.hid (B3.out.trans (o4.toBelow B3.out.size (fun b hb e => by have := (L3.out.own b e.symm).1; omega)))
              have N4 := Lib.hid (show ∀ g', (Value.slice (some ⟨g, 0, none⟩) (gone.length + 1) cap').ownBlock = some g' → ¬ FP W.heap.size ow g' from fun g' hg' hx => by
                simp [Value.ownBlock] at hg'
                subst hg'
                rcases hown with h | h
                · exact H5.out _ h hx
                · have h6 := (Q3.out.within _ hx).2; first | omega | (simp at h6; omega))
              clear o4 hr4 hg4 hown hi hz0 hz1 hz2
              go_wp2_with fail
              go_roundw
              case rel => exact ⟨rest2, gone ++ [x], ow, by have := hgr.out; have := HLE.out; unfold Hid; simp; omega, q4.out, by have := l4.out; simpa using this, by rw [← H3.out, HLV.out]; simp, B4.out, by have := N4.out; simpa using this⟩
              case measure => simp [lenS]; omega
end Go.Proofs.Ytknmmgijhlpedaa
