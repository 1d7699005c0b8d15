/- The law WorkshopMoves. -/
import Derived.Test.YtanpefjbmpohdaaL80
namespace Go.Proofs.Ytanpefjbmpohdaa
open Go.RowKit Go.ChangeShapes Go.WideShapes Go.Deep
set_option linter.unusedVariables false
set_option linter.unusedSimpArgs false
theorem plan_til {m : Nat} {J : Nat → Jb} {k : Nat} {M : Nat → Int} (hc : chkE m J k M = 0) : ∀ i, i < m → inI (pl m J k M i).til := fun i hi => by
  obtain ⟨j, u, s⟩ := st_step hc hi
  have h1 := st_bound hc (show i ≤ m by omega) u
  have h2 := fine_secs hc j s.hj
  have h3 := (chk_zero hc).1
  rw [s.hx]
  unfold inI
  dsimp only
  omega
set_option maxHeartbeats 8000000 in
set_option maxRecDepth 100000 in
theorem run_workshopMoves {H : Type} {enc : TypeId × Value → H} (W : World) (base : Nat) (v0 : Value) (d0 : DataW H) (p0 : List MemPlace) (hv0 : Value.okWide Try.prog W .any base 22 v0) (h0 : DataW.Trod enc Try.prog W 0 (fun _ => true) true 22 v0 d0 p0)
    (v1 : Value) (d1 : DataW H) (p1 : List MemPlace) (hv1 : Value.okWide Try.prog W .any base 23 v1) (h1 : DataW.Trod enc Try.prog W 0 (fun _ => true) true 23 v1 d1 p1)
    (v2 : Value) (d2 : DataW H) (p2 : List MemPlace) (hv2 : Value.okWide Try.prog W .any base 26 v2) (h2 : DataW.Trod enc Try.prog W 0 (fun _ => true) true 26 v2 d2 p2) :
    Calls Try.prog 8 #[v0, v1, v2] W fun e w' => e = .returned (.bool true) ∧ Below W.heap.size W w' := by
  obtain ⟨ao, m, c, J, rfl, hj, _⟩ := open_jobs hv0 h0
  obtain ⟨am, k, c2, M, rfl, hm, _⟩ := open_mechs hv1 h1
  obtain ⟨al, n, c3, L, rfl, hl, hb⟩ := open_works hv2 h2
  have q1 := hj.hm
  have q2 := hj.hc
  have q3 := hm.hm
  have q4 := hm.hc
  have q5 := hl.hm
  have q6 := hl.hc
  have S := Lib.hid hj
  have T := Lib.hid hm
  have U := Lib.hid hl
  have HT := Lib.hid (fun i (hi : i < n) => (hb i hi).2.2.2)
  have FW := few9 ao am m c k c2 W q1 q2 q3 q4
  generalize fewB m k = f at *
  have HFW := Lib.hid FW
  clear hv0 h0 hv1 h1 hv2 h2 hj hm hl hb FW
  by_cases hf : f = true ∧ n ≤ 40
  · obtain ⟨rfl, hn⟩ := hf
    have tn : (n : Int) ≤ 40 := by omega
    have C1 := Lib.hid (valid16 ao am al m c k c2 n c3 J M L W S.out T.out U.out HT.out)
    obtain ⟨i0, hi, hz0, hz1, hz2⟩ := info_parts info43
    go_enter Try.func8, Try.ntmps8
    go_wp2_with fail
    refine HFW.out.mono ?_
    rintro e w1 ⟨rfl, rfl⟩
    clear HFW
    by_cases hv : validP m J k M n L
    · rw [vB_iff.2 hv] at C1
      obtain rfl : n = m := hv.2.1
      go_wp2_with fail
      refine C1.out.mono ?_
      rintro e w3 ⟨rfl, b3⟩
      have B3 := Lib.hid b3
      have S3 := Lib.hid (S.out.below b3)
      have T3 := Lib.hid (T.out.below b3)
      have SX := Lib.hid (U.out.below b3)
      have HTX := HT
      have HV := Lib.hid hv
      have hm32 := (chk_zero hv.1).1
      obtain ⟨m, rfl⟩ : ∃ m : Nat, m = n := ⟨_, rfl⟩
      obtain ⟨X, rfl⟩ : ∃ X : Nat → Wk, X = L := ⟨_, rfl⟩
      obtain ⟨aX, rfl⟩ : ∃ aX : Option Addr, aX = al := ⟨_, rfl⟩
      obtain ⟨cX, rfl⟩ : ∃ cX : Nat, cX = c3 := ⟨_, rfl⟩
      clear b3 C1 S T U hv
      have C2 := Lib.hid (valid16 ao am aX m c k c2 m cX J M X w3 S3.out T3.out SX.out HTX.out)
      rw [vB_iff.2 HV.out] at C2
      have r1 := SX.out.hm
      have r2 := SX.out.hc
      go_wp2_with fail
      refine C2.out.mono ?_
      rintro e w4 ⟨rfl, b4⟩
      have B4 := Lib.hid (B3.out.trans (b4.mono B3.out.size))
      have S4 := Lib.hid (S3.out.below b4)
      have T4 := Lib.hid (T3.out.below b4)
      have X4 := Lib.hid (SX.out.below b4)
      clear b4 C2 S3 T3 SX B3
      have wm : IntKind.i64.wrap ((m : Int) - 1) = (m : Int) - 1 := IntWalk.i64_in _ (by omega)
      go_wp2_with fail
      clear wm
      go_loopw [9, 7, 8] (fun i vb vl wr => ∃ p : Nat, i = .int .i64 ((p : Int) - 1) ∧ p ≤ m ∧ Hid (TwoR w4 wr vb (m - p) (wf (revL m X)) vl (m - p) (wf (fun r => late 77 (revL m X r))) ∧ ∀ i, p ≤ i → i < m → (X i).til ≤ 1099511627776)) (fun i _ _ _ => (intOf i + 1).toNat)
      case atStart => exact ⟨m, rfl, by omega, Lib.hid ⟨by rw [Nat.sub_self]; exact TwoR.start _ _ _, fun i h1 h2 => by omega⟩⟩
      case round =>
        obtain ⟨p, rfl, hp, hrel⟩ := hrel
        obtain ⟨wo, rfl⟩ : ∃ wo : World, wo = wr := ⟨_, rfl⟩
        by_cases hlt : 0 < p
        · obtain ⟨q, rfl⟩ : ∃ q, p = q + 1 := ⟨p - 1, by omega⟩
          have hq : q < m := by omega
          have tq : (q : Int) < (m : Int) := by omega
          have te : ((q + 1 : Nat) : Int) - 1 = (q : Int) := by omega
          have BW := Lib.hid (B4.out.trans (hrel.out.1.2.2.1.mono B4.out.size))
          obtain ⟨g, o, rfl, hg, x0, x1, x2, x3⟩ := (X4.out.below hrel.out.1.2.2.1).work hq
          have zg := szs hg
          have hn : ∃ nn, nn = m - (q + 1) := ⟨_, rfl⟩
          obtain ⟨nn, hnn⟩ := hn
          have hrv : revL m X nn = X q := by unfold revL; rw [show m - 1 - nn = q by omega]
          have htil := HTX.out q hq
          have hok := (valid_facts HV.out).2.2.1 q hq
          unfold okW at hok
          obtain ⟨_, _, _, _, _, hok6, hok7, _⟩ := hok
          obtain ⟨x, hx⟩ : ∃ x, x = X q := ⟨_, rfl⟩
          rw [← hx] at x0 x1 x2 x3 hrv htil hok6 hok7
          have HX := Lib.hid hx
          obtain ⟨y0, y1, y2, y3⟩ := x
          dsimp only at x0 x1 x2 x3 htil hok6 hok7
          unfold inI at htil
          rw [← hnn] at hrel
          have hnn1 : nn + 1 = m - q := by omega
          have hnm : nn ≤ 32 := by omega
          have HRV := Lib.hid hrv
          have HNN := Lib.hid hnn1
          have HR := Lib.hid hrel.out.1
          have HTT := Lib.hid hrel.out.2
          have hlo1 := HR.out.lt
          have hlo2 := HR.out.swap.lt
          rw [te]
          have XLO := Lib.hid hrel.out.1.2.2.1.size
          clear hrel hnn hnn1 hrv hx hg te
          obtain ⟨w2, hw2⟩ : ∃ w2, w2 = (wo.alloc (.cells #[.int .i64 y0, .int .i64 y1, .int .i64 y2, .int .i64 y3] 43)).alloc (.cells #[.int .i64 y0, .int .i64 y1, .int .i64 y2, .int .i64 y3] 43) := ⟨_, rfl⟩
          have b2 : Below wo.heap.size wo w2 := by rw [hw2]; exact ((Below.refl _ _).alloc (Nat.le_refl _) _).alloc (by simp) _
          have hz : w2.heap.size = wo.heap.size + 2 := by rw [hw2]; simp
          have xc : w2.heap[wo.heap.size]? = some (.cells #[.int .i64 y0, .int .i64 y1, .int .i64 y2, .int .i64 y3] 43) := by
            have h1 := heap_alloc_new wo (.cells #[.int .i64 y0, .int .i64 y1, .int .i64 y2, .int .i64 y3] 43)
            rw [hw2]
            exact (((Below.refl _ _).alloc (Nat.le_refl _) _).block _ (block_lt h1)).trans h1
          have xs : w2.heap[wo.heap.size + 1]? = some (.cells #[.int .i64 y0, .int .i64 y1, .int .i64 y2, .int .i64 y3] 43) := by
            have h1 := heap_alloc_new (wo.alloc (.cells #[.int .i64 y0, .int .i64 y1, .int .i64 y2, .int .i64 y3] 43)) (.cells #[.int .i64 y0, .int .i64 y1, .int .i64 y2, .int .i64 y3] 43)
            rw [show (wo.alloc (.cells #[.int .i64 y0, .int .i64 y1, .int .i64 y2, .int .i64 y3] 43)).heap.size = wo.heap.size + 1 by simp] at h1
            rw [hw2]; exact h1
          have R2 := Lib.hid (HR.out.below b2)
          have XC := Lib.hid xc
          have XS := Lib.hid xs
          have HZ := Lib.hid hz
          have HW2 := Lib.hid hw2
          have BW2 := Lib.hid (BW.out.trans (b2.mono BW.out.size))
          clear hw2 b2 hz xc xs
          go_wp2_with (at_builtin; rw [← HW2.out]; refine wpList_append_row _ rfl (.tmp 56) (.tmp 58) 26 rfl w4.heap.size 43 i0 _ 4 32 Try.underlying26 hi hz0 hz1 hz2 rfl (by decide) _ nn (wf (revL m X)) rfl R2.out.1 (wf_len _) (wo.heap.size + 1) 1 [.int .i64 y0, .int .i64 y1, .int .i64 y2, .int .i64 y3] rfl rfl 43 (0, 0) XS.out (by intro x hx; simp at hx; rcases hx with rfl | rfl | rfl | rfl <;> rfl) (by omega) (by unfold maxLen; omega) R2.out.2.2.1.size ?_)
          intro g' cap wA hcap hcap2 hbg hgl hown hrA hgr
          have RA := Lib.hid (R2.out.add hrA hgr hown (by unfold wf; rw [HRV.out]))
          have xA := TwoR.other (va := u7) XC.out (fun h => by have := (hlo1 _ h).2; omega) hgr
          have XA := Lib.hid xA
          have zx := szs (block_lt xA)
          have hgc : g' ≠ wo.heap.size := fun e => by
            rcases hown with h | h
            · have := (hlo1 _ h).2; omega
            · have := HZ.out; omega
          have hlc : (∀ b, u8.ownBlock = some b → b ≠ wo.heap.size) := fun b h e => by have := (hlo2 _ h).2; omega
          have c3 : wA.cell? ⟨wo.heap.size, 3, none⟩ = some (.int .i64 y3) := cell_at xA 3
          have c0 : wA.cell? ⟨wo.heap.size, 0, none⟩ = some (.int .i64 y0) := cell_at xA 0
          have c1 : wA.cell? ⟨wo.heap.size, 1, none⟩ = some (.int .i64 y1) := cell_at xA 1
          have e2 : wA.cell? ⟨wo.heap.size, 2, none⟩ = some (.int .i64 y2) := cell_at xA 2
          have cfr := free_at xA 2
          have cfr3 := free_at xA 3
          have HGC := Lib.hid hgc
          have HLC := Lib.hid hlc
          have BA := Lib.hid (B4.out.trans (RA.out.2.2.1.mono B4.out.size))
          clear xA hrA hgr hown hgc hlc hlo1 hlo2 R2 XC XS HZ HW2 BW2 BW HR x0 x1 x2 x3 zg
          by_cases hbig : 1099511627776 < y3
          · clear RA
            go_wp2_with fail
            refine (awake10 _).mono ?_
            rintro e w6 ⟨rfl, b6⟩
            have B6 := Lib.hid (BA.out.trans (b6.mono BA.out.size))
            clear b6
            go_wp2_with fail
            go_returns
            exact ⟨rfl, B6.out⟩
          · have hb2 : y3 ≤ 1099511627776 := by omega
            have wf2 : IntKind.i64.wrap (y2 + 77) = y2 + 77 := IntWalk.i64_in _ (by omega)
            have wf3 : IntKind.i64.wrap (y3 + 77) = y3 + 77 := IntWalk.i64_in _ (by omega)
            obtain ⟨wB, hwB⟩ : ∃ wB, wB = (wA.setCell ⟨wo.heap.size, 2, none⟩ (.int .i64 (y2 + 77))).setCell ⟨wo.heap.size, 3, none⟩ (.int .i64 (y3 + 77)) := ⟨_, rfl⟩
            have RB : Hid (TwoR w4 wB (.slice (some ⟨g', 0, none⟩) (nn + 1) cap) (nn + 1) (wf (revL m X)) u8 nn (wf (fun r => late 77 (revL m X r)))) := Lib.hid (by
              have hw : w4.heap.size ≤ wo.heap.size := by have := XLO.out; omega
              rw [hwB]
              refine TwoR.store (TwoR.store RA.out ?_ ?_ hw) ?_ ?_ hw
              · simp [Value.ownBlock]; exact HGC.out
              · exact fun h => HLC.out _ h rfl
              · simp [Value.ownBlock]; exact HGC.out
              · exact fun h => HLC.out _ h rfl)
            have HWB := Lib.hid hwB
            have RC := Lib.hid (RB.out.below (w' := wB.alloc (.cells #[.int .i64 y0, .int .i64 y1, .int .i64 (y2 + 77), .int .i64 (y3 + 77)] 43)) ((Below.refl _ _).alloc (Nat.le_refl _) _))
            have hzB : wB.heap.size = wA.heap.size := by rw [hwB]; simp
            have XB : Hid ((wB.alloc (.cells #[.int .i64 y0, .int .i64 y1, .int .i64 (y2 + 77), .int .i64 (y3 + 77)] 43)).heap[wA.heap.size]? = some (.cells #[.int .i64 y0, .int .i64 y1, .int .i64 (y2 + 77), .int .i64 (y3 + 77)] 43)) := Lib.hid (by rw [← hzB]; exact heap_alloc_new wB _)
            clear hwB RA RB hbig hzB
            go_wp2_with (at_builtin; rw [← HWB.out]; refine wpList_append_row _ rfl (.tmp 72) (.tmp 74) 26 rfl w4.heap.size 43 i0 _ 4 32 Try.underlying26 hi hz0 hz1 hz2 rfl (by decide) _ nn (wf (fun r => late 77 (revL m X r))) rfl RC.out.2.1 (wf_len _) wA.heap.size 1 [.int .i64 y0, .int .i64 y1, .int .i64 (y2 + 77), .int .i64 (y3 + 77)] rfl rfl 43 (0, 0) XB.out (by intro x hx; simp at hx; rcases hx with rfl | rfl | rfl | rfl <;> rfl) (by omega) (by unfold maxLen; omega) RC.out.2.2.1.size ?_)
            intro g2 cap2 wD hcap hcap2 hbg hgl hown hrA hgr
            have RD := Lib.hid (TwoR.add RC.out.swap hrA hgr (by simpa using hown) (by show wf _ nn = _; unfold wf; dsimp only; rw [HRV.out]; rfl)).swap
            have HTN := Lib.hid (show ∀ i, q ≤ i → i < m → (X i).til ≤ 1099511627776 from fun i h1 h2 => by
              by_cases e : i = q
              · subst e; rw [← HX.out]; exact hb2
              · exact HTT.out i (by omega) h2)
            clear hrA hgr hown RC XB
            go_wp2_with fail
            go_roundw
            case rel => exact ⟨q, rfl, by omega, Lib.hid ⟨by rw [← HNN.out]; exact RD.out, HTN.out⟩⟩
            case measure => simp [intOf] <;> omega
        · obtain rfl : p = 0 := by omega
          have hTW := hrel.out.1
          rw [Nat.sub_zero] at hTW
          obtain ⟨ab, cb, rfl, slb⟩ := Row.toSl hTW.1 (wf_len _)
          obtain ⟨at', cl, rfl, sll⟩ := Row.toSl hTW.2.1 (wf_len _)
          have B5 := Lib.hid (B4.out.trans (hTW.2.2.1.mono B4.out.size))
          have S5 := Lib.hid (S4.out.below hTW.2.2.1)
          have T5 := Lib.hid (T4.out.below hTW.2.2.1)
          have X5 := Lib.hid (X4.out.below hTW.2.2.1)
          have SB := Lib.hid slb
          have SL := Lib.hid sll
          have HT0 := Lib.hid (show ∀ i, i < m → (X i).til ≤ 1099511627776 ∧ 0 ≤ (X i).til from fun i hi => ⟨hrel.out.2 i (Nat.zero_le _) hi, by
            have := (valid_facts HV.out).2.2.1 i hi
            unfold okW at this
            omega⟩)
          have rb1 := slb.hm
          have rb2 := slb.hc
          have rl1 := sll.hm
          have rl2 := sll.hc
          have V1 := Lib.hid (valid16 ao am ab m c k c2 m cb J M (revL m X) wo S5.out T5.out SB.out (fun i hi => HTX.out _ (by omega)))
          rw [vB_iff.2 (valid_rev HV.out)] at V1
          clear hrel hTW slb sll S4 T4 X4 B4
          go_wp2_with fail
          refine V1.out.mono ?_
          rintro e w5 ⟨rfl, b5⟩
          have B6 := Lib.hid (B5.out.trans (b5.mono B5.out.size))
          have S6 := Lib.hid (S5.out.below b5)
          have T6 := Lib.hid (T5.out.below b5)
          have X6 := Lib.hid (X5.out.below b5)
          have SB6 := Lib.hid (SB.out.below b5)
          have SL6 := Lib.hid (SL.out.below b5)
          have V2 := Lib.hid (valid16 ao am at' m c k c2 m cl J M _ w5 S6.out T6.out SL6.out (fun i hi => by
            have := HT0.out (m - 1 - i) (by omega)
            show inI ((X (m - 1 - i)).til + 77)
            unfold inI
            omega))
          rw [vB_iff.2 (valid_late (by decide) (valid_rev HV.out))] at V2
          clear b5 V1 S5 T5 X5 SB SL B5
          go_wp2_with fail
          refine V2.out.mono ?_
          rintro e w6 ⟨rfl, b6⟩
          have B7 := Lib.hid (B6.out.trans (b6.mono B6.out.size))
          have S7 := Lib.hid (S6.out.below b6)
          have T7 := Lib.hid (T6.out.below b6)
          have X7 := Lib.hid (X6.out.below b6)
          have SB7 := Lib.hid (SB6.out.below b6)
          have SL7 := Lib.hid (SL6.out.below b6)
          have E1 := Lib.hid (end18 ab m cb (revL m X) w6 SB7.out)
          rw [end_rev] at E1
          obtain ⟨en, hen⟩ : ∃ en, en = endL X m := ⟨_, rfl⟩
          rw [← hen] at E1
          have HEN := Lib.hid hen
          have hen0 : en ≤ 1099511627776 := by rw [hen]; exact endL_le (.inr (by decide)) (fun t ht => (HT0.out t ht).1)
          have hen1 : 0 ≤ en := by rw [hen]; exact endL_nonneg (fun t ht => (HT0.out t ht).2)
          have tne : (en != en) = false := by simp
          clear b6 V2 S6 T6 X6 SB6 SL6 B6 hen
          go_wp2_with fail
          refine E1.out.mono ?_
          rintro e w7 ⟨rfl, b7⟩
          have B8 := Lib.hid (B7.out.trans (b7.mono B7.out.size))
          have S8 := Lib.hid (S7.out.below b7)
          have T8 := Lib.hid (T7.out.below b7)
          have X8 := Lib.hid (X7.out.below b7)
          have SB8 := Lib.hid (SB7.out.below b7)
          have SL8 := Lib.hid (SL7.out.below b7)
          have E2 := Lib.hid (end18 aX m cX X w7 X8.out)
          rw [← HEN.out] at E2
          clear b7 E1 S7 T7 X7 SB7 SL7 B7
          go_wp2_with fail
          refine E2.out.mono ?_
          rintro e w8 ⟨rfl, b8⟩
          have B9 := Lib.hid (B8.out.trans (b8.mono B8.out.size))
          have S9 := Lib.hid (S8.out.below b8)
          have T9 := Lib.hid (T8.out.below b8)
          have X9 := Lib.hid (X8.out.below b8)
          have SB9 := Lib.hid (SB8.out.below b8)
          have SL9 := Lib.hid (SL8.out.below b8)
          clear b8 E2 S8 T8 X8 SB8 SL8 B8
          by_cases hm0 : m = 0
          · have tm0 : ((m : Int) == 0) = true := by simp [hm0]
            have he0 : en = 0 := by rw [HEN.out, hm0]; rfl
            have te0 : (en == 0) = true := by simp [he0]
            have E3 := Lib.hid (end18 aX m cX X w8 X9.out)
            rw [← HEN.out] at E3
            clear hm0 he0
            go_wp2_with fail
            refine E3.out.mono ?_
            rintro e w9 ⟨rfl, b9⟩
            have BX := Lib.hid (B9.out.trans (b9.mono B9.out.size))
            clear b9
            go_wp2_with fail
            refine (awake10 _).mono ?_
            rintro e wa ⟨rfl, ba⟩
            have BA := Lib.hid (BX.out.trans (ba.mono BX.out.size))
            clear ba
            go_wp2_with fail
            go_returns
            exact ⟨rfl, BA.out⟩
          · have tm0 : ((m : Int) == 0) = false := by simp [hm0]
            have hmp : 0 < m := by omega
            clear hm0
            obtain ⟨wE, hwE⟩ : ∃ wE, wE = w8.alloc (.cells #[] 43) := ⟨_, rfl⟩
            have bE : Below w8.heap.size w8 wE := by rw [hwE]; exact (Below.refl _ _).alloc (Nat.le_refl _) _
            have RE : Hid (Row wE w8.heap.size 43 4 (.slice (some ⟨w8.heap.size, 0, none⟩) 0 0) 0 (wf X)) := Lib.hid (Row.empty (by rw [hwE]; exact heap_alloc_new w8 _) (Nat.le_refl _) _)
            have SE := Lib.hid (SB9.out.below bE)
            have HWE := Lib.hid hwE
            have BE := Lib.hid bE
            clear hwE bE
            go_wp2_with (at_builtin; rw [← HWE.out]; refine wpList_append_sl _ rfl (.tmp 104) (.tmp 105) 26 rfl w8.heap.size 43 i0 _ 4 32 Try.underlying26 hi hz0 hz1 hz2 rfl (by decide) _ 0 (wf X) rfl RE.out (wf_len _) ab m cb (wf (revL m X)) rfl (wf_len _) SE.out.hno SE.out.sl (wf_one _) (by omega) (by unfold maxLen; omega) BE.out.size ?_)
            intro v' wF hF hgF hvF
            have BF := Lib.hid (BE.out.trans ((Off.of_grown hgF).toBelow BE.out.size (fun k hk h => by simp [Value.ownBlock] at h; omega)))
            have RF := Lib.hid hF
            have XF := Lib.hid (X9.out.below BF.out)
            obtain ⟨g, o, rfl, hg, x0, x1, x2, x3⟩ := XF.out.work hmp
            rw [Nat.zero_mul, Nat.add_zero] at x0 x1 x2 x3
            have zg := szs hg
            obtain ⟨y, hy⟩ : ∃ y, y = X 0 := ⟨_, rfl⟩
            rw [← hy] at x0 x1 x2 x3
            have HY := Lib.hid hy
            obtain ⟨y0, y1, y2, y3⟩ := y
            dsimp only at x0 x1 x2 x3
            have RG := Lib.hid (Row.off (X := fun _ => False) RF.out (Off.of_below ((Below.refl wF.heap.size wF).alloc (Nat.le_refl _) (.cells #[.int .i64 y0, .int .i64 y1, .int .i64 y2, .int .i64 y3] 43))) (fun _ _ h => h))
            have hszF : w8.heap.size ≤ (wF.alloc (.cells #[.int .i64 y0, .int .i64 y1, .int .i64 y2, .int .i64 y3] 43)).heap.size := by have := BF.out.size; simp; omega
            have tmp0 : (0 : Int) < (m : Int) := by omega
            clear hF hgF hvF hy hg RE SE HWE BE RF
            go_wp2_with (at_builtin; refine wpList_append_row _ rfl (.tmp 107) (.tmp 111) 26 rfl w8.heap.size 43 i0 _ 4 32 Try.underlying26 hi hz0 hz1 hz2 rfl (by decide) _ m _ rfl RG.out (cat_len (wf_len _) (wf_len _)) wF.heap.size 1 [.int .i64 y0, .int .i64 y1, .int .i64 y2, .int .i64 y3] rfl rfl 43 (0, 0) (heap_alloc_new wF _) (by intro x hx; simp at hx; rcases hx with rfl | rfl | rfl | rfl <;> rfl) (by omega) (by unfold maxLen; omega) hszF ?_)
            intro g' cap wH hcap hcap2 hbg hgl hown hrH hgr
            have RH : Hid (Row wH w8.heap.size 43 4 (.slice (some ⟨g', 0, none⟩) (m + 1) cap) (m + 1) (wf (fun i => if i < m then revL m X i else X 0))) := Lib.hid (Row.congr hrH (fun i hi => by
              by_cases e : i = m
              · subst e; rw [upd_same]; unfold wf; simp only [Nat.lt_irrefl, if_false]; rw [← HY.out]
              · rw [upd_ne e]
                show cat _ 0 _ i = _
                unfold cat
                rw [if_neg (Nat.not_lt_zero i), Nat.sub_zero]
                exact congrArg (fun x : Wk => [Value.int .i64 x.job, .int .i64 x.mech, .int .i64 x.frm, .int .i64 x.til]) (show revL m X i = (if i < m then revL m X i else X 0) from (if_pos (by omega)).symm)))
            have BH := Lib.hid (BF.out.trans ((((Below.refl wF.heap.size wF).alloc (Nat.le_refl _) (.cells #[.int .i64 y0, .int .i64 y1, .int .i64 y2, .int .i64 y3] 43)).mono BF.out.size).trans ((Off.of_grown hgr).toBelow hszF (fun k hk h => by have := (World.ownsRow.lt RG.out k h.symm).1; omega))))
            have BX := Lib.hid (B9.out.trans (BH.out.mono B9.out.size))
            have SX2 := Lib.hid (S9.out.below BH.out)
            have TX2 := Lib.hid (T9.out.below BH.out)
            have XX2 := Lib.hid (X9.out.below BH.out)
            have SLX := Lib.hid (SL9.out.below BH.out)
            obtain ⟨ag, cg, hvg, slg⟩ := Row.toSl RH.out (wf_len _)
            cases hvg
            have SGX := Lib.hid slg
            have E3 := Lib.hid (end18 at' m cl _ wH SLX.out)
            rw [end_late _ _ hmp, end_rev, ← HEN.out] at E3
            clear hrH hgr hown RG BF XF x0 x1 x2 x3 zg slg RH BH S9 T9 X9 SB9 SL9 B9 hszF
            go_wp2_with fail
            refine E3.out.mono ?_
            rintro e w9 ⟨rfl, b9⟩
            have BY := Lib.hid (BX.out.trans (b9.mono BX.out.size))
            have SY := Lib.hid (SX2.out.below b9)
            have TY := Lib.hid (TX2.out.below b9)
            have XY := Lib.hid (XX2.out.below b9)
            have GY := Lib.hid (SGX.out.below b9)
            have E4 := Lib.hid (end18 _ m cX X w9 XY.out)
            rw [← HEN.out] at E4
            have w77 : IntKind.i64.wrap (en + 77) = en + 77 := IntWalk.i64_in _ (by omega)
            have t77 : (en + 77 == en + 77) = true := by simp
            clear b9 E3 SX2 TX2 XX2 SLX SGX BX
            by_cases hc1 : cX = 1
            · obtain rfl : m = 1 := by omega
              subst hc1
              go_wp2_with fail
              refine E4.out.mono ?_
              rintro e wa ⟨rfl, ba⟩
              have BZ := Lib.hid (BY.out.trans (ba.mono BY.out.size))
              have SZ := Lib.hid (SY.out.below ba)
              have TZ := Lib.hid (TY.out.below ba)
              have XZ := Lib.hid (XY.out.below ba)
              have GZ := Lib.hid (GY.out.below ba)
              clear ba E4 SY TY XY GY BY
              go_wp2_with fail
              have V3 := Lib.hid (valid16 ao am (some ⟨g, o, none⟩) 1 c k c2 0 0 J M X wa SZ.out TZ.out ⟨by omega, by omega, (fun e => (by cases e)), fun i => rfl, fun i hi => absurd hi (by omega)⟩ (fun i hi => absurd hi (by omega)))
              rw [vB_len (by omega)] at V3
              refine V3.out.mono ?_
              rintro e wb ⟨rfl, bb⟩
              have BZ2 := Lib.hid (BZ.out.trans (bb.mono BZ.out.size))
              have V4 := Lib.hid (valid16 ao am _ 1 c k c2 (1 + 1) _ J M _ wb (SZ.out.below bb) (TZ.out.below bb) (GZ.out.below bb) (fun i hi => by
                by_cases e : i < 1
                · show inI (if i < 1 then revL 1 X i else X 0).til
                  rw [if_pos e]; exact HTX.out _ (by omega)
                · show inI (if i < 1 then revL 1 X i else X 0).til
                  rw [if_neg e]; exact HTX.out 0 (by omega)))
              rw [vB_len (by omega)] at V4
              clear bb V3 SZ TZ XZ GZ BZ
              go_wp2_with fail
              refine V4.out.mono ?_
              rintro e wc ⟨rfl, bc⟩
              have BC := Lib.hid (BZ2.out.trans (bc.mono BZ2.out.size))
              clear bc V4 BZ2
              go_wp2_with fail
              refine (awake10 _).mono ?_
              rintro e wd ⟨rfl, bd⟩
              have BD := Lib.hid (BC.out.trans (bd.mono BC.out.size))
              clear bd
              go_wp2_with fail
              go_returns
              exact ⟨rfl, BD.out⟩
            · go_wp2_with fail
              refine E4.out.mono ?_
              rintro e wa ⟨rfl, ba⟩
              have BZ := Lib.hid (BY.out.trans (ba.mono BY.out.size))
              have SZ := Lib.hid (SY.out.below ba)
              have TZ := Lib.hid (TY.out.below ba)
              have XZ := Lib.hid (XY.out.below ba)
              have GZ := Lib.hid (GY.out.below ba)
              clear ba E4 SY TY XY GY BY
              have V3 := Lib.hid (valid16 ao am _ m c k c2 (m - 1) (cX - 1) J M _ wa SZ.out TZ.out (XZ.out.tail (by omega)) (fun i hi => HTX.out (i + 1) (by omega)))
              rw [vB_len (by omega)] at V3
              go_wp2_with fail
              refine V3.out.mono ?_
              rintro e wb ⟨rfl, bb⟩
              have BZ2 := Lib.hid (BZ.out.trans (bb.mono BZ.out.size))
              have V4 := Lib.hid (valid16 ao am _ m c k c2 (m + 1) _ J M _ wb (SZ.out.below bb) (TZ.out.below bb) (GZ.out.below bb) (fun i hi => by
                by_cases e : i < m
                · show inI (if i < m then revL m X i else X 0).til
                  rw [if_pos e]; exact HTX.out _ (by omega)
                · show inI (if i < m then revL m X i else X 0).til
                  rw [if_neg e]; exact HTX.out 0 (by omega)))
              rw [vB_len (by omega)] at V4
              clear bb V3 SZ TZ XZ GZ BZ
              go_wp2_with fail
              refine V4.out.mono ?_
              rintro e wc ⟨rfl, bc⟩
              have BC := Lib.hid (BZ2.out.trans (bc.mono BZ2.out.size))
              clear bc V4 BZ2
              go_wp2_with fail
              refine (awake10 _).mono ?_
              rintro e wd ⟨rfl, bd⟩
              have BD := Lib.hid (BC.out.trans (bd.mono BC.out.size))
              clear bd
              go_wp2_with fail
              go_returns
              exact ⟨rfl, BD.out⟩
    · rw [vB_no hv] at C1
      go_wp2_with fail
      refine C1.out.mono ?_
      rintro e w2 ⟨rfl, b2⟩
      have B2 := Lib.hid b2
      have S2 := Lib.hid (S.out.below b2)
      have T2 := Lib.hid (T.out.below b2)
      have P1 := Lib.hid (plan11 ao am m c k c2 J M w2 S2.out T2.out)
      clear b2 C1 S T U hv
      go_wp2_with fail
      refine P1.out.mono ?_
      rintro e w3 ⟨aX, cX, rfl, sX, b3⟩
      have B3 := Lib.hid (B2.out.trans (b3.mono B2.out.size))
      have S3 := Lib.hid (S2.out.below b3)
      have T3 := Lib.hid (T2.out.below b3)
      have SX := Lib.hid sX
      clear sX b3 P1 S2 T2 B2
      by_cases hc : chkE m J k M = 0
      · have e1 : plN m J k M = m := by simp [plN, hc]
        rw [e1] at SX ⊢
        rw [hc]
        have HV := Lib.hid (plan_valid hc)
        have HTX := Lib.hid (plan_til hc)
        have hm32 := (chk_zero hc).1
        generalize pl m J k M = X at *
        clear hc e1
        have C2 := Lib.hid (valid16 ao am aX m c k c2 m cX J M X w3 S3.out T3.out SX.out HTX.out)
        rw [vB_iff.2 HV.out] at C2
        have r1 := SX.out.hm
        have r2 := SX.out.hc
        go_wp2_with fail
        refine C2.out.mono ?_
        rintro e w4 ⟨rfl, b4⟩
        have B4 := Lib.hid (B3.out.trans (b4.mono B3.out.size))
        have S4 := Lib.hid (S3.out.below b4)
        have T4 := Lib.hid (T3.out.below b4)
        have X4 := Lib.hid (SX.out.below b4)
        clear b4 C2 S3 T3 SX B3
        have wm : IntKind.i64.wrap ((m : Int) - 1) = (m : Int) - 1 := IntWalk.i64_in _ (by omega)
        go_wp2_with fail
        clear wm
        go_loopw [9, 7, 8] (fun i vb vl wr => ∃ p : Nat, i = .int .i64 ((p : Int) - 1) ∧ p ≤ m ∧ Hid (TwoR w4 wr vb (m - p) (wf (revL m X)) vl (m - p) (wf (fun r => late 77 (revL m X r))) ∧ ∀ i, p ≤ i → i < m → (X i).til ≤ 1099511627776)) (fun i _ _ _ => (intOf i + 1).toNat)
        case atStart => exact ⟨m, rfl, by omega, Lib.hid ⟨by rw [Nat.sub_self]; exact TwoR.start _ _ _, fun i h1 h2 => by omega⟩⟩
        case round =>
          obtain ⟨p, rfl, hp, hrel⟩ := hrel
          obtain ⟨wo, rfl⟩ : ∃ wo : World, wo = wr := ⟨_, rfl⟩
          by_cases hlt : 0 < p
          · obtain ⟨q, rfl⟩ : ∃ q, p = q + 1 := ⟨p - 1, by omega⟩
            have hq : q < m := by omega
            have tq : (q : Int) < (m : Int) := by omega
            have te : ((q + 1 : Nat) : Int) - 1 = (q : Int) := by omega
            have BW := Lib.hid (B4.out.trans (hrel.out.1.2.2.1.mono B4.out.size))
            obtain ⟨g, o, rfl, hg, x0, x1, x2, x3⟩ := (X4.out.below hrel.out.1.2.2.1).work hq
            have zg := szs hg
            have hn : ∃ nn, nn = m - (q + 1) := ⟨_, rfl⟩
            obtain ⟨nn, hnn⟩ := hn
            have hrv : revL m X nn = X q := by unfold revL; rw [show m - 1 - nn = q by omega]
            have htil := HTX.out q hq
            have hok := (valid_facts HV.out).2.2.1 q hq
            unfold okW at hok
            obtain ⟨_, _, _, _, _, hok6, hok7, _⟩ := hok
            obtain ⟨x, hx⟩ : ∃ x, x = X q := ⟨_, rfl⟩
            rw [← hx] at x0 x1 x2 x3 hrv htil hok6 hok7
            have HX := Lib.hid hx
            obtain ⟨y0, y1, y2, y3⟩ := x
            dsimp only at x0 x1 x2 x3 htil hok6 hok7
            unfold inI at htil
            rw [← hnn] at hrel
            have hnn1 : nn + 1 = m - q := by omega
            have hnm : nn ≤ 32 := by omega
            have HRV := Lib.hid hrv
            have HNN := Lib.hid hnn1
            have HR := Lib.hid hrel.out.1
            have HTT := Lib.hid hrel.out.2
            have hlo1 := HR.out.lt
            have hlo2 := HR.out.swap.lt
            rw [te]
            have XLO := Lib.hid hrel.out.1.2.2.1.size
            clear hrel hnn hnn1 hrv hx hg te
            obtain ⟨w2, hw2⟩ : ∃ w2, w2 = (wo.alloc (.cells #[.int .i64 y0, .int .i64 y1, .int .i64 y2, .int .i64 y3] 43)).alloc (.cells #[.int .i64 y0, .int .i64 y1, .int .i64 y2, .int .i64 y3] 43) := ⟨_, rfl⟩
            have b2 : Below wo.heap.size wo w2 := by rw [hw2]; exact ((Below.refl _ _).alloc (Nat.le_refl _) _).alloc (by simp) _
            have hz : w2.heap.size = wo.heap.size + 2 := by rw [hw2]; simp
            have xc : w2.heap[wo.heap.size]? = some (.cells #[.int .i64 y0, .int .i64 y1, .int .i64 y2, .int .i64 y3] 43) := by
              have h1 := heap_alloc_new wo (.cells #[.int .i64 y0, .int .i64 y1, .int .i64 y2, .int .i64 y3] 43)
              rw [hw2]
              exact (((Below.refl _ _).alloc (Nat.le_refl _) _).block _ (block_lt h1)).trans h1
            have xs : w2.heap[wo.heap.size + 1]? = some (.cells #[.int .i64 y0, .int .i64 y1, .int .i64 y2, .int .i64 y3] 43) := by
              have h1 := heap_alloc_new (wo.alloc (.cells #[.int .i64 y0, .int .i64 y1, .int .i64 y2, .int .i64 y3] 43)) (.cells #[.int .i64 y0, .int .i64 y1, .int .i64 y2, .int .i64 y3] 43)
              rw [show (wo.alloc (.cells #[.int .i64 y0, .int .i64 y1, .int .i64 y2, .int .i64 y3] 43)).heap.size = wo.heap.size + 1 by simp] at h1
              rw [hw2]; exact h1
            have R2 := Lib.hid (HR.out.below b2)
            have XC := Lib.hid xc
            have XS := Lib.hid xs
            have HZ := Lib.hid hz
            have HW2 := Lib.hid hw2
            have BW2 := Lib.hid (BW.out.trans (b2.mono BW.out.size))
            clear hw2 b2 hz xc xs
            go_wp2_with (at_builtin; rw [← HW2.out]; refine wpList_append_row _ rfl (.tmp 56) (.tmp 58) 26 rfl w4.heap.size 43 i0 _ 4 32 Try.underlying26 hi hz0 hz1 hz2 rfl (by decide) _ nn (wf (revL m X)) rfl R2.out.1 (wf_len _) (wo.heap.size + 1) 1 [.int .i64 y0, .int .i64 y1, .int .i64 y2, .int .i64 y3] rfl rfl 43 (0, 0) XS.out (by intro x hx; simp at hx; rcases hx with rfl | rfl | rfl | rfl <;> rfl) (by omega) (by unfold maxLen; omega) R2.out.2.2.1.size ?_)
            intro g' cap wA hcap hcap2 hbg hgl hown hrA hgr
            have RA := Lib.hid (R2.out.add hrA hgr hown (by unfold wf; rw [HRV.out]))
            have xA := TwoR.other (va := u7) XC.out (fun h => by have := (hlo1 _ h).2; omega) hgr
            have XA := Lib.hid xA
            have zx := szs (block_lt xA)
            have hgc : g' ≠ wo.heap.size := fun e => by
              rcases hown with h | h
              · have := (hlo1 _ h).2; omega
              · have := HZ.out; omega
            have hlc : (∀ b, u8.ownBlock = some b → b ≠ wo.heap.size) := fun b h e => by have := (hlo2 _ h).2; omega
            have c3 : wA.cell? ⟨wo.heap.size, 3, none⟩ = some (.int .i64 y3) := cell_at xA 3
            have c0 : wA.cell? ⟨wo.heap.size, 0, none⟩ = some (.int .i64 y0) := cell_at xA 0
            have c1 : wA.cell? ⟨wo.heap.size, 1, none⟩ = some (.int .i64 y1) := cell_at xA 1
            have e2 : wA.cell? ⟨wo.heap.size, 2, none⟩ = some (.int .i64 y2) := cell_at xA 2
            have cfr := free_at xA 2
            have cfr3 := free_at xA 3
            have HGC := Lib.hid hgc
            have HLC := Lib.hid hlc
            have BA := Lib.hid (B4.out.trans (RA.out.2.2.1.mono B4.out.size))
            clear xA hrA hgr hown hgc hlc hlo1 hlo2 R2 XC XS HZ HW2 BW2 BW HR x0 x1 x2 x3 zg
            by_cases hbig : 1099511627776 < y3
            · clear RA
              go_wp2_with fail
              refine (awake10 _).mono ?_
              rintro e w6 ⟨rfl, b6⟩
              have B6 := Lib.hid (BA.out.trans (b6.mono BA.out.size))
              clear b6
              go_wp2_with fail
              go_returns
              exact ⟨rfl, B6.out⟩
            · have hb2 : y3 ≤ 1099511627776 := by omega
              have wf2 : IntKind.i64.wrap (y2 + 77) = y2 + 77 := IntWalk.i64_in _ (by omega)
              have wf3 : IntKind.i64.wrap (y3 + 77) = y3 + 77 := IntWalk.i64_in _ (by omega)
              obtain ⟨wB, hwB⟩ : ∃ wB, wB = (wA.setCell ⟨wo.heap.size, 2, none⟩ (.int .i64 (y2 + 77))).setCell ⟨wo.heap.size, 3, none⟩ (.int .i64 (y3 + 77)) := ⟨_, rfl⟩
              have RB : Hid (TwoR w4 wB (.slice (some ⟨g', 0, none⟩) (nn + 1) cap) (nn + 1) (wf (revL m X)) u8 nn (wf (fun r => late 77 (revL m X r)))) := Lib.hid (by
                have hw : w4.heap.size ≤ wo.heap.size := by have := XLO.out; omega
                rw [hwB]
                refine TwoR.store (TwoR.store RA.out ?_ ?_ hw) ?_ ?_ hw
                · simp [Value.ownBlock]; exact HGC.out
                · exact fun h => HLC.out _ h rfl
                · simp [Value.ownBlock]; exact HGC.out
                · exact fun h => HLC.out _ h rfl)
              have HWB := Lib.hid hwB
              have RC := Lib.hid (RB.out.below (w' := wB.alloc (.cells #[.int .i64 y0, .int .i64 y1, .int .i64 (y2 + 77), .int .i64 (y3 + 77)] 43)) ((Below.refl _ _).alloc (Nat.le_refl _) _))
              have hzB : wB.heap.size = wA.heap.size := by rw [hwB]; simp
              have XB : Hid ((wB.alloc (.cells #[.int .i64 y0, .int .i64 y1, .int .i64 (y2 + 77), .int .i64 (y3 + 77)] 43)).heap[wA.heap.size]? = some (.cells #[.int .i64 y0, .int .i64 y1, .int .i64 (y2 + 77), .int .i64 (y3 + 77)] 43)) := Lib.hid (by rw [← hzB]; exact heap_alloc_new wB _)
              clear hwB RA RB hbig hzB
              go_wp2_with (at_builtin; rw [← HWB.out]; refine wpList_append_row _ rfl (.tmp 72) (.tmp 74) 26 rfl w4.heap.size 43 i0 _ 4 32 Try.underlying26 hi hz0 hz1 hz2 rfl (by decide) _ nn (wf (fun r => late 77 (revL m X r))) rfl RC.out.2.1 (wf_len _) wA.heap.size 1 [.int .i64 y0, .int .i64 y1, .int .i64 (y2 + 77), .int .i64 (y3 + 77)] rfl rfl 43 (0, 0) XB.out (by intro x hx; simp at hx; rcases hx with rfl | rfl | rfl | rfl <;> rfl) (by omega) (by unfold maxLen; omega) RC.out.2.2.1.size ?_)
              intro g2 cap2 wD hcap hcap2 hbg hgl hown hrA hgr
              have RD := Lib.hid (TwoR.add RC.out.swap hrA hgr (by simpa using hown) (by show wf _ nn = _; unfold wf; dsimp only; rw [HRV.out]; rfl)).swap
              have HTN := Lib.hid (show ∀ i, q ≤ i → i < m → (X i).til ≤ 1099511627776 from fun i h1 h2 => by
                by_cases e : i = q
                · subst e; rw [← HX.out]; exact hb2
                · exact HTT.out i (by omega) h2)
              clear hrA hgr hown RC XB
              go_wp2_with fail
              go_roundw
              case rel => exact ⟨q, rfl, by omega, Lib.hid ⟨by rw [← HNN.out]; exact RD.out, HTN.out⟩⟩
              case measure => simp [intOf] <;> omega
          · obtain rfl : p = 0 := by omega
            have hTW := hrel.out.1
            rw [Nat.sub_zero] at hTW
            obtain ⟨ab, cb, rfl, slb⟩ := Row.toSl hTW.1 (wf_len _)
            obtain ⟨at', cl, rfl, sll⟩ := Row.toSl hTW.2.1 (wf_len _)
            have B5 := Lib.hid (B4.out.trans (hTW.2.2.1.mono B4.out.size))
            have S5 := Lib.hid (S4.out.below hTW.2.2.1)
            have T5 := Lib.hid (T4.out.below hTW.2.2.1)
            have X5 := Lib.hid (X4.out.below hTW.2.2.1)
            have SB := Lib.hid slb
            have SL := Lib.hid sll
            have HT0 := Lib.hid (show ∀ i, i < m → (X i).til ≤ 1099511627776 ∧ 0 ≤ (X i).til from fun i hi => ⟨hrel.out.2 i (Nat.zero_le _) hi, by
              have := (valid_facts HV.out).2.2.1 i hi
              unfold okW at this
              omega⟩)
            have rb1 := slb.hm
            have rb2 := slb.hc
            have rl1 := sll.hm
            have rl2 := sll.hc
            have V1 := Lib.hid (valid16 ao am ab m c k c2 m cb J M (revL m X) wo S5.out T5.out SB.out (fun i hi => HTX.out _ (by omega)))
            rw [vB_iff.2 (valid_rev HV.out)] at V1
            clear hrel hTW slb sll S4 T4 X4 B4
            go_wp2_with fail
            refine V1.out.mono ?_
            rintro e w5 ⟨rfl, b5⟩
            have B6 := Lib.hid (B5.out.trans (b5.mono B5.out.size))
            have S6 := Lib.hid (S5.out.below b5)
            have T6 := Lib.hid (T5.out.below b5)
            have X6 := Lib.hid (X5.out.below b5)
            have SB6 := Lib.hid (SB.out.below b5)
            have SL6 := Lib.hid (SL.out.below b5)
            have V2 := Lib.hid (valid16 ao am at' m c k c2 m cl J M _ w5 S6.out T6.out SL6.out (fun i hi => by
              have := HT0.out (m - 1 - i) (by omega)
              show inI ((X (m - 1 - i)).til + 77)
              unfold inI
              omega))
            rw [vB_iff.2 (valid_late (by decide) (valid_rev HV.out))] at V2
            clear b5 V1 S5 T5 X5 SB SL B5
            go_wp2_with fail
            refine V2.out.mono ?_
            rintro e w6 ⟨rfl, b6⟩
            have B7 := Lib.hid (B6.out.trans (b6.mono B6.out.size))
            have S7 := Lib.hid (S6.out.below b6)
            have T7 := Lib.hid (T6.out.below b6)
            have X7 := Lib.hid (X6.out.below b6)
            have SB7 := Lib.hid (SB6.out.below b6)
            have SL7 := Lib.hid (SL6.out.below b6)
            have E1 := Lib.hid (end18 ab m cb (revL m X) w6 SB7.out)
            rw [end_rev] at E1
            obtain ⟨en, hen⟩ : ∃ en, en = endL X m := ⟨_, rfl⟩
            rw [← hen] at E1
            have HEN := Lib.hid hen
            have hen0 : en ≤ 1099511627776 := by rw [hen]; exact endL_le (.inr (by decide)) (fun t ht => (HT0.out t ht).1)
            have hen1 : 0 ≤ en := by rw [hen]; exact endL_nonneg (fun t ht => (HT0.out t ht).2)
            have tne : (en != en) = false := by simp
            clear b6 V2 S6 T6 X6 SB6 SL6 B6 hen
            go_wp2_with fail
            refine E1.out.mono ?_
            rintro e w7 ⟨rfl, b7⟩
            have B8 := Lib.hid (B7.out.trans (b7.mono B7.out.size))
            have S8 := Lib.hid (S7.out.below b7)
            have T8 := Lib.hid (T7.out.below b7)
            have X8 := Lib.hid (X7.out.below b7)
            have SB8 := Lib.hid (SB7.out.below b7)
            have SL8 := Lib.hid (SL7.out.below b7)
            have E2 := Lib.hid (end18 aX m cX X w7 X8.out)
            rw [← HEN.out] at E2
            clear b7 E1 S7 T7 X7 SB7 SL7 B7
            go_wp2_with fail
            refine E2.out.mono ?_
            rintro e w8 ⟨rfl, b8⟩
            have B9 := Lib.hid (B8.out.trans (b8.mono B8.out.size))
            have S9 := Lib.hid (S8.out.below b8)
            have T9 := Lib.hid (T8.out.below b8)
            have X9 := Lib.hid (X8.out.below b8)
            have SB9 := Lib.hid (SB8.out.below b8)
            have SL9 := Lib.hid (SL8.out.below b8)
            clear b8 E2 S8 T8 X8 SB8 SL8 B8
            by_cases hm0 : m = 0
            · have tm0 : ((m : Int) == 0) = true := by simp [hm0]
              have he0 : en = 0 := by rw [HEN.out, hm0]; rfl
              have te0 : (en == 0) = true := by simp [he0]
              have E3 := Lib.hid (end18 aX m cX X w8 X9.out)
              rw [← HEN.out] at E3
              clear hm0 he0
              go_wp2_with fail
              refine E3.out.mono ?_
              rintro e w9 ⟨rfl, b9⟩
              have BX := Lib.hid (B9.out.trans (b9.mono B9.out.size))
              clear b9
              go_wp2_with fail
              refine (awake10 _).mono ?_
              rintro e wa ⟨rfl, ba⟩
              have BA := Lib.hid (BX.out.trans (ba.mono BX.out.size))
              clear ba
              go_wp2_with fail
              go_returns
              exact ⟨rfl, BA.out⟩
            · have tm0 : ((m : Int) == 0) = false := by simp [hm0]
              have hmp : 0 < m := by omega
              clear hm0
              obtain ⟨wE, hwE⟩ : ∃ wE, wE = w8.alloc (.cells #[] 43) := ⟨_, rfl⟩
              have bE : Below w8.heap.size w8 wE := by rw [hwE]; exact (Below.refl _ _).alloc (Nat.le_refl _) _
              have RE : Hid (Row wE w8.heap.size 43 4 (.slice (some ⟨w8.heap.size, 0, none⟩) 0 0) 0 (wf X)) := Lib.hid (Row.empty (by rw [hwE]; exact heap_alloc_new w8 _) (Nat.le_refl _) _)
              have SE := Lib.hid (SB9.out.below bE)
              have HWE := Lib.hid hwE
              have BE := Lib.hid bE
              clear hwE bE
              go_wp2_with (at_builtin; rw [← HWE.out]; refine wpList_append_sl _ rfl (.tmp 104) (.tmp 105) 26 rfl w8.heap.size 43 i0 _ 4 32 Try.underlying26 hi hz0 hz1 hz2 rfl (by decide) _ 0 (wf X) rfl RE.out (wf_len _) ab m cb (wf (revL m X)) rfl (wf_len _) SE.out.hno SE.out.sl (wf_one _) (by omega) (by unfold maxLen; omega) BE.out.size ?_)
              intro v' wF hF hgF hvF
              have BF := Lib.hid (BE.out.trans ((Off.of_grown hgF).toBelow BE.out.size (fun k hk h => by simp [Value.ownBlock] at h; omega)))
              have RF := Lib.hid hF
              have XF := Lib.hid (X9.out.below BF.out)
              obtain ⟨g, o, rfl, hg, x0, x1, x2, x3⟩ := XF.out.work hmp
              rw [Nat.zero_mul, Nat.add_zero] at x0 x1 x2 x3
              have zg := szs hg
              obtain ⟨y, hy⟩ : ∃ y, y = X 0 := ⟨_, rfl⟩
              rw [← hy] at x0 x1 x2 x3
              have HY := Lib.hid hy
              obtain ⟨y0, y1, y2, y3⟩ := y
              dsimp only at x0 x1 x2 x3
              have RG := Lib.hid (Row.off (X := fun _ => False) RF.out (Off.of_below ((Below.refl wF.heap.size wF).alloc (Nat.le_refl _) (.cells #[.int .i64 y0, .int .i64 y1, .int .i64 y2, .int .i64 y3] 43))) (fun _ _ h => h))
              have hszF : w8.heap.size ≤ (wF.alloc (.cells #[.int .i64 y0, .int .i64 y1, .int .i64 y2, .int .i64 y3] 43)).heap.size := by have := BF.out.size; simp; omega
              have tmp0 : (0 : Int) < (m : Int) := by omega
              clear hF hgF hvF hy hg RE SE HWE BE RF
              go_wp2_with (at_builtin; refine wpList_append_row _ rfl (.tmp 107) (.tmp 111) 26 rfl w8.heap.size 43 i0 _ 4 32 Try.underlying26 hi hz0 hz1 hz2 rfl (by decide) _ m _ rfl RG.out (cat_len (wf_len _) (wf_len _)) wF.heap.size 1 [.int .i64 y0, .int .i64 y1, .int .i64 y2, .int .i64 y3] rfl rfl 43 (0, 0) (heap_alloc_new wF _) (by intro x hx; simp at hx; rcases hx with rfl | rfl | rfl | rfl <;> rfl) (by omega) (by unfold maxLen; omega) hszF ?_)
              intro g' cap wH hcap hcap2 hbg hgl hown hrH hgr
              have RH : Hid (Row wH w8.heap.size 43 4 (.slice (some ⟨g', 0, none⟩) (m + 1) cap) (m + 1) (wf (fun i => if i < m then revL m X i else X 0))) := Lib.hid (Row.congr hrH (fun i hi => by
                by_cases e : i = m
                · subst e; rw [upd_same]; unfold wf; simp only [Nat.lt_irrefl, if_false]; rw [← HY.out]
                · rw [upd_ne e]
                  show cat _ 0 _ i = _
                  unfold cat
                  rw [if_neg (Nat.not_lt_zero i), Nat.sub_zero]
                  exact congrArg (fun x : Wk => [Value.int .i64 x.job, .int .i64 x.mech, .int .i64 x.frm, .int .i64 x.til]) (show revL m X i = (if i < m then revL m X i else X 0) from (if_pos (by omega)).symm)))
              have BH := Lib.hid (BF.out.trans ((((Below.refl wF.heap.size wF).alloc (Nat.le_refl _) (.cells #[.int .i64 y0, .int .i64 y1, .int .i64 y2, .int .i64 y3] 43)).mono BF.out.size).trans ((Off.of_grown hgr).toBelow hszF (fun k hk h => by have := (World.ownsRow.lt RG.out k h.symm).1; omega))))
              have BX := Lib.hid (B9.out.trans (BH.out.mono B9.out.size))
              have SX2 := Lib.hid (S9.out.below BH.out)
              have TX2 := Lib.hid (T9.out.below BH.out)
              have XX2 := Lib.hid (X9.out.below BH.out)
              have SLX := Lib.hid (SL9.out.below BH.out)
              obtain ⟨ag, cg, hvg, slg⟩ := Row.toSl RH.out (wf_len _)
              cases hvg
              have SGX := Lib.hid slg
              have E3 := Lib.hid (end18 at' m cl _ wH SLX.out)
              rw [end_late _ _ hmp, end_rev, ← HEN.out] at E3
              clear hrH hgr hown RG BF XF x0 x1 x2 x3 zg slg RH BH S9 T9 X9 SB9 SL9 B9 hszF
              go_wp2_with fail
              refine E3.out.mono ?_
              rintro e w9 ⟨rfl, b9⟩
              have BY := Lib.hid (BX.out.trans (b9.mono BX.out.size))
              have SY := Lib.hid (SX2.out.below b9)
              have TY := Lib.hid (TX2.out.below b9)
              have XY := Lib.hid (XX2.out.below b9)
              have GY := Lib.hid (SGX.out.below b9)
              have E4 := Lib.hid (end18 _ m cX X w9 XY.out)
              rw [← HEN.out] at E4
              have w77 : IntKind.i64.wrap (en + 77) = en + 77 := IntWalk.i64_in _ (by omega)
              have t77 : (en + 77 == en + 77) = true := by simp
              clear b9 E3 SX2 TX2 XX2 SLX SGX BX
              by_cases hc1 : cX = 1
              · obtain rfl : m = 1 := by omega
                subst hc1
                go_wp2_with fail
                refine E4.out.mono ?_
                rintro e wa ⟨rfl, ba⟩
                have BZ := Lib.hid (BY.out.trans (ba.mono BY.out.size))
                have SZ := Lib.hid (SY.out.below ba)
                have TZ := Lib.hid (TY.out.below ba)
                have XZ := Lib.hid (XY.out.below ba)
                have GZ := Lib.hid (GY.out.below ba)
                clear ba E4 SY TY XY GY BY
                go_wp2_with fail
                have V3 := Lib.hid (valid16 ao am (some ⟨g, o, none⟩) 1 c k c2 0 0 J M X wa SZ.out TZ.out ⟨by omega, by omega, (fun e => (by cases e)), fun i => rfl, fun i hi => absurd hi (by omega)⟩ (fun i hi => absurd hi (by omega)))
                rw [vB_len (by omega)] at V3
                refine V3.out.mono ?_
                rintro e wb ⟨rfl, bb⟩
                have BZ2 := Lib.hid (BZ.out.trans (bb.mono BZ.out.size))
                have V4 := Lib.hid (valid16 ao am _ 1 c k c2 (1 + 1) _ J M _ wb (SZ.out.below bb) (TZ.out.below bb) (GZ.out.below bb) (fun i hi => by
                  by_cases e : i < 1
                  · show inI (if i < 1 then revL 1 X i else X 0).til
                    rw [if_pos e]; exact HTX.out _ (by omega)
                  · show inI (if i < 1 then revL 1 X i else X 0).til
                    rw [if_neg e]; exact HTX.out 0 (by omega)))
                rw [vB_len (by omega)] at V4
                clear bb V3 SZ TZ XZ GZ BZ
                go_wp2_with fail
                refine V4.out.mono ?_
                rintro e wc ⟨rfl, bc⟩
                have BC := Lib.hid (BZ2.out.trans (bc.mono BZ2.out.size))
                clear bc V4 BZ2
                go_wp2_with fail
                refine (awake10 _).mono ?_
                rintro e wd ⟨rfl, bd⟩
                have BD := Lib.hid (BC.out.trans (bd.mono BC.out.size))
                clear bd
                go_wp2_with fail
                go_returns
                exact ⟨rfl, BD.out⟩
              · go_wp2_with fail
                refine E4.out.mono ?_
                rintro e wa ⟨rfl, ba⟩
                have BZ := Lib.hid (BY.out.trans (ba.mono BY.out.size))
                have SZ := Lib.hid (SY.out.below ba)
                have TZ := Lib.hid (TY.out.below ba)
                have XZ := Lib.hid (XY.out.below ba)
                have GZ := Lib.hid (GY.out.below ba)
                clear ba E4 SY TY XY GY BY
                have V3 := Lib.hid (valid16 ao am _ m c k c2 (m - 1) (cX - 1) J M _ wa SZ.out TZ.out (XZ.out.tail (by omega)) (fun i hi => HTX.out (i + 1) (by omega)))
                rw [vB_len (by omega)] at V3
                go_wp2_with fail
                refine V3.out.mono ?_
                rintro e wb ⟨rfl, bb⟩
                have BZ2 := Lib.hid (BZ.out.trans (bb.mono BZ.out.size))
                have V4 := Lib.hid (valid16 ao am _ m c k c2 (m + 1) _ J M _ wb (SZ.out.below bb) (TZ.out.below bb) (GZ.out.below bb) (fun i hi => by
                  by_cases e : i < m
                  · show inI (if i < m then revL m X i else X 0).til
                    rw [if_pos e]; exact HTX.out _ (by omega)
                  · show inI (if i < m then revL m X i else X 0).til
                    rw [if_neg e]; exact HTX.out 0 (by omega)))
                rw [vB_len (by omega)] at V4
                clear bb V3 SZ TZ XZ GZ BZ
                go_wp2_with fail
                refine V4.out.mono ?_
                rintro e wc ⟨rfl, bc⟩
                have BC := Lib.hid (BZ2.out.trans (bc.mono BZ2.out.size))
                clear bc V4 BZ2
                go_wp2_with fail
                refine (awake10 _).mono ?_
                rintro e wd ⟨rfl, bd⟩
                have BD := Lib.hid (BC.out.trans (bd.mono BC.out.size))
                clear bd
                go_wp2_with fail
                go_returns
                exact ⟨rfl, BD.out⟩
      · have e1 : plN m J k M = 0 := by simp [plN, hc]
        have C2 := Lib.hid (valid16 ao am aX m c k c2 _ cX J M _ w3 S3.out T3.out SX.out (fun i hi => absurd hi (by rw [e1]; omega)))
        rw [vB_chk hc] at C2
        rw [e1] at C2 ⊢
        have r1 := SX.out.hm
        have r2 := SX.out.hc
        rw [e1] at r1
        have C3 := Lib.hid (fun w4 (b : Below w3.heap.size w3 w4) => check13 ao am m c k c2 J M w4 (S3.out.below b) (T3.out.below b))
        generalize chkE m J k M = ce at *
        have tb : (ce != 0) = true := by simp; exact hc
        clear hc e1 S3 T3 SX
        go_wp2_with fail
        refine C2.out.mono ?_
        rintro e w4 ⟨rfl, b4⟩
        have B4 := Lib.hid (B3.out.trans (b4.mono B3.out.size))
        have C4 := Lib.hid (C3.out w4 b4)
        clear b4 C2 C3 B3
        go_wp2_with fail
        refine C4.out.mono ?_
        rintro e w5 ⟨rfl, b5⟩
        have B5 := Lib.hid (B4.out.trans (b5.mono B4.out.size))
        clear b5 C4 B4
        go_wp2_with fail
        refine (awake10 _).mono ?_
        rintro e w6 ⟨rfl, b6⟩
        have B6 := Lib.hid (B5.out.trans (b6.mono B5.out.size))
        clear b6
        go_wp2_with fail
        go_returns
        exact ⟨rfl, B6.out⟩
  · cases f
    · go_enter Try.func8, Try.ntmps8
      go_wp2_with fail
      refine HFW.out.mono ?_
      rintro e w1 ⟨rfl, rfl⟩
      clear HFW
      go_wp2_with fail
      refine (awake10 _).mono ?_
      rintro e w2 ⟨rfl, b2⟩
      have B2 := Lib.hid b2
      clear b2
      go_wp2_with fail
      go_returns
      exact ⟨rfl, B2.out⟩
    · have tn : (40 : Int) < (n : Int) := by
        have : ¬ n ≤ 40 := fun h => hf ⟨rfl, h⟩
        omega
      clear hf
      go_enter Try.func8, Try.ntmps8
      go_wp2_with fail
      refine HFW.out.mono ?_
      rintro e w1 ⟨rfl, rfl⟩
      clear HFW
      go_wp2_with fail
      refine (awake10 _).mono ?_
      rintro e w2 ⟨rfl, b2⟩
      have B2 := Lib.hid b2
      clear b2
      go_wp2_with fail
      go_returns
      exact ⟨rfl, B2.out⟩
end Go.Proofs.Ytanpefjbmpohdaa
