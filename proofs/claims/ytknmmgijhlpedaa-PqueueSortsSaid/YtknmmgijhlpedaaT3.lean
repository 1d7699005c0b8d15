/- The law PqueueSorts walked. -/
import Derived.Test.YtknmmgijhlpedaaT2
import Derived.Test.YtknmmgijhlpedaaV
namespace Go.Proofs.Ytknmmgijhlpedaa
open Go.RowKit Go.ChangeShapes Go.WideShapes Go.Deep
set_option linter.unusedVariables false
set_option linter.unusedSimpArgs false
open QI
theorem infoB : (Try.prog.info? 4).map (fun i => (i.zero, i.size, i.bytes)) = some (some (.bool false), 1, 1) := by kernel_rfl
def bf (S : Nat → Bool) : Nat → List Value := fun i => [.bool (S i)]
theorem bf_len (S : Nat → Bool) (i : Nat) : (bf S i).length = 1 := rfl
theorem flat_rep (n : Nat) : List.replicate n (Value.bool false) = flat (bf fun _ => false) n := by
  induction n with
  | zero => rfl
  | succ n ih => rw [flat_succ, ← ih, List.replicate_succ']; rfl
/-- After k rounds the first k have been seen. -/
def seenB (P : Nat → Nat) (k : Nat) (t : Nat) : Bool := (List.range k).any fun j => P j == t
theorem seenB_no {P : Nat → Nat} {k t : Nat} (h : ∀ j, j < k → P j ≠ t) : seenB P k t = false := by
  unfold seenB
  rw [List.any_eq_false]
  intro j hj
  simpa using h j (List.mem_range.1 hj)
theorem seenB_succ (P : Nat → Nat) (k : Nat) : (fun t => upd (bf (seenB P k)) (P k) [.bool true] t) = bf (seenB P (k + 1)) := by
  funext t
  by_cases h : t = P k
  · subst h; rw [upd_same]; simp [bf, seenB]; exact ⟨k, by omega, rfl⟩
  · rw [upd_ne h]; simp [bf, seenB, List.range_succ]
    intro e; exact absurd e.symm h
set_option maxHeartbeats 2000000 in
set_option maxRecDepth 100000 in
theorem run_pqueueSorts {H : Type} {enc : TypeId × Value → H} (W : World) (base : Nat) (v0 : Value) (d0 : DataW H) (p0 : List MemPlace) (hv0 : Value.okWide Try.prog W .any base 22 v0) (h0 : DataW.Trod enc Try.prog W 0 (fun _ => true) true 22 v0 d0 p0) :
    Calls Try.prog 3 #[v0] W fun e w' => e = .returned (.bool true) ∧ Below W.heap.size W w' := by
  obtain ⟨a, n, c, K, rfl, hn, hc, hK, hab⟩ := open_keys hv0 h0
  clear hv0 h0
  by_cases hn2 : 300 < n
  · have t1 : (300 : Int) < (n : Int) := by omega
    clear hK hab
    go_enter Try.func3, Try.ntmps3
    go_wp2_with (go_at_call 9; refine (awake9 _).mono ?_; rintro e w1 ⟨rfl, hb⟩)
    go_returns
    exact ⟨rfl, hb⟩
  have t1 : (n : Int) ≤ 300 := by omega
  have N1 := new false W W.heap.size (Nat.le_refl _)
  simp only [F, fn, if_true, if_false, Bool.false_eq_true] at N1
  obtain ⟨P, hP⟩ := leave_its K n
  obtain ⟨ib, hbi, hbz0, hbz1, hbz2⟩ := info_parts infoB
  have HP := Lib.hid hP
  have HN1 := Lib.hid N1
  have t0 : decide ((300 : Int) < (n : Int)) = false := by simp; omega
  have HK := Lib.hid hK
  have HA := Lib.hid hab
  clear hK hab N1 hP
  go_enter Try.func3, Try.ntmps3
  go_wp2_with fail
  refine HN1.out.mono ?_
  rintro e w1 ⟨rfl, q1, b1⟩
  have k1 : Keys w1 a n K := SlE.below (fun _ => rfl) HK.out b1
  have fl := fill12 false w1 W.heap.size W.heap.size none [] 0 a n c K 0 q1 k1 (fun h0 x hx h => by have := HA.out h0 x hx; rcases h with h | h; omega; cases h) hn hc (by omega) (by omega) (by omega) (by omega) b1.size
  have FL := Lib.hid fl
  have B1 := Lib.hid b1
  have hq1 := (q1.within _ (.inl rfl)).2
  clear q1 b1 k1 fl
  go_wp2_with fail
  refine FL.out.mono ?_
  rintro e w2 ⟨v2, ow, rfl, _, q2, o2, f2, _⟩
  rw [List.nil_append] at q2
  have B2 := Lib.hid (B1.out.trans (o2.toBelow B1.out.size (fun k hk h => by rcases h with h | h; omega; cases h)))
  have l2 := len false w2 W.heap.size _ ow _ _ q2
  rw [its_len] at l2
  have dr := drain14 false w2 W.heap.size _ ow _ _ (n + 1) q2 (by omega) (by rw [its_len]; omega) (by omega)
  rw [show ((n + 1 : Nat) : Int) = (n : Int) + 1 by omega] at dr
  have L2 := Lib.hid l2
  have DR := Lib.hid dr
  have FW := Lib.hid q2.within
  clear q2 o2 f2 l2 dr
  go_wp2_with fail
  refine L2.out.mono ?_
  rintro e w' ⟨rfl, rfl⟩
  go_wp2_with fail
  refine DR.out.mono ?_
  rintro e w3 ⟨v3, rfl, r3, q3, o3⟩
  have ll := leave_len (lt false) n (its K 0 n) (its_len K 0 n)
  have b3 : Below W.heap.size W w3 := B2.out.trans (o3.toBelow B2.out.size (fun k hk h => by have := (FW.out k h).1; omega))
  have key := fun k (h : k < n) => (HP.out k h)
  generalize leave (lt false) (its K 0 n) = L at *
  obtain ⟨a3, c3, rfl, hc31, hc32, s3, _⟩ := Row.sl r3 (lf_len L)
  rw [ll] at hc31 s3 ⊢
  have own3 : Hid (∀ g o, a3 = some ⟨g, o, none⟩ → g < w3.heap.size) := Lib.hid fun g o e => by subst e; exact (r3.own g rfl).2
  have B3 := Lib.hid b3
  have Q3 := Lib.hid q3
  have S3 := Lib.hid s3
  have hs3 : W.heap.size ≤ w3.heap.size := b3.size
  have FW3 := Lib.hid q3.within
  have LL := Lib.hid ll
  clear o3 b3 q3 r3 key s3 ll
  go_wp2_with (refine wpList_make_full _ rfl _ _ 33 rfl W.heap.size 4 ib (.bool false) 1 Try.underlying33 hbi hbz0 hbz1 .i64 .i64 n n n rfl rfl rfl rfl (by rw [hbz2]; omega) (by unfold maxLen; omega) hs3 ?_)
  intro w4 r4 g4
  have b4 : Below w3.heap.size w3 w4 := (Off.of_grown g4).toBelow (Nat.le_refl _) (fun k hk h => by simp at h)
  have r4' : Row w4 W.heap.size 4 1 (.slice (some ⟨w3.heap.size, 0, none⟩) n n) n (bf (seenB P 0)) := by
    have e : bf (seenB P 0) = bf fun _ => false := rfl
    unfold Row
    rw [e, ← flat_rep, ← toList_madeCells_one]
    simpa using r4
  have R4 := Lib.hid r4'
  have B4 := Lib.hid (B3.out.trans (b4.mono hs3))
  have Q4 := Lib.hid (Q3.out.below b4)
  have S4 := Lib.hid (SlE.below (lf_len L) S3.out b4)
  clear r4 g4 b4 r4'
  go_wp2_with fail
  go_loopw [6] (fun i wr => ∃ k : Nat, k ≤ n ∧ i = .int .i64 k ∧ Hid (Row wr W.heap.size 4 1 (.slice (some ⟨w3.heap.size, 0, none⟩) n n) n (bf (seenB P k)) ∧ Below W.heap.size W wr ∧ SlE wr 2 a3 n (lf L) ∧ Q wr W.heap.size W.heap.size ow false [] (0 + n))) (fun i _ => n - (intOf i).toNat)
  case atStart => exact ⟨0, by omega, rfl, R4.out, B4.out, S4.out, Q4.out⟩
  case round =>
    obtain ⟨k, hk, rfl, hrel⟩ := hrel
    clear R4 B4 S4 Q4
    by_cases hlt : k < n
    · obtain ⟨p1, p2, p3, p4⟩ := HP.out k hlt
      obtain ⟨h1, h2, h3, h4⟩ := hrel.out
      obtain ⟨g3, o3', rfl, hz3⟩ := h3.all (by omega)
      clear hz3
      have own4 := own3.out g3 o3' rfl
      have x0 := sl_cells (by rw [LL.out]; exact h3) (i := k) (by rw [LL.out]; exact hlt)
      rw [p2] at x0
      obtain ⟨x0, x1⟩ := x0
      obtain ⟨ga, oa, rfl, ka⟩ := Keys.cell (SlE.below (fun _ => rfl) HK.out h2) p1
      have sb := Row.cell h1 (bf_len _) p1 (show 0 < 1 by decide)
      have sf := Row.free h1
      rw [show bf (seenB P k) (P k) = [.bool false] by simp [bf, seenB_no p3]] at sb
      simp at sb
      have ST := fun nq => Row.store (Row.off (X := fun _ => False) h1 (Off.of_below (below_drewN (Below.refl _ _) nq)) (fun _ _ h => h)) (bf_len _) p1 (show 0 < 1 by decide) (.bool true)
      have eS : (upd (bf (seenB P k)) (P k) ((bf (seenB P k) (P k)).set 0 (.bool true))) = bf (seenB P (k + 1)) := seenB_succ P k
      rw [eS] at ST
      simp only [Nat.mul_one, Nat.add_zero] at ST
      have HST := Lib.hid ST
      have t2 : (k : Int) < (n : Int) := by omega
      have t3 : ((P k : Nat) : Int) < (n : Int) := by omega
      have hsn : n ≤ n := Nat.le_refl _
      have fin : ∀ nq nq2, Below W.heap.size W (((wr.drewN nq).setCell ⟨w3.heap.size, P k, none⟩ (.bool true)).drewN nq2) ∧ Off (fun b => b = w3.heap.size) wr (((wr.drewN nq).setCell ⟨w3.heap.size, P k, none⟩ (.bool true)).drewN nq2) := fun nq nq2 =>
        ⟨by (repeat' (first | (with_reducible exact Below.refl _ _) | (with_reducible assumption) | (with_reducible refine Below.drew ?_) | (with_reducible refine below_drewN ?_ _) | (with_reducible refine Below.alloc ?_ ?_ _) | (with_reducible refine Below.setCell ?_ ?_ _) | go_size)), ((Off.of_below (X := fun b => b = w3.heap.size) (below_drewN (Below.refl _ _) nq)).setCell (fun _ => rfl) _).trans (Off.of_below (X := fun b => b = w3.heap.size) (below_drewN (Below.refl _ _) nq2)) (fun _ _ h => h)⟩
      have FIN := Lib.hid fin
      clear h1 h2 h4 p2 p3 ST eS fin
      have HOLD := Lib.hid hrel.out
      rcases Nat.eq_zero_or_pos k with rfl | hk0
      · clear h3 p4
        rw [show ((0 : Nat) : Int) = 0 from rfl]
        simp only [Nat.zero_mul, Nat.add_zero] at x0 x1
        generalize P 0 = p at *
        go_wp2_with fail
        (refine region_all (fun i : Nat => World.drewN _ i) mixed (by kernel_rfl) ⟨1, rfl⟩ ?_; (repeat (any_goals (first | go_big_quiet_step (fail) | quiet_step (fail) | (refine wpQuiet_step (fun K hK => ?_); go_simp; split <;> (refine hK _ ?_; clear hK K))))); (all_goals (refine wpQuiet_nil (fun nq => ?_))))
        go_wp2_with fail
        (refine region_all (fun i : Nat => World.drewN _ i) mixed (by kernel_rfl) ⟨1, rfl⟩ ?_; (repeat (any_goals (first | go_big_quiet_step (fail) | quiet_step (fail) | (refine wpQuiet_step (fun K hK => ?_); go_simp; split <;> (refine hK _ ?_; clear hK K))))); (all_goals (refine wpQuiet_nil (fun nq => ?_))))
        go_wp2_with fail
        go_roundw
        all_goals (first | exact ⟨1, by omega, by go_num, ⟨HST.out _ |>.off (Off.of_below (X := fun _ => False) (below_drewN (Below.refl _ _) _)) (fun _ _ h => h), (FIN.out _ _).1, SlE.off (lf_len L) HOLD.out.2.2.1 (FIN.out _ _).2 (fun a ha hx => by cases ha; dsimp only at hx; omega), Q.off HOLD.out.2.2.2 (FIN.out _ _).2 (fun b hb hx => by have := (FW3.out b hb).2; omega)⟩⟩ | (simp [intOf]; omega))
      · obtain ⟨j, hj⟩ : ∃ j, k = j + 1 := ⟨k - 1, by omega⟩
        have hkj : (k : Int) - 1 = (j : Int) := by omega
        obtain ⟨p5, p6, _, _⟩ := HP.out j (by omega)
        have p7 := p4 hk0
        rw [show k - 1 = j by omega] at p7
        have y0 := sl_cells (by rw [LL.out]; exact h3) (i := j) (by rw [LL.out]; omega)
        rw [p6] at y0
        obtain ⟨y0, y1⟩ := y0
        have j0 : (0 : Int) < (k : Int) := by omega
        have j1 : (j : Int) < (n : Int) := by omega
        have hwj : IntKind.i64.wrap (j : Int) = (j : Int) := by rw [IntKind.wrap_i64]; omega
        have HJ := Lib.hid hj
        clear h3 p4 p6 hj
        dsimp only at x0 x1 y0 y1
        obtain ⟨p, hp⟩ : ∃ p, p = P k := ⟨_, rfl⟩
        obtain ⟨q, hq⟩ : ∃ q, q = P j := ⟨_, rfl⟩
        rw [← hp] at p1 x0 x1 ka sb t3 HST FIN p7
        rw [← hq] at p5 y0 y1 p7
        clear hp hq
        obtain ⟨kp, hkp⟩ : ∃ z, z = K p := ⟨_, rfl⟩
        obtain ⟨kq, hkq⟩ : ∃ z, z = K q := ⟨_, rfl⟩
        rw [← hkp] at x0 ka p7
        rw [← hkq] at y0 p7
        clear hkp hkq
        have u1 : ¬ kp < kq := by omega
        have u2 : kp = kq → ¬ (p : Int) ≤ (q : Int) := by omega
        rcases p7 with p7 | ⟨p7, p8⟩
        · have u3 : ¬ kq = kp := by omega
          have u4 : ¬ kp < kq := by omega
          clear u1 u2
          go_wp2_with fail
          (refine region_all (fun i : Nat => World.drewN _ i) mixed (by kernel_rfl) ⟨1, rfl⟩ ?_; (repeat (any_goals (first | go_big_quiet_step (fail) | quiet_step (fail) | (refine wpQuiet_step (fun K hK => ?_); go_simp; split <;> (refine hK _ ?_; clear hK K))))); (all_goals (refine wpQuiet_nil (fun nq => ?_))))
          go_wp2_with fail
          (refine region_all (fun i : Nat => World.drewN _ i) mixed (by kernel_rfl) ⟨1, rfl⟩ ?_; (repeat (any_goals (first | go_big_quiet_step (fail) | quiet_step (fail) | (refine wpQuiet_step (fun K hK => ?_); go_simp; split <;> (refine hK _ ?_; clear hK K))))); (all_goals (refine wpQuiet_nil (fun nq => ?_))))
          all_goals (try (exfalso; omega))
          all_goals go_wp2_with fail
          all_goals go_roundw
          all_goals (first | exact ⟨k + 1, by omega, by go_num, ⟨HST.out _ |>.off (Off.of_below (X := fun _ => False) (below_drewN (Below.refl _ _) _)) (fun _ _ h => h), (FIN.out _ _).1, SlE.off (lf_len L) HOLD.out.2.2.1 (FIN.out _ _).2 (fun a ha hx => by cases ha; dsimp only at hx; omega), Q.off HOLD.out.2.2.2 (FIN.out _ _).2 (fun b hb hx => by have := (FW3.out b hb).2; omega)⟩⟩ | (simp [intOf]; omega))
        · subst p7
          have u4 : ¬ (p : Int) ≤ (q : Int) := by omega
          clear u1 u2 p8
          go_wp2_with fail
          (refine region_all (fun i : Nat => World.drewN _ i) mixed (by kernel_rfl) ⟨1, rfl⟩ ?_; (repeat (any_goals (first | go_big_quiet_step (fail) | quiet_step (fail) | (refine wpQuiet_step (fun K hK => ?_); go_simp; split <;> (refine hK _ ?_; clear hK K))))); (all_goals (refine wpQuiet_nil (fun nq => ?_))))
          go_wp2_with fail
          (refine region_all (fun i : Nat => World.drewN _ i) mixed (by kernel_rfl) ⟨1, rfl⟩ ?_; (repeat (any_goals (first | go_big_quiet_step (fail) | quiet_step (fail) | (refine wpQuiet_step (fun K hK => ?_); go_simp; split <;> (refine hK _ ?_; clear hK K))))); (all_goals (refine wpQuiet_nil (fun nq => ?_))))
          all_goals (try (exfalso; omega))
          all_goals go_wp2_with fail
          all_goals go_roundw
          all_goals (first | exact ⟨k + 1, by omega, by go_num, ⟨HST.out _ |>.off (Off.of_below (X := fun _ => False) (below_drewN (Below.refl _ _) _)) (fun _ _ h => h), (FIN.out _ _).1, SlE.off (lf_len L) HOLD.out.2.2.1 (FIN.out _ _).2 (fun a ha hx => by cases ha; dsimp only at hx; omega), Q.off HOLD.out.2.2.2 (FIN.out _ _).2 (fun b hb hx => by have := (FW3.out b hb).2; omega)⟩⟩ | (simp [intOf]; omega))
    · obtain rfl : k = n := by omega
      obtain ⟨h1, h2, h3, h4⟩ := hrel.out
      have L5 := Lib.hid (len false wr W.heap.size _ ow _ _ h4)
      have H2 := Lib.hid h2
      clear h1 h2 h3 h4
      go_wp2_with fail
      refine L5.out.mono ?_
      rintro e w' ⟨rfl, rfl⟩
      go_wp2_with fail
      refine (awake9 _).mono ?_
      rintro e w6 ⟨rfl, b6⟩
      have B6 := Lib.hid (H2.out.trans (b6.mono H2.out.size))
      clear b6
      go_wp2_with fail
      go_returns
      exact ⟨rfl, B6.out⟩
end Go.Proofs.Ytknmmgijhlpedaa
