/- The levels of a truck and what was loaded on it, by the accepted events. Plain theorems, no program. -/
import Derived.Test.YtlnfhlmgnppcbaaGreatZCUA
namespace Go.Proofs.YtlnfhlmgnppcbaaGreat
set_option linter.unusedVariables false
set_option linter.unusedSimpArgs false
theorem lv_cnt0 (truck : Int) : ∀ n, cntN startS.F 4 truck n = 0
  | 0 => rfl
  | n + 1 => by
    unfold cntN
    rw [lv_cnt0 truck n]
    simp [startS]
theorem lv_diff0 {n : Nat} {truck t : Int} : ∀ (l : List Ev) (s : CSt) (a b : Int), a - b = (cntN s.F 4 truck n : Int) → 0 ≤ (mvR n truck t s l a b).1 - (mvR n truck t s l a b).2
  | [], s, a, b, h => by unfold mvR; dsimp only; omega
  | e :: l, s, a, b, h => by
    unfold mvR
    split
    · dsimp only; omega
    · exact lv_diff0 l _ _ _ (by omega)
theorem lv_low (truck t : Int) : ∀ (l : List Ev) (on : Nat → Bool) (a b : Int), a ≤ (mvP truck t on l a b).1 ∧ b ≤ (mvP truck t on l a b).2
  | [], _, _, _ => ⟨Int.le_refl _, Int.le_refl _⟩
  | e :: l, on, a, b => by
    have q1 : ∀ x, 0 ≤ b2i x := fun x => by unfold b2i; split <;> omega
    unfold mvP
    split
    · exact ⟨Int.le_refl _, Int.le_refl _⟩
    · have := lv_low truck t l (upd on e.bike.toNat (loadB truck e)) (a + b2i (loadB truck e)) (b + b2i (on e.bike.toNat))
      have := q1 (loadB truck e)
      have := q1 (on e.bike.toNat)
      exact ⟨by omega, by omega⟩
theorem lt_at {a b : Ev} (h : ltE a b = true) : a.at' ≤ b.at' := by
  have h1 := of_decide_eq_true (show decide (cmpE a b < 0) = true from h)
  unfold cmpE keyE cmpL at h1
  split at h1
  · omega
  · split at h1
    · omega
    · omega
theorem acc_rising (f : Fl) (l : List Ev) : Rising (runE f l).2 := ((isSet_setE l).1.sublist (run_sub f l)).imp (fun h => lt_at h)
theorem path_chk {f : Fl} : ∀ {l : List Ev} {s : CSt}, Path f s l → ∀ e ∈ l, checkE f e = 0
  | e :: l, s, h, x, hx => by
    rcases List.mem_cons.1 hx with rfl | hx
    · exact h.1
    · exact path_chk h.2.2.2 x hx
theorem at_in {f : Fl} {e : Ev} (h : checkE f e = 0) : 0 ≤ e.at' ∧ e.at' ≤ 4294943999 := by
  unfold checkE at h
  split at h
  · rename_i h1; exact absurd h h1
  split at h
  · simp at h
  rename_i hb
  have hb : (inB e.dev 0 (f.devs - 1) && (inB e.seq 1 1048576 && (decide (0 ≤ e.at') && (decide (e.at' ≤ e.late) && decide (e.late ≤ 4294943999))))) = true := by
    cases hh : (inB e.dev 0 (f.devs - 1) && (inB e.seq 1 1048576 && (decide (0 ≤ e.at') && (decide (e.at' ≤ e.late) && decide (e.late ≤ 4294943999)))))
    · exact absurd hh hb
    · rfl
  simp only [Bool.and_eq_true, decide_eq_true_iff] at hb
  omega
theorem acc_at (f : Fl) (l : List Ev) : ∀ e ∈ (runE f l).2, 0 ≤ e.at' := fun e he => (at_in (path_chk (run_path f l).1 e he)).1
theorem path_cap {f : Fl} {truck : Int} : ∀ (l : List Ev) (s : CSt), Inv f.bikes.toNat s → Path f s l → (cntN s.F 4 truck f.bikes.toNat : Int) ≤ f.T truck.toNat → ∀ k, k ≤ l.length → (cntN ((l.take k).foldl applyK s).F 4 truck f.bikes.toNat : Int) ≤ f.T truck.toNat
  | _, s, _, _, hc, 0, _ => by simpa using hc
  | [], s, _, _, hc, k + 1, hk => by simp at hk
  | e :: l, s, hI, hP, hc, k + 1, hk => by
    obtain ⟨hch, hk10, hf, hP'⟩ := hP
    obtain ⟨b1, b2⟩ := bike_in hch
    have hb : e.bike.toNat < f.bikes.toNat := by omega
    obtain ⟨h1, h2⟩ := on_step truck hI hch hf hk10
    have hcnt := cntN_one (F := s.F) (F' := (applyK s e).F) (truck := truck) (b := e.bike.toNat) (n := f.bikes.toNat) (fun i hi hne => by rw [h1 i hi, if_neg hne])
    rw [if_pos hb, h1 _ hb, if_pos rfl] at hcnt
    have hc' : (cntN (applyK s e).F 4 truck f.bikes.toNat : Int) ≤ f.T truck.toNat := by
      have q0 : ∀ x, 0 ≤ b2i x := fun x => by unfold b2i; split <;> omega
      have q2 := q0 (onB truck (s.F e.bike.toNat))
      cases hl : loadB truck e
      · rw [hl] at hcnt
        have : b2i false = 0 := rfl
        omega
      · have hkp : e.kind = 7 ∧ e.place = truck := by simpa [loadB] using hl
        unfold faultK at hf
        rw [if_neg (by omega), if_neg (by omega), if_neg (by omega), if_neg (by omega), if_neg (by omega), if_neg (by omega), if_pos hkp.1] at hf
        split at hf
        · simp at hf
        split at hf
        · simp at hf
        rename_i hlt
        rw [hkp.2] at hlt
        rw [hl] at hcnt
        have : b2i true = 1 := rfl
        omega
    rw [List.take_succ_cons, List.foldl_cons]
    exact path_cap l (applyK s e) (hI.step hch hf) hP' hc' k (by simpa using hk)
theorem allB_all {F : Nat → Int} {most : Int} : ∀ {n : Nat}, allB F most n = true → ∀ i, i < n → 1 ≤ F i ∧ F i ≤ most
  | 0, _, i, hi => absurd hi (by omega)
  | n + 1, h, i, hi => by
    unfold allB at h
    simp only [Bool.and_eq_true] at h
    rcases Nat.lt_or_ge i n with hl | hl
    · exact allB_all (n := n) h.1 i hl
    · obtain rfl : i = n := by omega
      exact inB_iff.1 h.2
def loadsL (f : Fl) (l : List Ev) (truck : Int) : List (Int × Int) := lvR f.bikes.toNat truck startS (runE f l).2 [(0, 0)]
def loadsE (f : Fl) (truck : Int) : Int := if fleetE f ≠ 0 then fleetE f else if truck < 0 ∨ (f.nt : Int) ≤ truck then 7 else 0
theorem mvP_mvR (f : Fl) (l : List Ev) (truck t : Int) : mvP truck t (fun _ => false) (runE f l).2 0 0 = mvR f.bikes.toNat truck t startS (runE f l).2 0 0 :=
  mv_same truck t _ startS _ 0 0 (Inv.start _) (run_path f l).1 (fun i _ => by simp [onB, startS])
theorem loads_law {f : Fl} {l : List Ev} {truck t : Int} (hf : fleetE f = 0) (h0 : 0 ≤ truck) (h1 : truck < f.nt) (ht : 0 ≤ t) :
    countT t (loadsL f l truck) = (mvP truck t (fun _ => false) (runE f l).2 0 0).1 - (mvP truck t (fun _ => false) (runE f l).2 0 0).2 ∧ 0 ≤ (mvP truck t (fun _ => false) (runE f l).2 0 0).2 ∧
    0 ≤ (mvP truck t (fun _ => false) (runE f l).2 0 0).1 - (mvP truck t (fun _ => false) (runE f l).2 0 0).2 ∧
    ∃ c1 r1, loadsL f l truck = (0, c1) :: r1 ∧ 0 ≤ c1 ∧ (c1 = 0 → carriedB (f.T truck.toNat) (loadsL f l truck)) := by
  have hT := allB_all (fleetE_zero hf).2.2.2.2.2.2 truck.toNat (by omega)
  refine ⟨?_, (lv_low truck t _ _ 0 0).2, ?_, ?_⟩
  · rw [mvP_mvR]
    exact lv_count ht _ startS 0 [] 0 0 (acc_rising f l) (acc_at f l) (fun _ _ _ => rfl) (fun x hx => by simp at hx) (fun _ _ x hx => by simp at hx) (.inl (by rw [lv_cnt0]; rfl)) (by rw [lv_cnt0]; rfl)
  · rw [mvP_mvR]
    exact lv_diff0 _ _ _ _ (by rw [lv_cnt0]; rfl)
  · obtain ⟨c1, r1, e1, e2, e3⟩ := lv_ok (n := f.bikes.toNat) (truck := truck) (cap := f.T truck.toNat) (by omega) (runE f l).2 startS 0 [] (acc_rising f l) (acc_at f l) (path_cap _ startS (Inv.start _) (run_path f l).1 (by rw [lv_cnt0]; show (0 : Int) ≤ _; omega))
      ⟨fun _ _ _ => rfl, fun _ _ x hx => by simp at hx, fun _ => carried_one (by omega), by omega⟩
    have e1' : loadsL f l truck = (0, c1) :: r1 := e1
    exact ⟨c1, r1, e1', e2, fun hz => by rw [e1']; exact e3 hz⟩
theorem mvR_some {n : Nat} {truck t : Int} : ∀ (l : List Ev) (s : CSt) (a b : Int), a - b = (cntN s.F 4 truck n : Int) → ∃ k, k ≤ l.length ∧ (mvR n truck t s l a b).1 - (mvR n truck t s l a b).2 = (cntN ((l.take k).foldl applyK s).F 4 truck n : Int)
  | [], s, a, b, h => ⟨0, by simp, by unfold mvR; simpa using h⟩
  | e :: l, s, a, b, h => by
    unfold mvR
    split
    · exact ⟨0, by simp, by simpa using h⟩
    · obtain ⟨k, h1, h2⟩ := mvR_some (n := n) (truck := truck) (t := t) l (applyK s e) (a + max 0 ((cntN (applyK s e).F 4 truck n : Int) - cntN s.F 4 truck n)) (b + max 0 ((cntN s.F 4 truck n : Int) - cntN (applyK s e).F 4 truck n)) (by omega)
      exact ⟨k + 1, by simp; omega, by rw [h2]; simp⟩
theorem moved_cap {f : Fl} {l : List Ev} {truck t : Int} (hf : fleetE f = 0) (h0 : 0 ≤ truck) (h1 : truck < f.nt) : (mvP truck t (fun _ => false) (runE f l).2 0 0).1 - (mvP truck t (fun _ => false) (runE f l).2 0 0).2 ≤ f.T truck.toNat := by
  have hT := allB_all (fleetE_zero hf).2.2.2.2.2.2 truck.toNat (by omega)
  rw [mvP_mvR]
  obtain ⟨k, h2, h3⟩ := mvR_some (n := f.bikes.toNat) (truck := truck) (t := t) (runE f l).2 startS 0 0 (by rw [lv_cnt0]; rfl)
  rw [h3]
  exact path_cap _ startS (Inv.start _) (run_path f l).1 (by rw [lv_cnt0]; show (0 : Int) ≤ _; omega) k h2
/-! As the program makes the levels: each moment's level, then without those that change nothing. -/
def setLast (out : List (Int × Int)) (c : Int) : List (Int × Int) := out.set (out.length - 1) ((out.getD (out.length - 1) (0, 0)).1, c)
def rawS (out : List (Int × Int)) (a c : Int) : List (Int × Int) := if (out.getD (out.length - 1) (0, 0)).1 = a then setLast out c else out ++ [(a, c)]
def rawL (n : Nat) (truck : Int) : CSt → List Ev → List (Int × Int) → List (Int × Int)
  | _, [], out => out
  | s, e :: l, out => rawL n truck (applyK s e) l (rawS out e.at' (cntN (applyK s e).F 4 truck n))
def ddS (out : List (Int × Int)) (x : Int × Int) : List (Int × Int) := if out.length ≠ 0 ∧ (out.getD (out.length - 1) (0, 0)).2 = x.2 then out else out ++ [x]
def ddL (l : List (Int × Int)) : List (Int × Int) := l.foldl ddS []
theorem ddL_snoc (l : List (Int × Int)) (x : Int × Int) : ddL (l ++ [x]) = ddS (ddL l) x := by unfold ddL; rw [List.foldl_append]; rfl
theorem getD_snoc (l : List (Int × Int)) (x : Int × Int) : (l ++ [x]).getD ((l ++ [x]).length - 1) (0, 0) = x := by simp [List.getD]
theorem ddL_last : ∀ (l : List (Int × Int)) (x : Int × Int), (ddL (l ++ [x])).length ≠ 0 ∧ ((ddL (l ++ [x])).getD ((ddL (l ++ [x])).length - 1) (0, 0)).2 = x.2 := fun l x => by
  rw [ddL_snoc]
  unfold ddS
  split
  · rename_i h; exact h
  · rw [getD_snoc]; simp
theorem ddL_add (l : List (Int × Int)) (y : Int × Int) (a c : Int) (ha : a ≠ 0) : ddL ((l ++ [y]) ++ [(a, c)]) = addL (ddL (l ++ [y])) a c := by
  obtain ⟨h1, h2⟩ := ddL_last l y
  rw [ddL_snoc]
  unfold ddS addL
  rw [if_neg ha]
  by_cases h : (((ddL (l ++ [y])).getD ((ddL (l ++ [y])).length - 1) (0, 0)).2) = c
  · rw [if_pos ⟨h1, h⟩, if_neg (by rw [h]; simp)]
  · rw [if_neg (fun hh => h hh.2), if_pos (fun hh => h hh.symm)]
theorem setLast_snoc (l : List (Int × Int)) (x : Int × Int) (c : Int) : setLast (l ++ [x]) c = l ++ [(x.1, c)] := by
  unfold setLast
  rw [getD_snoc]
  simp
inductive RawJ : List (Int × Int) → List (Int × Int) → List Ev → Prop
  | set {A : List (Int × Int)} {y : Int × Int} {l : List Ev} (h : ∀ e ∈ l, y.1 < e.at') (h0 : 0 ≤ y.1) : RawJ (A ++ [y]) (ddL (A ++ [y])) l
  | zero {c c' : Int} {l : List Ev} (h : ∀ e ∈ l, 0 ≤ e.at') (hc : c = c' ∨ ∃ e l', l = e :: l' ∧ e.at' = 0) : RawJ [(0, c)] [(0, c')] l
  | wait {A : List (Int × Int)} {y : Int × Int} {a c : Int} {l : List Ev} (h : ∀ e ∈ l, a ≤ e.at') (ha : 0 < a) (hn : ∃ e l', l = e :: l' ∧ e.at' = a) : RawJ ((A ++ [y]) ++ [(a, c)]) (ddL (A ++ [y])) l
theorem nextB_no {l : List Ev} {a : Int} (hR : Rising l) (h : ∀ e ∈ l, a ≤ e.at') (hn : ¬ nextB l a = true) : ∀ e ∈ l, a < e.at' := by
  cases l with
  | nil => intro e he; simp at he
  | cons y l =>
    intro x hx
    have h2 : y.at' ≠ a := by
      intro hh; apply hn; simp [nextB, hh]
    have h3 := h y (by simp)
    have h4 : y.at' ≤ x.at' := by
      rcases List.mem_cons.1 hx with rfl | hx
      · exact Int.le_refl _
      · exact (List.pairwise_cons.1 hR).1 x hx
    omega
theorem nextB_yes {l : List Ev} {a : Int} (hn : nextB l a = true) : ∃ e l', l = e :: l' ∧ e.at' = a := by
  cases l with
  | nil => simp [nextB] at hn
  | cons y l => exact ⟨y, l, rfl, by simpa [nextB] using hn⟩
theorem raw_same {n : Nat} {truck : Int} : ∀ (l : List Ev) (s : CSt) (raw lv : List (Int × Int)), Rising l → RawJ raw lv l → ddL (rawL n truck s l raw) = lvR n truck s l lv
  | [], s, raw, lv, _, h => by
    cases h with
    | set _ _ => rfl
    | zero h hc =>
      rcases hc with rfl | ⟨e, l', h1, _⟩
      · rfl
      · cases h1
    | wait _ _ hn => obtain ⟨e, l', h1, _⟩ := hn; cases h1
  | e :: l, s, raw, lv, hR, h => by
    have hR' : Rising l := hR.tail
    have hle : ∀ x ∈ l, e.at' ≤ x.at' := (List.pairwise_cons.1 hR).1
    unfold rawL lvR
    refine raw_same l (applyK s e) _ _ hR' ?_
    generalize (cntN (applyK s e).F 4 truck n : Int) = c1
    cases h with
    | @set A y _ h h0 =>
      have hy := h e (by simp)
      have er : rawS (A ++ [y]) e.at' c1 = (A ++ [y]) ++ [(e.at', c1)] := by
        unfold rawS; rw [getD_snoc, if_neg (by omega)]
      rw [er]
      by_cases hn : nextB l e.at' = true
      · rw [if_pos hn]
        exact .wait hle (by omega) (nextB_yes hn)
      · rw [if_neg hn, ← ddL_add A y e.at' c1 (by omega)]
        exact .set (nextB_no hR' hle hn) (by show 0 ≤ e.at'; omega)
    | @zero c c' _ h hc =>
      have h0 := h e (by simp)
      by_cases he : e.at' = 0
      · have er : rawS [(0, c)] e.at' c1 = [(0, c1)] := by
          unfold rawS; rw [if_pos (by simp [he])]; rfl
        rw [er]
        by_cases hn : nextB l e.at' = true
        · rw [if_pos hn]
          rw [he] at hle hn
          exact .zero hle (.inr (nextB_yes hn))
        · rw [if_neg hn]
          have ea : addL [(0, c')] e.at' c1 = [(0, c1)] := by unfold addL; rw [if_pos he]; rfl
          rw [ea]
          rw [he] at hle
          exact .zero hle (.inl rfl)
      · have hcc : c = c' := by
          rcases hc with h1 | ⟨e', l', h1, h2⟩
          · exact h1
          · cases h1; exact absurd h2 he
        subst hcc
        have er : rawS [(0, c)] e.at' c1 = ([] ++ [(0, c)]) ++ [(e.at', c1)] := by
          unfold rawS; rw [if_neg (by simp; omega)]; rfl
        rw [er]
        have el : ([(0, c)] : List (Int × Int)) = ddL ([] ++ [(0, c)]) := rfl
        rw [el]
        by_cases hn : nextB l e.at' = true
        · rw [if_pos hn]
          exact .wait hle (by omega) (nextB_yes hn)
        · rw [if_neg hn, ← ddL_add [] (0, c) e.at' c1 he]
          exact .set (nextB_no hR' hle hn) (by show 0 ≤ e.at'; omega)
    | @wait A y a c _ h ha hx =>
      obtain ⟨e', l', h1, h2⟩ := hx
      cases h1
      subst h2
      have er : rawS ((A ++ [y]) ++ [(e.at', c)]) e.at' c1 = (A ++ [y]) ++ [(e.at', c1)] := by
        unfold rawS; rw [getD_snoc, if_pos rfl, setLast_snoc]
      rw [er]
      by_cases hn : nextB l e.at' = true
      · rw [if_pos hn]
        exact .wait hle ha (nextB_yes hn)
      · rw [if_neg hn, ← ddL_add A y e.at' c1 (by omega)]
        exact .set (nextB_no hR' hle hn) (by show 0 ≤ e.at'; omega)
theorem raw_loads (f : Fl) (l : List Ev) (truck : Int) : ddL (rawL f.bikes.toNat truck startS (runE f l).2 [(0, 0)]) = loadsL f l truck :=
  raw_same _ _ _ _ (acc_rising f l) (.zero (acc_at f l) (.inl rfl))
end Go.Proofs.YtlnfhlmgnppcbaaGreat
