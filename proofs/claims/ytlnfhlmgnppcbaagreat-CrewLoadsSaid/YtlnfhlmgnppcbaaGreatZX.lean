/- Theorems that the new roots need beside the packed texts. -/
import Derived.Test.YtlnfhlmgnppcbaaGreatZRG8
import Derived.Test.YtlnfhlmgnppcbaaGreatZOPL
import Derived.Test.YtlnfhlmgnppcbaaGreatZFEW
import Derived.Test.YtlnfhlmgnppcbaaGreatZCSA
import Derived.BigQuiet
namespace Go.Proofs.YtlnfhlmgnppcbaaGreat
set_option linter.unusedVariables false
set_option linter.unusedSimpArgs false
end Go.Proofs.YtlnfhlmgnppcbaaGreat
namespace Go.Proofs.YtlnfhlmgnppcbaaGreat
set_option linter.unusedVariables false
set_option linter.unusedSimpArgs false
theorem mvP_most (truck t : Int) : ∀ (l : List Ev) (on : Nat → Bool) (a b : Int), (mvP truck t on l a b).1 ≤ a + l.length
  | [], _, a, _ => by simp [mvP]
  | e :: l, on, a, b => by
    have q1 : b2i (loadB truck e) ≤ 1 := by unfold b2i; split <;> omega
    unfold mvP
    split
    · simp; omega
    · have := mvP_most truck t l (upd on e.bike.toNat (loadB truck e)) (a + b2i (loadB truck e)) (b + b2i (on e.bike.toNat))
      simp; omega
end Go.Proofs.YtlnfhlmgnppcbaaGreat
namespace Go.Proofs.YtlnfhlmgnppcbaaGreat
set_option linter.unusedVariables false
set_option linter.unusedSimpArgs false
theorem countT_snoc (t : Int) (l : List (Int × Int)) (x : Int × Int) : countT t (l ++ [x]) = if x.1 ≤ t then x.2 else countT t l := by
  unfold countT; rw [List.foldl_append]; rfl
theorem carried_snoc {cap : Int} {l : List (Int × Int)} {x : Int × Int} (h : carriedB cap l) (h1 : 0 ≤ x.2) (h2 : x.2 ≤ cap) (h3 : (l.getD (l.length - 1) (0, 0)).1 < x.1) (h4 : x.2 ≠ (l.getD (l.length - 1) (0, 0)).2) : carriedB cap (l ++ [x]) := by
  obtain ⟨g1, g2, g3⟩ := h
  have low : ∀ i, i < l.length → (l ++ [x]).getD i (0, 0) = l.getD i (0, 0) := fun i hi => by
    rw [List.getD, List.getElem?_append_left hi]; rfl
  refine ⟨by simp, by rw [low 0 (by omega)]; exact g2, fun i hi => ?_⟩
  rw [List.length_append, List.length_singleton] at hi
  by_cases hl : i < l.length
  · rw [low i hl]
    refine ⟨(g3 i hl).1, (g3 i hl).2.1, fun h0 => ?_⟩
    rw [low (i - 1) (by omega)]
    exact (g3 i hl).2.2 h0
  · obtain rfl : i = l.length := by omega
    have e : (l ++ [x]).getD l.length (0, 0) = x := by simp
    rw [e]
    refine ⟨h1, h2, fun h0 => ?_⟩
    rw [low (l.length - 1) (by omega)]
    exact ⟨h3, h4⟩
theorem carried_one {cap : Int} (h : 0 ≤ cap) : carriedB cap [(0, 0)] :=
  ⟨by simp, rfl, fun i hi => by
    obtain rfl : i = 0 := by simpa using hi
    exact ⟨by simp, by simpa using h, fun h0 => absurd h0 (by omega)⟩⟩
theorem countT_all {t : Int} : ∀ (l : List (Int × Int)) (c : Int), (∀ x ∈ l, x.1 ≤ t) → l ≠ [] → l.foldl (fun c x => if x.1 ≤ t then x.2 else c) c = (l.getD (l.length - 1) (0, 0)).2
  | [], c, _, h => absurd rfl h
  | [x], c, h, _ => by simp [h x (by simp)]
  | x :: y :: l, c, h, _ => by
    rw [List.foldl_cons, countT_all (y :: l) _ (fun z hz => h z (by simp [hz])) (by simp)]
    simp [List.getD]
/-- Later events do not turn the count up to a moment. -/
theorem countT_later {n : Nat} {truck t : Int} (h0 : 0 ≤ t) : ∀ (l : List Ev) (s : CSt) (out : List (Int × Int)), (∀ e ∈ l, t < e.at') → countT t (lvR n truck s l out) = countT t out
  | [], _, _, _ => rfl
  | e :: l, s, out, h => by
    unfold lvR
    rw [countT_later h0 l _ _ (fun x hx => h x (by simp [hx]))]
    split
    · rfl
    · have := h e (by simp)
      unfold addL
      rw [if_neg (by omega)]
      split
      · rw [countT_snoc, if_neg (by show ¬ e.at' ≤ t; omega)]
      · rfl
theorem add_cons {c0 : Int} {rest : List (Int × Int)} {a c : Int} (h : a = 0 → rest = []) : ∃ c1 r1, addL ((0, c0) :: rest) a c = (0, c1) :: r1 ∧ (((0, c1) :: r1).getD r1.length (0, 0)).2 = c ∧ (a = 0 → c1 = c ∧ r1 = []) ∧ (a ≠ 0 → c1 = c0 ∧ (r1 = rest ++ [(a, c)] ∧ c ≠ (((0, c0) :: rest).getD rest.length (0, 0)).2 ∨ r1 = rest)) := by
  unfold addL
  by_cases ha : a = 0
  · rw [if_pos ha]
    obtain rfl := h ha
    exact ⟨c, [], rfl, rfl, fun _ => ⟨rfl, rfl⟩, fun h => absurd ha h⟩
  · rw [if_neg ha]
    have el : ((0, c0) :: rest).length - 1 = rest.length := by simp
    rw [el]
    by_cases hc : c ≠ (((0, c0) :: rest).getD rest.length (0, 0)).2
    · rw [if_pos hc]
      exact ⟨c0, rest ++ [(a, c)], rfl, by simp [List.getD, List.getElem?_cons], fun h => absurd h ha, fun _ => ⟨rfl, .inl ⟨rfl, hc⟩⟩⟩
    · rw [if_neg hc]
      exact ⟨c0, rest, rfl, (Decidable.not_not.1 hc).symm, fun h => absurd h ha, fun _ => ⟨rfl, .inr rfl⟩⟩
theorem lv_ok {n : Nat} {truck cap : Int} (hcap : 0 ≤ cap) : ∀ (l : List Ev) (s : CSt) (c0 : Int) (rest : List (Int × Int)), Rising l → (∀ e ∈ l, 0 ≤ e.at') → (∀ k, k ≤ l.length → (cntN ((l.take k).foldl applyK s).F 4 truck n : Int) ≤ cap) → LvJ cap c0 rest l →
    ∃ c1 r1, lvR n truck s l ((0, c0) :: rest) = (0, c1) :: r1 ∧ 0 ≤ c1 ∧ (c1 = 0 → carriedB cap ((0, c1) :: r1))
  | [], s, c0, rest, _, _, _, hJ => ⟨c0, rest, rfl, hJ.pos, hJ.ok⟩
  | e :: l, s, c0, rest, hR, h0, hC, hJ => by
    have hR' : Rising l := hR.tail
    have hle : ∀ x ∈ l, e.at' ≤ x.at' := (List.pairwise_cons.1 hR).1
    have h0' : ∀ x ∈ l, 0 ≤ x.at' := fun x hx => h0 x (by simp [hx])
    have hC' : ∀ k, k ≤ l.length → (cntN ((l.take k).foldl applyK (applyK s e)).F 4 truck n : Int) ≤ cap := fun k hk => by
      have := hC (k + 1) (by simp; omega)
      simpa using this
    have hc1 : (cntN (applyK s e).F 4 truck n : Int) ≤ cap := by simpa using hC' 0 (by omega)
    unfold lvR
    by_cases hn : nextB l e.at' = true
    · rw [if_pos hn]
      exact lv_ok hcap l _ c0 rest hR' h0' hC' ⟨fun x hx => hJ.first x (by simp [hx]), fun x hx => hJ.late x (by simp [hx]), hJ.ok, hJ.pos⟩
    · rw [if_neg hn]
      obtain ⟨c1, r1, e1, e2, e3, e4⟩ := add_cons (c0 := c0) (a := e.at') (c := (cntN (applyK s e).F 4 truck n : Int)) (hJ.first e (by simp))
      rw [e1]
      have hlt : ∀ x ∈ l, e.at' < x.at' := fun x hx => by
        have h1 := hle x hx
        cases l with
        | nil => simp at hx
        | cons y l' =>
          have h2 : y.at' ≠ e.at' := by
            intro h; apply hn; simp [nextB, h]
          have h3 := hle y (by simp)
          have h4 : y.at' ≤ x.at' := by
            rcases List.mem_cons.1 hx with rfl | hx
            · exact Int.le_refl _
            · exact (List.pairwise_cons.1 hR').1 x hx
          omega
      have he0 := h0 e (by simp)
      refine lv_ok hcap l _ c1 r1 hR' h0' hC' ⟨fun x hx hx0 => ?_, fun x hx y hy => ?_, fun hz => ?_, ?_⟩
      · have := hlt x hx; omega
      · have h5 := hlt x hx
        by_cases ha : e.at' = 0
        · rw [(e3 ha).2] at hy; simp at hy
        · rcases (e4 ha).2 with ⟨h6, _⟩ | h6
          · rw [h6] at hy
            rcases List.mem_append.1 hy with hy | hy
            · have := hJ.late e (by simp) y hy; omega
            · obtain rfl := List.mem_singleton.1 hy
              exact h5
          · rw [h6] at hy
            have := hJ.late e (by simp) y hy; omega
      · by_cases ha : e.at' = 0
        · rw [(e3 ha).2, hz]
          exact carried_one hcap
        · obtain ⟨h6, h7⟩ := e4 ha
          rw [h6] at hz
          have hk := hJ.ok hz
          rcases h7 with ⟨h7, h8⟩ | h7
          · rw [h7, h6]
            have el : ((0, c0) :: rest).length - 1 = rest.length := by simp
            refine carried_snoc (l := (0, c0) :: rest) hk (by simp) hc1 ?_ (by rw [el]; exact h8)
            rw [el]
            have hm : ((0, c0) :: rest).getD rest.length (0, 0) ∈ (0, c0) :: rest := by
              rw [List.getD, List.getElem?_eq_getElem (by simp)]
              exact List.getElem_mem _
            rcases List.mem_cons.1 hm with hm | hm
            · rw [hm]; show 0 < e.at'; omega
            · exact hJ.late e (by simp) _ hm
          · rw [h7, h6]; exact hk
      · by_cases ha : e.at' = 0
        · rw [(e3 ha).1]; omega
        · rw [(e4 ha).1]; exact hJ.pos
/-- The count up to a moment is the difference of what was loaded and what has left. -/
theorem lv_count {n : Nat} {truck t : Int} (ht : 0 ≤ t) : ∀ (l : List Ev) (s : CSt) (c0 : Int) (rest : List (Int × Int)) (a b : Int), Rising l → (∀ e ∈ l, 0 ≤ e.at') → (∀ e ∈ l, e.at' = 0 → rest = []) → (∀ x ∈ rest, x.1 ≤ t) → (∀ e ∈ l, ∀ x ∈ rest, x.1 < e.at') →
    ((((0, c0) :: rest).getD rest.length (0, 0)).2 = (cntN s.F 4 truck n : Int) ∨ ∃ e l', l = e :: l' ∧ e.at' ≤ t) →
    a - b = (cntN s.F 4 truck n : Int) → countT t (lvR n truck s l ((0, c0) :: rest)) = (mvR n truck t s l a b).1 - (mvR n truck t s l a b).2
  | [], s, c0, rest, a, b, _, _, _, hL, _, hH, hab => by
    rcases hH with hH | ⟨e, l', h, _⟩
    · unfold lvR mvR countT
      rw [countT_all _ _ (fun x hx => by
        rcases List.mem_cons.1 hx with rfl | hx
        · exact ht
        · exact hL x hx) (by simp)]
      have el : ((0, c0) :: rest).length - 1 = rest.length := by simp
      rw [el, hH]; exact hab.symm
    · cases h
  | e :: l, s, c0, rest, a, b, hR, h0, hF, hL, hK, hH, hab => by
    have hR' : Rising l := hR.tail
    have hle : ∀ x ∈ l, e.at' ≤ x.at' := (List.pairwise_cons.1 hR).1
    by_cases het : t < e.at'
    · have hH' : (((0, c0) :: rest).getD rest.length (0, 0)).2 = (cntN s.F 4 truck n : Int) := by
        rcases hH with h | ⟨e', l', h, h'⟩
        · exact h
        · cases h; omega
      rw [countT_later ht (e :: l) _ _ (fun x hx => by
        rcases List.mem_cons.1 hx with rfl | hx
        · exact het
        · have := hle x hx; omega)]
      unfold mvR countT
      rw [if_pos het, countT_all _ _ (fun x hx => by
        rcases List.mem_cons.1 hx with rfl | hx
        · exact ht
        · exact hL x hx) (by simp)]
      have el : ((0, c0) :: rest).length - 1 = rest.length := by simp
      rw [el, hH']; exact hab.symm
    · unfold lvR mvR
      rw [if_neg het]
      by_cases hn : nextB l e.at' = true
      · rw [if_pos hn]
        refine lv_count ht l _ c0 rest _ _ hR' (fun x hx => h0 x (by simp [hx])) (fun x hx => hF x (by simp [hx])) hL (fun x hx => hK x (by simp [hx])) (.inr ?_) (by omega)
        cases l with
        | nil => simp [nextB] at hn
        | cons y l' =>
          have : y.at' = e.at' := by simpa [nextB] using hn
          exact ⟨y, l', rfl, by omega⟩
      · rw [if_neg hn]
        obtain ⟨c1, r1, e1, e2, e3, e4⟩ := add_cons (c0 := c0) (a := e.at') (c := (cntN (applyK s e).F 4 truck n : Int)) (hF e (by simp))
        rw [e1]
        have hlt : ∀ x ∈ l, e.at' < x.at' := fun x hx => by
          have h1 := hle x hx
          cases l with
          | nil => simp at hx
          | cons y l' =>
            have h2 : y.at' ≠ e.at' := by
              intro h; apply hn; simp [nextB, h]
            have h3 := hle y (by simp)
            have h4 : y.at' ≤ x.at' := by
              rcases List.mem_cons.1 hx with rfl | hx
              · exact Int.le_refl _
              · exact (List.pairwise_cons.1 hR').1 x hx
            omega
        have hr1 : ∀ y ∈ r1, y.1 ≤ e.at' := fun y hy => by
          by_cases ha : e.at' = 0
          · rw [(e3 ha).2] at hy; simp at hy
          · rcases (e4 ha).2 with ⟨h6, _⟩ | h6
            · rw [h6] at hy
              rcases List.mem_append.1 hy with hy | hy
              · have := hK e (by simp) y hy; omega
              · obtain rfl := List.mem_singleton.1 hy
                exact Int.le_refl _
            · rw [h6] at hy
              have := hK e (by simp) y hy; omega
        refine lv_count ht l _ c1 r1 _ _ hR' (fun x hx => h0 x (by simp [hx])) (fun x hx hx0 => ?_) (fun y hy => by have := hr1 y hy; omega) (fun x hx y hy => by have := hr1 y hy; have := hlt x hx; omega) (.inl e2) (by omega)
        have h1 := hlt x hx
        have h2 := h0 e (by simp)
        omega
end Go.Proofs.YtlnfhlmgnppcbaaGreat
namespace Go.Proofs.YtlnfhlmgnppcbaaGreat
open Go.RowKit Go.ChangeShapes Go.WideShapes Go.Deep Go.Maps
set_option linter.unusedVariables false
set_option linter.unusedSimpArgs false
end Go.Proofs.YtlnfhlmgnppcbaaGreat
namespace Go.Proofs.YtlnfhlmgnppcbaaGreat
open Go.RowKit Go.ChangeShapes Go.WideShapes Go.Deep Go.Maps
set_option linter.unusedVariables false
set_option linter.unusedSimpArgs false
end Go.Proofs.YtlnfhlmgnppcbaaGreat
namespace Go.Proofs.YtlnfhlmgnppcbaaGreat
open Go.RowKit Go.ChangeShapes Go.WideShapes Go.Deep Go.Maps
set_option linter.unusedVariables false
set_option linter.unusedSimpArgs false
end Go.Proofs.YtlnfhlmgnppcbaaGreat
namespace Go.Proofs.YtlnfhlmgnppcbaaGreat
open Go.RowKit Go.ChangeShapes Go.WideShapes Go.Deep Go.Maps
set_option linter.unusedVariables false
set_option linter.unusedSimpArgs false
end Go.Proofs.YtlnfhlmgnppcbaaGreat
namespace Go.Proofs.YtlnfhlmgnppcbaaGreat
open Go.RowKit Go.ChangeShapes Go.WideShapes Go.Deep Go.Maps
set_option linter.unusedVariables false
set_option linter.unusedSimpArgs false
end Go.Proofs.YtlnfhlmgnppcbaaGreat
namespace Go.Proofs.YtlnfhlmgnppcbaaGreat
open Go.RowKit Go.ChangeShapes Go.WideShapes Go.Deep
set_option linter.unusedVariables false
set_option linter.unusedSimpArgs false
theorem lvf_len (F : Nat → Int × Int) (i : Nat) : (lvf F i).length = 2 := rfl
end Go.Proofs.YtlnfhlmgnppcbaaGreat
namespace Go.Proofs.YtlnfhlmgnppcbaaGreat
set_option linter.unusedVariables false
set_option linter.unusedSimpArgs false
theorem lv_cnt0 (truck : Int) : ∀ n, cntN startS.F 4 truck n = 0
  | 0 => rfl
  | n + 1 => by
    unfold cntN
    rw [lv_cnt0 truck n]
    simp [startS]
theorem lv_diff0 {n : Nat} {truck t : Int} : ∀ (l : List Ev) (s : CSt) (a b : Int), a - b = (cntN s.F 4 truck n : Int) → 0 ≤ (mvR n truck t s l a b).1 - (mvR n truck t s l a b).2
  | [], s, a, b, h => by unfold mvR; dsimp only; omega
  | e :: l, s, a, b, h => by
    unfold mvR
    split
    · dsimp only; omega
    · exact lv_diff0 l _ _ _ (by omega)
theorem lv_low (truck t : Int) : ∀ (l : List Ev) (on : Nat → Bool) (a b : Int), a ≤ (mvP truck t on l a b).1 ∧ b ≤ (mvP truck t on l a b).2
  | [], _, _, _ => ⟨Int.le_refl _, Int.le_refl _⟩
  | e :: l, on, a, b => by
    have q1 : ∀ x, 0 ≤ b2i x := fun x => by unfold b2i; split <;> omega
    unfold mvP
    split
    · exact ⟨Int.le_refl _, Int.le_refl _⟩
    · have := lv_low truck t l (upd on e.bike.toNat (loadB truck e)) (a + b2i (loadB truck e)) (b + b2i (on e.bike.toNat))
      have := q1 (loadB truck e)
      have := q1 (on e.bike.toNat)
      exact ⟨by omega, by omega⟩
theorem lt_at {a b : Ev} (h : ltE a b = true) : a.at' ≤ b.at' := by
  have h1 := of_decide_eq_true (show decide (cmpE a b < 0) = true from h)
  unfold cmpE keyE cmpL at h1
  split at h1
  · omega
  · split at h1
    · omega
    · omega
theorem acc_rising (f : Fl) (l : List Ev) : Rising (runE f l).2 := ((isSet_setE l).1.sublist (run_sub f l)).imp (fun h => lt_at h)
theorem path_chk {f : Fl} : ∀ {l : List Ev} {s : CSt}, Path f s l → ∀ e ∈ l, checkE f e = 0
  | e :: l, s, h, x, hx => by
    rcases List.mem_cons.1 hx with rfl | hx
    · exact h.1
    · exact path_chk h.2.2.2 x hx
theorem at_in {f : Fl} {e : Ev} (h : checkE f e = 0) : 0 ≤ e.at' ∧ e.at' ≤ 4294943999 := by
  unfold checkE at h
  split at h
  · rename_i h1; exact absurd h h1
  split at h
  · simp at h
  rename_i hb
  have hb : (inB e.dev 0 (f.devs - 1) && (inB e.seq 1 1048576 && (decide (0 ≤ e.at') && (decide (e.at' ≤ e.late) && decide (e.late ≤ 4294943999))))) = true := by
    cases hh : (inB e.dev 0 (f.devs - 1) && (inB e.seq 1 1048576 && (decide (0 ≤ e.at') && (decide (e.at' ≤ e.late) && decide (e.late ≤ 4294943999)))))
    · exact absurd hh hb
    · rfl
  simp only [Bool.and_eq_true, decide_eq_true_iff] at hb
  omega
theorem acc_at (f : Fl) (l : List Ev) : ∀ e ∈ (runE f l).2, 0 ≤ e.at' := fun e he => (at_in (path_chk (run_path f l).1 e he)).1
/-- The bicycles on a truck are at most its capacity. -/
theorem path_cap {f : Fl} {truck : Int} : ∀ (l : List Ev) (s : CSt), Inv f.bikes.toNat s → Path f s l → (cntN s.F 4 truck f.bikes.toNat : Int) ≤ f.T truck.toNat → ∀ k, k ≤ l.length → (cntN ((l.take k).foldl applyK s).F 4 truck f.bikes.toNat : Int) ≤ f.T truck.toNat
  | _, s, _, _, hc, 0, _ => by simpa using hc
  | [], s, _, _, hc, k + 1, hk => by simp at hk
  | e :: l, s, hI, hP, hc, k + 1, hk => by
    obtain ⟨hch, hk10, hf, hP'⟩ := hP
    obtain ⟨b1, b2⟩ := bike_in hch
    have hb : e.bike.toNat < f.bikes.toNat := by omega
    obtain ⟨h1, h2⟩ := on_step truck hI hch hf hk10
    have hcnt := cntN_one (F := s.F) (F' := (applyK s e).F) (truck := truck) (b := e.bike.toNat) (n := f.bikes.toNat) (fun i hi hne => by rw [h1 i hi, if_neg hne])
    rw [if_pos hb, h1 _ hb, if_pos rfl] at hcnt
    have hc' : (cntN (applyK s e).F 4 truck f.bikes.toNat : Int) ≤ f.T truck.toNat := by
      have q0 : ∀ x, 0 ≤ b2i x := fun x => by unfold b2i; split <;> omega
      have q2 := q0 (onB truck (s.F e.bike.toNat))
      cases hl : loadB truck e
      · rw [hl] at hcnt
        have : b2i false = 0 := rfl
        omega
      · have hkp : e.kind = 7 ∧ e.place = truck := by simpa [loadB] using hl
        unfold faultK at hf
        rw [if_neg (by omega), if_neg (by omega), if_neg (by omega), if_neg (by omega), if_neg (by omega), if_neg (by omega), if_pos hkp.1] at hf
        split at hf
        · simp at hf
        split at hf
        · simp at hf
        rename_i hlt
        rw [hkp.2] at hlt
        rw [hl] at hcnt
        have : b2i true = 1 := rfl
        omega
    rw [List.take_succ_cons, List.foldl_cons]
    exact path_cap l (applyK s e) (hI.step hch hf) hP' hc' k (by simpa using hk)
theorem allB_all {F : Nat → Int} {most : Int} : ∀ {n : Nat}, allB F most n = true → ∀ i, i < n → 1 ≤ F i ∧ F i ≤ most
  | 0, _, i, hi => absurd hi (by omega)
  | n + 1, h, i, hi => by
    unfold allB at h
    simp only [Bool.and_eq_true] at h
    rcases Nat.lt_or_ge i n with hl | hl
    · exact allB_all (n := n) h.1 i hl
    · obtain rfl : i = n := by omega
      exact inB_iff.1 h.2
theorem loads_law {f : Fl} {l : List Ev} {truck t : Int} (hf : fleetE f = 0) (h0 : 0 ≤ truck) (h1 : truck < f.nt) (ht : 0 ≤ t) :
    countT t (loadsL f l truck) = (mvP truck t (fun _ => false) (runE f l).2 0 0).1 - (mvP truck t (fun _ => false) (runE f l).2 0 0).2 ∧ 0 ≤ (mvP truck t (fun _ => false) (runE f l).2 0 0).2 ∧
    0 ≤ (mvP truck t (fun _ => false) (runE f l).2 0 0).1 - (mvP truck t (fun _ => false) (runE f l).2 0 0).2 ∧
    ∃ c1 r1, loadsL f l truck = (0, c1) :: r1 ∧ 0 ≤ c1 ∧ (c1 = 0 → carriedB (f.T truck.toNat) (loadsL f l truck)) := by
  have hT := allB_all (fleetE_zero hf).2.2.2.2.2.2 truck.toNat (by omega)
  refine ⟨?_, (lv_low truck t _ _ 0 0).2, ?_, ?_⟩
  · rw [mvP_mvR]
    exact lv_count ht _ startS 0 [] 0 0 (acc_rising f l) (acc_at f l) (fun _ _ _ => rfl) (fun x hx => by simp at hx) (fun _ _ x hx => by simp at hx) (.inl (by rw [lv_cnt0]; rfl)) (by rw [lv_cnt0]; rfl)
  · rw [mvP_mvR]
    exact lv_diff0 _ _ _ _ (by rw [lv_cnt0]; rfl)
  · obtain ⟨c1, r1, e1, e2, e3⟩ := lv_ok (n := f.bikes.toNat) (truck := truck) (cap := f.T truck.toNat) (by omega) (runE f l).2 startS 0 [] (acc_rising f l) (acc_at f l) (path_cap _ startS (Inv.start _) (run_path f l).1 (by rw [lv_cnt0]; show (0 : Int) ≤ _; omega))
      ⟨fun _ _ _ => rfl, fun _ _ x hx => by simp at hx, fun _ => carried_one (by omega), by omega⟩
    have e1' : loadsL f l truck = (0, c1) :: r1 := e1
    exact ⟨c1, r1, e1', e2, fun hz => by rw [e1']; exact e3 hz⟩
end Go.Proofs.YtlnfhlmgnppcbaaGreat
