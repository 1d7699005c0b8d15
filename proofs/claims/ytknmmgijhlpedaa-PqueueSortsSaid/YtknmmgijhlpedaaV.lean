/- The order in which the values of a queue leave: plain lists. -/
import Derived.Test.YtknmmgijhlpedaaR6
namespace Go.Proofs.Ytknmmgijhlpedaa
namespace QI
theorem leave_perm (lt : T → T → Bool) : ∀ (n : Nat) (l : List T), l.length = n → (leave lt l).Perm l
  | 0, l, h => by obtain rfl := List.length_eq_zero_iff.1 h; exact List.Perm.refl _
  | n + 1, l, h => by
    have hne : l ≠ [] := by intro e; subst e; simp at h
    have hlt := minIx_lt (lt := lt) hne
    rw [leave_cons hne]
    have ih := leave_perm lt n (l.eraseIdx (minIx lt l)) (by rw [List.length_eraseIdx_of_lt hlt, h]; rfl)
    have e : l = l.take (minIx lt l) ++ l[minIx lt l] :: l.drop (minIx lt l + 1) := by rw [List.getElem_cons_drop, List.take_append_drop]
    have e2 : l.eraseIdx (minIx lt l) = l.take (minIx lt l) ++ l.drop (minIx lt l + 1) := List.eraseIdx_eq_take_drop_succ ..
    have e3 : l.getD (minIx lt l) default = l[minIx lt l] := by simp [List.getD, hlt]
    have h1 : l.Perm (l[minIx lt l] :: l.eraseIdx (minIx lt l)) := by rw [e2]; exact (List.Perm.of_eq e).trans List.perm_middle
    rw [e3]
    exact (ih.cons _).trans h1.symm
/-- a leaves ahead of b. -/
def Ahead (lt : T → T → Bool) (a b : T) : Prop := lt a b = true ∨ (lt a b = false ∧ lt b a = false ∧ a.tag < b.tag)
theorem leave_sorted {lt : T → T → Bool} (o : Ord lt) : ∀ (n : Nat) (l : List T), l.length = n → l.Pairwise (fun a b => a.tag < b.tag) → (leave lt l).Pairwise (Ahead lt)
  | 0, l, h, _ => by obtain rfl := List.length_eq_zero_iff.1 h; exact List.Pairwise.nil
  | n + 1, l, h, hp => by
    have hne : l ≠ [] := by intro e; subst e; simp at h
    have hlt := minIx_lt (lt := lt) hne
    rw [leave_cons hne]
    have hl2 : (l.eraseIdx (minIx lt l)).length = n := by rw [List.length_eraseIdx_of_lt hlt, h]; rfl
    refine List.pairwise_cons.2 ⟨fun y hy => ?_, leave_sorted o n _ hl2 (hp.sublist (List.eraseIdx_sublist l _))⟩
    have hy2 := (leave_perm lt n _ hl2).mem_iff.1 hy
    rw [List.mem_eraseIdx_iff_getElem] at hy2
    obtain ⟨j, hj, hjne, rfl⟩ := hy2
    have e3 : l.getD (minIx lt l) default = l[minIx lt l] := by simp [List.getD, hlt]
    have e4 : l.getD j default = l[j] := by simp [List.getD, hj]
    have h1 := minTo_least o (fun i => l.getD i default) (l.length - 1) j (by omega)
    change lt (l.getD j default) (l.getD (minIx lt l) default) = false at h1
    rw [e4] at h1
    by_cases hji : j < minIx lt l
    · have h2 := minTo_first o (fun i => l.getD i default) (l.length - 1) j hji
      change lt (l.getD (minIx lt l) default) (l.getD j default) = true at h2
      rw [e4] at h2
      exact .inl h2
    · cases hb : lt (l.getD (minIx lt l) default) l[j]
      · refine .inr ⟨hb, h1, ?_⟩
        have := List.pairwise_iff_getElem.1 hp (minIx lt l) j hlt hj (by omega)
        rw [e3]; exact this
      · exact .inl hb
theorem its_get (K : Nat → Int) (first : Int) {n i : Nat} (h : i < n) : (its K first n)[i]? = some ⟨K i, first + i⟩ := by simp [its, h]
theorem its_mem {K : Nat → Int} {first : Int} {n : Nat} {x : T} (h : x ∈ its K first n) : ∃ i, i < n ∧ x = ⟨K i, first + i⟩ := by
  simp only [its, List.mem_map, List.mem_range] at h
  obtain ⟨i, hi, rfl⟩ := h
  exact ⟨i, hi, rfl⟩
theorem its_asc (K : Nat → Int) (first : Int) (n : Nat) : (its K first n).Pairwise (fun a b => a.tag < b.tag) := by
  refine List.pairwise_iff_getElem.2 fun i j hi hj hij => ?_
  rw [its_len] at hi hj
  have h1 := its_get K first hi
  have h2 := its_get K first hj
  rw [List.getElem?_eq_getElem (by rw [its_len]; exact hi)] at h1
  rw [List.getElem?_eq_getElem (by rw [its_len]; exact hj)] at h2
  rw [Option.some.inj h1, Option.some.inj h2]
  dsimp only
  omega
/-- What leaves in place k is an item; none leaves twice; each leaves ahead of the next. -/
theorem leave_its (K : Nat → Int) (n : Nat) : ∃ P : Nat → Nat, ∀ k, k < n → P k < n ∧ (leave (lt false) (its K 0 n)).getD k default = ⟨K (P k), P k⟩ ∧ (∀ j, j < k → P j ≠ P k) ∧
    (0 < k → K (P (k - 1)) < K (P k) ∨ (K (P (k - 1)) = K (P k) ∧ P (k - 1) < P k)) := by
  have hl := leave_len (lt false) n (its K 0 n) (its_len K 0 n)
  have hp := leave_perm (lt false) n (its K 0 n) (its_len K 0 n)
  have hs := leave_sorted (lt_ord false) n (its K 0 n) (its_len K 0 n) (its_asc K 0 n)
  generalize leave (lt false) (its K 0 n) = L at *
  have key : ∀ k, ∃ p, k < n → p < n ∧ L.getD k default = ⟨K p, p⟩ := fun k => by
    by_cases hk : k < n
    · have hm : L[k]'(by omega) ∈ its K 0 n := hp.mem_iff.1 (List.getElem_mem _)
      obtain ⟨p, hp1, hp2⟩ := its_mem hm
      exact ⟨p, fun _ => ⟨hp1, by simp [List.getD, hl, hk]; rw [hp2]; simp⟩⟩
    · exact ⟨0, fun h => absurd h hk⟩
  obtain ⟨P, hP⟩ := Classical.axiomOfChoice key
  have ah : ∀ i j, i < j → j < n → Ahead (lt false) ⟨K (P i), P i⟩ ⟨K (P j), P j⟩ := fun i j hij hj => by
    have := List.pairwise_iff_getElem.1 hs i j (by omega) (by omega) hij
    have e1 := (hP i (by omega)).2
    have e2 := (hP j hj).2
    rw [show L.getD i default = L[i]'(by omega) by simp [List.getD, show i < L.length by omega]] at e1
    rw [show L.getD j default = L[j]'(by omega) by simp [List.getD, show j < L.length by omega]] at e2
    rw [e1, e2] at this
    exact this
  refine ⟨P, fun k hk => ⟨(hP k hk).1, (hP k hk).2, fun j hj e => ?_, fun h0 => ?_⟩⟩
  · have := ah j k hj hk
    rw [e] at this
    rcases this with h | ⟨_, _, h⟩
    · simp [lt] at h
    · simp at h
  · have := ah (k - 1) k (by omega) hk
    rcases this with h | ⟨h1, h2, h3⟩
    · left; simpa [lt] using h
    · right
      simp [lt] at h1 h2 h3
      omega
end QI
end Go.Proofs.Ytknmmgijhlpedaa
