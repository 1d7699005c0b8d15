/- General theorems of this seat, in one text. -/
import Derived.Test.YtlnfhlmgnppcbaaGreatZH5
import Derived.Test.YtlnfhlmgnppcbaaGreatZR8X
import Derived.Test.YtlnfhlmgnppcbaaGreatZBB
import Derived.Test.YtlnfhlmgnppcbaaGreatZBA
import Derived.Deep.LoopGhost
import Derived.BigRegion
namespace Go.Proofs.YtlnfhlmgnppcbaaGreat
namespace Rd
set_option linter.unusedVariables false
set_option linter.unusedSimpArgs false
set_option maxRecDepth 8000
structure Gr where
  n : Nat
  m : Nat
  a : Nat → Int
  b : Nat → Int
  c : Nat → Int
structure Gr.Ok (g : Gr) : Prop where
  ha : ∀ i, i < g.m → 0 ≤ g.a i ∧ g.a i < g.n
  hb : ∀ i, i < g.m → 0 ≤ g.b i ∧ g.b i < g.n
  hc : ∀ i, i < g.m → 1 ≤ g.c i ∧ g.c i ≤ 1000
inductive Rc (g : Gr) (src : Int) : Int → Int → Int → Prop
  | nil : Rc g src src 0 0
  | snoc {s k : Int} (i : Nat) (h : Rc g src (g.a i) s k) (hi : i < g.m) : Rc g src (g.b i) (s + g.c i) (k + 1)
def leL (s k s' k' : Int) : Prop := s < s' ∨ (s = s' ∧ k ≤ k')
theorem leL.antisymm {s k s' k' : Int} (h : leL s k s' k') (h2 : leL s' k' s k) : s = s' ∧ k = k' := by unfold leL at *; omega
theorem leL.trans {s k s' k' s2 k2 : Int} (h : leL s k s' k') (h2 : leL s' k' s2 k2) : leL s k s2 k2 := by unfold leL at *; omega
theorem leL.refl (s k : Int) : leL s k s k := .inr ⟨rfl, Int.le_refl _⟩
variable {g : Gr} {src : Int}
theorem Rc.nonneg (o : g.Ok) {v s k : Int} (h : Rc g src v s k) : 0 ≤ k ∧ k ≤ s ∧ s ≤ 1000 * k := by
  induction h with
  | nil => omega
  | snoc i h hi ih => have := o.hc i hi; omega
theorem Rc.node (o : g.Ok) (hs : 0 ≤ src ∧ src < g.n) {v s k : Int} (h : Rc g src v s k) : 0 ≤ v ∧ v < g.n := by
  cases h with
  | nil => exact hs
  | snoc i h hi => exact o.hb i hi
def Best (g : Gr) (src v s k : Int) : Prop := Rc g src v s k ∧ ∀ s' k', Rc g src v s' k' → leL s k s' k'
theorem Best.unique {v s k s' k' : Int} (h : Best g src v s k) (h' : Best g src v s' k') : s = s' ∧ k = k' := (h.2 _ _ h'.1).antisymm (h'.2 _ _ h.1)
theorem Best.home (o : g.Ok) : Best g src src 0 0 := ⟨.nil, fun s' k' h => by have := h.nonneg o; unfold leL; omega⟩
theorem Best.before {v s k : Int} (h : Best g src v s k) : (v = src ∧ s = 0 ∧ k = 0) ∨ ∃ i, i < g.m ∧ g.b i = v ∧ Best g src (g.a i) (s - g.c i) (k - 1) := by
  obtain ⟨h1, h2⟩ := h
  cases h1 with
  | nil => exact .inl ⟨rfl, rfl, rfl⟩
  | @snoc s0 k0 i h hi =>
    refine .inr ⟨i, hi, rfl, ?_, fun s' k' h' => ?_⟩
    · rw [show s0 + g.c i - g.c i = s0 by omega, show k0 + 1 - 1 = k0 by omega]; exact h
    · have := h2 _ _ (Rc.snoc i h' hi)
      unfold leL at *; omega
theorem exists_min (P : Nat → Prop) : ∀ n, P n → ∃ m, P m ∧ ∀ j, P j → m ≤ j := by
  intro n
  induction n using Nat.strongRecOn with
  | _ n ih =>
    intro h
    by_cases h2 : ∃ m, m < n ∧ P m
    · obtain ⟨m, hm, hp⟩ := h2; exact ih m hm hp
    · exact ⟨n, h, fun j hj => by
        by_cases hjn : j < n
        · exact absurd ⟨j, hjn, hj⟩ h2
        · omega⟩
theorem Rc.best (o : g.Ok) {v s k : Int} (h : Rc g src v s k) : ∃ s' k', Best g src v s' k' := by
  have hn := h.nonneg o
  obtain ⟨m, ⟨k1, h1⟩, h2⟩ := exists_min (fun j => ∃ k, Rc g src v (j : Int) k) s.toNat ⟨k, by rw [Int.toNat_of_nonneg (by omega)]; exact h⟩
  have hn1 := h1.nonneg o
  obtain ⟨q, h3, h4⟩ := exists_min (fun j => Rc g src v (m : Int) (j : Int)) k1.toNat (by rw [Int.toNat_of_nonneg (by omega)]; exact h1)
  refine ⟨m, q, h3, fun s' k' h' => ?_⟩
  have hn' := h'.nonneg o
  have a1 := h2 s'.toNat ⟨k', by rw [Int.toNat_of_nonneg (by omega)]; exact h'⟩
  by_cases e : s' = (m : Int)
  · have a2 := h4 k'.toNat (by rw [Int.toNat_of_nonneg (by omega), ← e]; exact h')
    unfold leL; omega
  · unfold leL; omega
theorem nodup_le : ∀ (n : Nat) (L : List Nat), L.Nodup → (∀ x ∈ L, x < n) → L.length ≤ n
  | 0, L, _, h => by
    cases L with
    | nil => exact Nat.le_refl _
    | cons x l => exact absurd (h x (List.mem_cons_self ..)) (by omega)
  | n + 1, L, hn, h => by
    have h1 := nodup_le n (L.erase n) (hn.erase n) (fun x hx => by
      have h2 := (hn.mem_erase_iff).1 hx
      have := h x h2.2
      have := h2.1
      omega)
    by_cases hm : n ∈ L
    · rw [List.length_erase_of_mem hm] at h1; omega
    · rw [List.erase_of_not_mem hm] at h1; omega
theorem Best.line (o : g.Ok) (hs : 0 ≤ src ∧ src < g.n) : ∀ (q : Nat) {v s k : Int}, Best g src v s k → k = (q : Int) →
    ∃ L : List Nat, L.Nodup ∧ L.length = q + 1 ∧ ∀ x ∈ L, x < g.n ∧ ∃ s' k', Best g src (x : Int) s' k' ∧ s' ≤ s
  | 0, v, s, k, h, hq => by
    have hv := h.1.node o hs
    refine ⟨[v.toNat], by simp, rfl, fun x hx => ?_⟩
    simp at hx
    subst hx
    refine ⟨by omega, s, k, ?_, Int.le_refl _⟩
    rw [Int.toNat_of_nonneg hv.1]; exact h
  | q + 1, v, s, k, h, hq => by
    have hv := h.1.node o hs
    rcases h.before with ⟨_, _, h0⟩ | ⟨i, hi, hb, h'⟩
    · omega
    · obtain ⟨L, h1, h2, h3⟩ := Best.line o hs q h' (by omega)
      have hc := o.hc i hi
      refine ⟨v.toNat :: L, List.nodup_cons.2 ⟨fun hm => ?_, h1⟩, by simp [h2], fun x hx => ?_⟩
      · obtain ⟨_, s', k', h4, h5⟩ := h3 _ hm
        rw [Int.toNat_of_nonneg hv.1] at h4
        have := (h.unique h4).1
        omega
      · rcases List.mem_cons.1 hx with rfl | hx
        · refine ⟨by omega, s, k, ?_, Int.le_refl _⟩
          rw [Int.toNat_of_nonneg hv.1]; exact h
        · obtain ⟨h4, s', k', h5, h6⟩ := h3 x hx
          exact ⟨h4, s', k', h5, by omega⟩
theorem Best.few (o : g.Ok) (hs : 0 ≤ src ∧ src < g.n) {v s k : Int} (h : Best g src v s k) : k < g.n := by
  have h0 := h.1.nonneg o
  obtain ⟨L, h1, h2, h3⟩ := Best.line o hs k.toNat h (by rw [Int.toNat_of_nonneg h0.1])
  have := nodup_le g.n L h1 (fun x hx => (h3 x hx).1)
  omega
open Classical in
noncomputable def sec (g : Gr) (src v : Int) : Int := if h : ∃ s k, Best g src v s k then h.choose else -1
open Classical in
noncomputable def edg (g : Gr) (src v : Int) : Int := if h : ∃ s k, Best g src v s k then h.choose_spec.choose else -1
def Can (g : Gr) (src v : Int) : Prop := ∃ s k, Best g src v s k
theorem Best.sec {v s k : Int} (h : Best g src v s k) : sec g src v = s ∧ edg g src v = k := by
  have h' : ∃ s k, Best g src v s k := ⟨s, k, h⟩
  unfold Rd.sec edg
  rw [dif_pos h', dif_pos h']
  exact (h'.choose_spec.choose_spec).unique h
theorem Can.best {v : Int} (h : Can g src v) : Best g src v (Rd.sec g src v) (edg g src v) := by
  obtain ⟨s, k, h⟩ := h
  rw [h.sec.1, h.sec.2]; exact h
theorem not_can {v : Int} (h : ¬ Can g src v) : Rd.sec g src v = -1 ∧ edg g src v = -1 := by
  have h' : ¬ ∃ s k, Best g src v s k := h
  unfold Rd.sec edg
  rw [dif_neg h', dif_neg h']; exact ⟨rfl, rfl⟩
theorem can_iff (o : g.Ok) {v : Int} : Can g src v ↔ ∃ s k, Rc g src v s k := ⟨fun ⟨s, k, h⟩ => ⟨s, k, h.1⟩, fun ⟨s, k, h⟩ => h.best o⟩
end Rd
end Go.Proofs.YtlnfhlmgnppcbaaGreat
namespace Go.Proofs.YtlnfhlmgnppcbaaGreat
namespace Rd
open QT (T)
set_option linter.unusedVariables false
set_option linter.unusedSimpArgs false
set_option maxRecDepth 8000
variable {g : Gr} {src : Int}
theorem lt_no {x y : T} (h : QT.lt () y x = false) : leL x.secs x.edges y.secs y.edges := by
  simp [QT.lt, QT.ltL] at h; unfold leL; omega
theorem minIx_least {l : List T} {y : T} (hy : y ∈ l) : leL (l.getD (minIx (QT.lt ()) l) default).secs (l.getD (minIx (QT.lt ()) l) default).edges y.secs y.edges := by
  obtain ⟨j, hj, rfl⟩ := List.getElem_of_mem hy
  have h := minTo_least (QT.lt_ord ()) (fun i => l.getD i default) (l.length - 1) j (by omega)
  have e : l.getD j default = l[j] := by simp [List.getD, hj]
  rw [e] at h
  exact lt_no h
theorem mem_erase {l : List T} (h : l ≠ []) {y : T} (hy : y ∈ l) : y = l.getD (minIx (QT.lt ()) l) default ∨ y ∈ l.eraseIdx (minIx (QT.lt ()) l) := by
  have hi := minIx_lt (lt := QT.lt ()) h
  obtain ⟨j, hj, rfl⟩ := List.getElem_of_mem hy
  by_cases e : j = minIx (QT.lt ()) l
  · left; rw [← e]; simp [List.getD, hj]
  · right; exact List.mem_eraseIdx_iff_getElem.2 ⟨j, hj, e, rfl⟩
theorem first_mem {l : List T} (h : l ≠ []) : l.getD (minIx (QT.lt ()) l) default ∈ l := by
  have hi := minIx_lt (lt := QT.lt ()) h
  have e : l.getD (minIx (QT.lt ()) l) default = l[minIx (QT.lt ()) l] := by simp [List.getD, hi]
  rw [e]; exact List.getElem_mem hi
structure Dij (g : Gr) (src : Int) (ex : Nat → Prop) (fd : Int → Bool) (bs be : Int → Int) (l : List T) : Prop where
  hf : ∀ v, fd v = true → Best g src v (bs v) (be v)
  hq : ∀ x ∈ l, Rc g src x.node x.secs x.edges
  hx : ∀ i, i < g.m → ¬ ex i → fd (g.a i) = true → fd (g.b i) = true ∨ (⟨g.b i, bs (g.a i) + g.c i, be (g.a i) + 1⟩ : T) ∈ l
  hs : fd src = true ∨ (⟨src, 0, 0⟩ : T) ∈ l
def noEx : Nat → Prop := fun _ => False
theorem Dij.start (g : Gr) (src : Int) (bs be : Int → Int) : Dij g src noEx (fun _ => false) bs be [⟨src, 0, 0⟩] :=
  ⟨fun v h => by simp at h, fun x hx => by simp at hx; subst hx; exact .nil, fun i _ _ h => by simp at h, .inr (by simp)⟩
theorem Dij.front (o : g.Ok) {fd : Int → Bool} {bs be : Int → Int} {l : List T} (h : Dij g src noEx fd bs be l) {v s k : Int} (hr : Rc g src v s k) : fd v = true ∨ ∃ y ∈ l, leL y.secs y.edges s k := by
  induction hr with
  | nil => rcases h.hs with h | h
           · exact .inl h
           · exact .inr ⟨_, h, leL.refl _ _⟩
  | @snoc s k i h' hi ih =>
    have hc := o.hc i hi
    rcases ih with ih | ⟨y, hy, hl⟩
    · rcases h.hx i hi (fun h => h) ih with h2 | h2
      · exact .inl h2
      · refine .inr ⟨_, h2, ?_⟩
        have := (h.hf _ ih).2 _ _ h'
        unfold leL at *; dsimp only; omega
    · exact .inr ⟨y, hy, by unfold leL at *; omega⟩
theorem Dij.best (o : g.Ok) {fd : Int → Bool} {bs be : Int → Int} {l : List T} (h : Dij g src noEx fd bs be l) {x : T} (hx : x ∈ l) (hmin : ∀ y ∈ l, leL x.secs x.edges y.secs y.edges) (hf : fd x.node = false) : Best g src x.node x.secs x.edges :=
  ⟨h.hq x hx, fun s' k' hr => by
    rcases h.front o hr with h1 | ⟨y, hy, h2⟩
    · rw [hf] at h1; cases h1
    · exact (hmin y hy).trans h2⟩
theorem Dij.skip {fd : Int → Bool} {bs be : Int → Int} {l : List T} (h : Dij g src noEx fd bs be l) (hl : l ≠ []) (hf : fd (l.getD (minIx (QT.lt ()) l) default).node = true) : Dij g src noEx fd bs be (l.eraseIdx (minIx (QT.lt ()) l)) := by
  refine ⟨h.hf, fun x hx => h.hq x (List.mem_of_mem_eraseIdx hx), fun i hi hn ha => ?_, ?_⟩
  · rcases h.hx i hi hn ha with h1 | h1
    · exact .inl h1
    · rcases mem_erase hl h1 with h2 | h2
      · left; rw [← h2] at hf; exact hf
      · exact .inr h2
  · rcases h.hs with h1 | h1
    · exact .inl h1
    · rcases mem_erase hl h1 with h2 | h2
      · left; rw [← h2] at hf; exact hf
      · exact .inr h2
def upz {α : Type} (f : Int → α) (v : Int) (x : α) : Int → α := fun u => if u = v then x else f u
theorem upz_same {α : Type} (f : Int → α) (v : Int) (x : α) : upz f v x v = x := by simp [upz]
theorem upz_ne {α : Type} {f : Int → α} {u v : Int} {x : α} (h : u ≠ v) : upz f v x u = f u := by simp [upz, h]
theorem Dij.settle (o : g.Ok) {fd : Int → Bool} {bs be : Int → Int} {l : List T} (h : Dij g src noEx fd bs be l) (hl : l ≠ []) {x : T} (ex : x = l.getD (minIx (QT.lt ()) l) default) (hf : fd x.node = false) :
    Dij g src (fun i => g.a i = x.node ∧ 0 ≤ i) (upz fd x.node true) (upz bs x.node x.secs) (upz be x.node x.edges) (l.eraseIdx (minIx (QT.lt ()) l)) := by
  have hb := h.best o (x := x) (by rw [ex]; exact first_mem hl) (fun y hy => by rw [ex]; exact minIx_least hy) hf
  refine ⟨fun v hv => ?_, fun y hy => h.hq y (List.mem_of_mem_eraseIdx hy), fun i hi hn ha => ?_, ?_⟩
  · by_cases e : v = x.node
    · subst e; rw [upz_same, upz_same]; exact hb
    · rw [upz_ne e] at hv; rw [upz_ne e, upz_ne e]; exact h.hf v hv
  · have e : g.a i ≠ x.node := fun e => hn ⟨e, Nat.zero_le _⟩
    rw [upz_ne e] at ha
    rw [upz_ne e, upz_ne e]
    by_cases e2 : g.b i = x.node
    · left; rw [e2, upz_same]
    · rw [upz_ne e2]
      rcases h.hx i hi (fun h => h) ha with h1 | h1
      · exact .inl h1
      · rcases mem_erase hl h1 with h2 | h2
        · rw [← ex] at h2; exact absurd (by rw [← h2]) e2
        · exact .inr h2
  · by_cases e2 : src = x.node
    · left; rw [e2, upz_same]
    · rw [upz_ne e2]
      rcases h.hs with h1 | h1
      · exact .inl h1
      · rcases mem_erase hl h1 with h2 | h2
        · rw [← ex] at h2; exact absurd (by rw [← h2]) e2
        · exact .inr h2
theorem Dij.push {fd : Int → Bool} {bs be : Int → Int} {l : List T} {v : Int} {j : Nat} (h : Dij g src (fun i => g.a i = v ∧ j ≤ i) fd bs be l) (hj : j < g.m) (ha : g.a j = v) (hv : fd v = true) :
    Dij g src (fun i => g.a i = v ∧ j + 1 ≤ i) fd bs be (l ++ [⟨g.b j, bs v + g.c j, be v + 1⟩]) := by
  refine ⟨h.hf, fun x hx => ?_, fun i hi hn hi2 => ?_, ?_⟩
  · rcases List.mem_append.1 hx with hx | hx
    · exact h.hq x hx
    · simp at hx; subst hx; dsimp only; exact Rc.snoc j (by rw [ha]; exact (h.hf v hv).1) hj
  · by_cases e : i = j
    · subst e; right; rw [ha]; simp
    · rcases h.hx i hi (fun h => hn ⟨h.1, by omega⟩) hi2 with h1 | h1
      · exact .inl h1
      · exact .inr (List.mem_append_left _ h1)
  · rcases h.hs with h1 | h1
    · exact .inl h1
    · exact .inr (List.mem_append_left _ h1)
theorem Dij.pass {fd : Int → Bool} {bs be : Int → Int} {l : List T} {v : Int} {j : Nat} (h : Dij g src (fun i => g.a i = v ∧ j ≤ i) fd bs be l) (ha : g.a j ≠ v ∨ fd (g.b j) = true) :
    Dij g src (fun i => g.a i = v ∧ j + 1 ≤ i) fd bs be l := by
  refine ⟨h.hf, h.hq, fun i hi hn hi2 => ?_, h.hs⟩
  by_cases e : i = j
  · subst e
    rcases ha with ha | ha
    · exact h.hx i hi (fun h => ha h.1) hi2
    · exact .inl ha
  · exact h.hx i hi (fun h => hn ⟨h.1, by omega⟩) hi2
theorem Dij.done {fd : Int → Bool} {bs be : Int → Int} {l : List T} {v : Int} (h : Dij g src (fun i => g.a i = v ∧ g.m ≤ i) fd bs be l) : Dij g src noEx fd bs be l :=
  ⟨h.hf, h.hq, fun i hi _ => h.hx i hi (fun h => by omega), h.hs⟩
theorem Dij.last (o : g.Ok) {fd : Int → Bool} {bs be : Int → Int} (h : Dij g src noEx fd bs be []) (v : Int) : (fd v = true ↔ Can g src v) ∧ (Can g src v → bs v = Rd.sec g src v ∧ be v = edg g src v) := by
  have h1 : fd v = true ↔ Can g src v := ⟨fun hv => ⟨_, _, h.hf v hv⟩, fun hc => by
    rcases h.front o hc.best.1 with h1 | ⟨y, hy, _⟩
    · exact h1
    · cases hy⟩
  exact ⟨h1, fun hc => ((h.hf v (h1.2 hc)).unique hc.best)⟩
structure Bf (g : Gr) (src : Int) (r j : Nat) (sv ev : Int → Int) : Prop where
  h1 : ∀ v : Int, 0 ≤ v → v < g.n → (sv v = 1099511627776 ∧ ev v = 1099511627776) ∨ (Rc g src v (sv v) (ev v) ∧ sv v ≤ 1000 * ((r * g.m + j : Nat) : Int))
  h2 : ∀ v s k, Best g src v s k → k ≤ r → sv v = s ∧ ev v = k
  h3 : ∀ i, i < j → i < g.m → ∀ s k, Best g src (g.a i) s k → k ≤ r → Best g src (g.b i) (s + g.c i) (k + 1) → sv (g.b i) = s + g.c i ∧ ev (g.b i) = k + 1
theorem best_far (o : g.Ok) (hs : 0 ≤ src ∧ src < g.n) (hn : g.n ≤ 64) {v s k : Int} (h : Best g src v s k) : s < 1099511627776 ∧ k < g.n := by
  have := h.few o hs
  have := h.1.nonneg o
  omega
theorem Bf.start (o : g.Ok) (hs : 0 ≤ src ∧ src < g.n) : Bf g src 0 0 (upz (fun _ => 1099511627776) src 0) (upz (fun _ => 1099511627776) src 0) := by
  refine ⟨fun v h0 h1 => ?_, fun v s k h hk => ?_, fun i hi => by omega⟩
  · by_cases e : v = src
    · subst e; right; simp only [upz_same]; exact ⟨.nil, by omega⟩
    · left; simp only [upz_ne e]; exact ⟨trivial, trivial⟩
  · rcases h.before with ⟨rfl, rfl, rfl⟩ | ⟨i, _, _, h'⟩
    · exact ⟨upz_same _ _ _, upz_same _ _ _⟩
    · have := h'.1.nonneg o; omega
theorem Bf.round {r : Nat} {sv ev : Int → Int} (h : Bf g src r g.m sv ev) (o : g.Ok) : Bf g src (r + 1) 0 sv ev := by
  refine ⟨fun v h0 h1 => (h.h1 v h0 h1).imp id (fun h => ⟨h.1, by rw [Nat.succ_mul]; exact h.2⟩), fun v s k hb hk => ?_, fun i hi => by omega⟩
  by_cases e : k ≤ r
  · exact h.h2 v s k hb e
  · rcases hb.before with ⟨rfl, rfl, rfl⟩ | ⟨i, hi, rfl, h'⟩
    · omega
    · have e1 : s = s - g.c i + g.c i := by omega
      have e2 : k = k - 1 + 1 := by omega
      have := h.h3 i hi hi _ _ h' (by omega) (by rw [← e1, ← e2]; exact hb)
      omega
theorem Bf.keep {r j : Nat} {sv ev : Int → Int} (h : Bf g src r j sv ev) (o : g.Ok) (hs : 0 ≤ src ∧ src < g.n) (hn : g.n ≤ 64) (hj : j < g.m)
    (hno : sv (g.a j) = 1099511627776 ∨ (sv (g.a j) < 1099511627776 ∧ leL (sv (g.b j)) (ev (g.b j)) (sv (g.a j) + g.c j) (ev (g.a j) + 1))) : Bf g src r (j + 1) sv ev := by
  refine ⟨fun v h0 h1 => (h.h1 v h0 h1).imp id (fun h => ⟨h.1, by have := h.2; omega⟩), h.h2, fun i hi him s k hb hk hb2 => ?_⟩
  by_cases e : i = j
  · subst e
    have e1 := h.h2 _ _ _ hb hk
    have hf := best_far o hs hn hb
    rcases hno with h0 | ⟨_, hle⟩
    · omega
    · have hbd := o.hb i him
      rcases h.h1 (g.b i) hbd.1 hbd.2 with ⟨h0, h0'⟩ | ⟨hr, _⟩
      · have := best_far o hs hn hb2; unfold leL at hle; omega
      · have := hb2.2 _ _ hr
        unfold leL at *; omega
  · exact h.h3 i (by omega) him s k hb hk hb2
theorem Bf.last {sv ev : Int → Int} (h : Bf g src g.n 0 sv ev) (o : g.Ok) (hs : 0 ≤ src ∧ src < g.n) (hn : g.n ≤ 64) {v : Int} (h0 : 0 ≤ v) (h1 : v < g.n) :
    (Can g src v → sv v = Rd.sec g src v ∧ ev v = edg g src v) ∧ (¬ Can g src v → sv v = 1099511627776 ∧ ev v = 1099511627776) := by
  refine ⟨fun hc => ?_, fun hc => ?_⟩
  · have hf := best_far o hs hn hc.best
    exact h.h2 v _ _ hc.best (by omega)
  · rcases h.h1 v h0 h1 with h | ⟨h, _⟩
    · exact h
    · exact absurd (h.best o) hc
end Rd
end Go.Proofs.YtlnfhlmgnppcbaaGreat
namespace Go.Proofs.YtlnfhlmgnppcbaaGreat
open Go.RowKit Go.ChangeShapes Go.WideShapes Go.Deep
set_option linter.unusedVariables false
set_option linter.unusedSimpArgs false
set_option maxRecDepth 8000
structure Ed where
  frm : Int
  til : Int
  sec : Int
def ef (E : Nat → Ed) : Nat → List Value := fun i => [.int .i64 (E i).frm, .int .i64 (E i).til, .int .i64 (E i).sec]
theorem ef_len (E : Nat → Ed) (i : Nat) : (ef E i).length = 3 := rfl
structure Net (w : World) (ao : Option Addr) (m c : Nat) (E : Nat → Ed) : Prop where
  hm : m ≤ c
  hc : c ≤ 9223372036854775807
  sl : SlE w 3 ao m (ef E)
theorem Net.below {w w' : World} {ao : Option Addr} {m c : Nat} {E : Nat → Ed} (h : Net w ao m c E) (hb : Below w.heap.size w w') : Net w' ao m c E := ⟨h.hm, h.hc, h.sl.below (ef_len E) hb⟩
theorem Net.off {X : Nat → Prop} {w w' : World} {ao : Option Addr} {m c : Nat} {E : Nat → Ed} (h : Net w ao m c E) (ho : Off X w w') (hX : ∀ a, ao = some a → ¬ X a.block) : Net w' ao m c E := ⟨h.hm, h.hc, h.sl.off (ef_len E) ho hX⟩
theorem Net.cells {w : World} {ao : Option Addr} {m c : Nat} {E : Nat → Ed} (h : Net w ao m c E) {i : Nat} (hi : i < m) : ∃ g o, ao = some ⟨g, o, none⟩ ∧ g < w.heap.size ∧
    w.cell? ⟨g, o + i * 3, none⟩ = some (.int .i64 (E i).frm) ∧ w.cell? ⟨g, o + i * 3 + 1, none⟩ = some (.int .i64 (E i).til) ∧ w.cell? ⟨g, o + i * 3 + 2, none⟩ = some (.int .i64 (E i).sec) := by
  obtain ⟨g, o, e, hc⟩ := h.sl i hi
  have h0 : w.cell? ⟨g, o + i * 3, none⟩ = some (.int .i64 (E i).frm) := hc 0 (by decide)
  exact ⟨g, o, e, cell_lt h0, h0, hc 1 (by decide), hc 2 (by decide)⟩
def inI64 (n : Int) : Prop := -9223372036854775808 ≤ n ∧ n ≤ 9223372036854775807
theorem open_edges {H : Type} {enc : TypeId × Value → H} {W : World} {fuel : Nat} {cs : List Value} {x : DataW H × List MemPlace} (hf : DataW.trod enc Tryz.prog W 0 (fun _ => true) true fuel 26 cs = some x) :
    ∃ (a : Option Addr) (m c : Nat) (E : Nat → Ed), cs = [.slice a m c] ∧ Net W a m c E ∧ (∀ i, i < m → inI64 (E i).frm ∧ inI64 (E i).til ∧ inI64 (E i).sec) := by
  rcases open_slice_fields Tryz.underlying26 Tryz.underlying130 (by kernel_rfl) (by kernel_rfl) hf with ⟨hcs, hx⟩ | ⟨a, len, cap, m, D, Pl, hcs, hb, hl, hm, hmm, hx, hi⟩
  · exact ⟨none, 0, 0, fun _ => ⟨0, 0, 0⟩, hcs, ⟨by omega, by omega, fun i hi => absurd hi (by omega)⟩, fun i hi => absurd hi (by omega)⟩
  · have hml : len ≤ m := by rw [hmm]; split <;> omega
    have key : ∀ i, ∃ y : Ed, i < len → (W.cell? (a.add (i * 3)) = some (.int .i64 y.frm) ∧ W.cell? (a.add (i * 3 + 1)) = some (.int .i64 y.til) ∧ W.cell? (a.add (i * 3 + 2)) = some (.int .i64 y.sec)) ∧ inI64 y.frm ∧ inI64 y.til ∧ inI64 y.sec := by
      intro i
      by_cases hil : i < len
      · obtain ⟨ys, n, _, _, hlen, hf'⟩ := hi i (by omega)
        obtain ⟨v0, y0, hc0, _, ht0⟩ := hf' 0 _ rfl
        obtain ⟨v1, y1, hc1, _, ht1⟩ := hf' 1 _ rfl
        obtain ⟨v2, y2, hc2, _, ht2⟩ := hf' 2 _ rfl
        obtain ⟨n0, e0, _, w0⟩ := DataW.trod_int Tryz.underlying3 ht0
        obtain ⟨n1, e1, _, w1⟩ := DataW.trod_int Tryz.underlying3 ht1
        obtain ⟨n2, e2, _, w2⟩ := DataW.trod_int Tryz.underlying3 ht2
        simp at e0 e1 e2
        subst e0 e1 e2
        exact ⟨⟨n0, n1, n2⟩, fun _ => ⟨⟨hc0, hc1, hc2⟩, bounds_i64 w0, bounds_i64 w1, bounds_i64 w2⟩⟩
      · exact ⟨⟨0, 0, 0⟩, fun h => absurd h hil⟩
    obtain ⟨L, hL⟩ := Classical.axiomOfChoice key
    refine ⟨some a, len, cap, L, hcs, ⟨hl, by unfold maxLen at hm; omega, fun i hil => ?_⟩, fun i hil => (hL i hil).2⟩
    obtain ⟨⟨h0, h1, h2⟩, _⟩ := hL i hil
    have ha : a = ⟨a.block, a.off, none⟩ := by
      have h00 := (hL 0 (by omega)).1.1
      simp [Addr.add] at h00
      exact addr_of_cell h00
    rw [ha] at h0 h1 h2 ⊢
    rw [add_flat] at h0 h1 h2
    refine ⟨a.block, a.off, rfl, fun j hj => ?_⟩
    rcases (by omega : j = 0 ∨ j = 1 ∨ j = 2) with rfl | rfl | rfl
    · exact h0
    · rw [Nat.add_assoc]; exact h1
    · rw [Nat.add_assoc]; exact h2
def nodeB (N v : Int) : Bool := decide (0 ≤ v) && decide (v < N)
theorem node113 (N v : Int) (s : Value) (w : World) (hs : s.oneCell' = true) : Calls Tryz.prog 113 #[.agg #[.int .i64 N, s], .int .i64 v] w fun e w' => e = .returned (.bool (nodeB N v)) ∧ Below w.heap.size w w' := by
  go_enter Tryz.func113, Tryz.ntmps113
  go_wp2
  all_goals go_returns
  all_goals exact ⟨by simp [nodeB, *]; try omega, by (repeat' (first | (with_reducible exact Below.refl _ _) | (with_reducible assumption) | (with_reducible refine Below.drew ?_) | (with_reducible refine below_drewN ?_ _) | (with_reducible refine Below.alloc ?_ ?_ _) | (with_reducible refine Below.setCell ?_ ?_ _) | go_size))⟩
def scan (f : Nat → Int) : Nat → Int
  | 0 => 0
  | n + 1 => if scan f n = 0 then f n else scan f n
theorem scan_next {f : Nat → Int} {n : Nat} (h : scan f n = 0) (h2 : f n = 0) : scan f (n + 1) = 0 := by simp [scan, h, h2]
theorem scan_hit {f : Nat → Int} {k : Nat} (h : scan f k = 0) (h2 : f k ≠ 0) : ∀ {n : Nat}, k < n → scan f n = f k
  | 0, hk => by omega
  | n + 1, hk => by
    by_cases e : k = n
    · subst e; simp [scan, h]
    · have := scan_hit h h2 (n := n) (by omega)
      simp [scan, this, h2]
theorem scan_zero {f : Nat → Int} : ∀ {n : Nat}, scan f n = 0 → ∀ i, i < n → f i = 0
  | n + 1, h, i, hi => by
    have h1 : scan f n = 0 := by
      by_cases e : scan f n = 0
      · exact e
      · simp [scan, e] at h
    by_cases e : i = n
    · subst e; simpa [scan, h1] using h
    · exact scan_zero h1 i (by omega)
def badE (N : Int) (e : Ed) : Int := if nodeB N e.frm = false then 7 else if nodeB N e.til = false then 7 else if e.sec < 1 then 1 else if 1000 < e.sec then 1 else 0
def roadE (N : Int) (m : Nat) (E : Nat → Ed) : Int := if N < 1 then 1 else if 64 < N then 1 else if 512 < m then 8 else scan (fun i => badE N (E i)) m
end Go.Proofs.YtlnfhlmgnppcbaaGreat
namespace Go.Proofs.YtlnfhlmgnppcbaaGreat
open Go.RowKit
set_option linter.unusedVariables false
set_option linter.unusedSimpArgs false
set_option maxRecDepth 8000
def Ends (fid : Nat) (A B : Ed → Int) : Prop := ∀ (e : Ed) (w : World), Calls Tryz.prog fid #[.agg #[.int .i64 e.frm, .int .i64 e.til, .int .i64 e.sec]] w fun x w' => x = .returned (.tuple #[.int .i64 (A e), .int .i64 (B e)]) ∧ Below w.heap.size w w'
theorem forward132 : Ends 132 Ed.frm Ed.til := by
  intro e w
  obtain ⟨f, t, s⟩ := e
  dsimp only
  go_enter Tryz.func132, Tryz.ntmps132
  go_wp2_with fail
  (refine region_all (fun i : Nat => World.drewN _ i) mixed (by kernel_rfl) ⟨1, rfl⟩ ?_; (repeat (any_goals (first | go_big_quiet_step (fail) | quiet_step (fail) | (refine wpQuiet_step (fun K hK => ?_); go_simp; split <;> (refine hK _ ?_; clear hK K))))); (all_goals (refine wpQuiet_nil (fun nq => ?_))))
  go_wp2_with fail
  go_returns
  exact ⟨rfl, by (repeat' (first | (with_reducible exact Below.refl _ _) | (with_reducible assumption) | (with_reducible refine Below.drew ?_) | (with_reducible refine below_drewN ?_ _) | (with_reducible refine Below.alloc ?_ ?_ _) | (with_reducible refine Below.setCell ?_ ?_ _) | go_size))⟩
open Rd
def gr (A B : Ed → Int) (n m : Nat) (E : Nat → Ed) : Gr := ⟨n, m, fun i => A (E i), fun i => B (E i), fun i => (E i).sec⟩
structure Right (n m : Nat) (E : Nat → Ed) : Prop where
  n1 : 1 ≤ n
  n2 : n ≤ 64
  m2 : m ≤ 512
  hf : ∀ i, i < m → 0 ≤ (E i).frm ∧ (E i).frm < n
  ht : ∀ i, i < m → 0 ≤ (E i).til ∧ (E i).til < n
  hs : ∀ i, i < m → 1 ≤ (E i).sec ∧ (E i).sec ≤ 1000
theorem Right.fwd {n m : Nat} {E : Nat → Ed} (h : Right n m E) : (gr Ed.frm Ed.til n m E).Ok := ⟨h.hf, h.ht, h.hs⟩
theorem right_of {N : Int} {m : Nat} {E : Nat → Ed} (h : roadE N m E = 0) : ∃ n : Nat, N = n ∧ Right n m E := by
  unfold roadE at h
  by_cases h1 : N < 1
  · simp [h1] at h
  by_cases h2 : 64 < N
  · simp [h1, h2] at h
  by_cases h3 : 512 < m
  · simp [h1, h2, h3] at h
  simp only [h1, h2, h3, if_false] at h
  have hz := scan_zero h
  have each : ∀ i, i < m → nodeB N (E i).frm = true ∧ nodeB N (E i).til = true ∧ 1 ≤ (E i).sec ∧ (E i).sec ≤ 1000 := fun i hi => by
    have := hz i hi
    unfold badE at this
    cases e1 : nodeB N (E i).frm
    · simp [e1] at this
    · cases e2 : nodeB N (E i).til
      · simp [e1, e2] at this
      · simp only [e1, e2, Bool.true_eq_false, if_false] at this
        refine ⟨rfl, rfl, ?_⟩
        by_cases s1 : (E i).sec < 1
        · simp [s1] at this
        · by_cases s2 : 1000 < (E i).sec
          · simp [s1, s2] at this
          · omega
  refine ⟨N.toNat, by omega, by omega, by omega, by omega, fun i hi => ?_, fun i hi => ?_, fun i hi => (each i hi).2.2⟩
  · have := (each i hi).1; simp [nodeB] at this; omega
  · have := (each i hi).2.1; simp [nodeB] at this; omega
def cf (fd : Int → Bool) (n : Nat) : Nat := Lv.cnt (fun j => fd (j : Int)) n
theorem cf_le (fd : Int → Bool) (n : Nat) : cf fd n ≤ n := Lv.cnt_le _ _
theorem cf_up {fd : Int → Bool} {n : Nat} {v : Int} (h0 : 0 ≤ v) (h1 : v < n) (hf : fd v = false) : cf (upz fd v true) n = cf fd n + 1 := by
  have e : cf (upz fd v true) n = Lv.cnt (fun j => fd (j : Int) || decide (j = v.toNat)) n := Lv.cnt_congr fun j _ => by
    by_cases e : (j : Int) = v
    · rw [e, upz_same]; simp; right; omega
    · rw [upz_ne e]; simp; intro h; omega
  rw [e, Lv.cnt_or (fun j _ hj => by simp; intro e; subst e; rw [Int.toNat_of_nonneg h0] at hj; rw [hj] at hf; cases hf)]
  congr 1
  have h3 : Lv.cnt (fun j => decide (j = v.toNat)) n = 1 := by
    have key : ∀ k, v.toNat < k → Lv.cnt (fun j => decide (j = v.toNat)) k = 1 := by
      intro k
      induction k with
      | zero => intro h; omega
      | succ k ih =>
        intro h
        by_cases e : k = v.toNat
        · rw [Lv.cnt_yes (by simp [e]), Lv.cnt_none (fun i hi => by simp; omega)]
        · rw [Lv.cnt_no (by simp [e]), ih (by omega)]
    exact key n (by omega)
  exact h3
def lf (bs be : Int → Int) : Nat → List Value := fun i => [.int .i64 (bs i), .int .i64 (be i)]
theorem lf_len (bs be : Int → Int) (i : Nat) : (lf bs be i).length = 2 := rfl
def ff (fd : Int → Bool) : Nat → List Value := fun i => [.bool (fd i)]
theorem ff_len (fd : Int → Bool) (i : Nat) : (ff fd i).length = 1 := rfl
theorem lf_up (bs be : Int → Int) (v : Nat) (s k : Int) (j : Nat) : upd (lf bs be) v [.int .i64 s, .int .i64 k] j = lf (upz bs v s) (upz be v k) j := by
  by_cases e : j = v
  · subst e; rw [upd_same]; simp [lf, upz_same]
  · rw [upd_ne e]; simp [lf, upz_ne (show (j : Int) ≠ (v : Int) by omega)]
theorem ff_up (fd : Int → Bool) (v : Nat) (j : Nat) : upd (ff fd) v [.bool true] j = ff (upz fd v true) j := by
  by_cases e : j = v
  · subst e; rw [upd_same]; simp [ff, upz_same]
  · rw [upd_ne e]; simp [ff, upz_ne (show (j : Int) ≠ (v : Int) by omega)]
theorem info205 : (Tryz.prog.info? 205).map (fun i => (i.zero, i.size, i.bytes)) = some (some (.agg #[.int .i64 0, .int .i64 0]), 2, 16) := by kernel_rfl
theorem info4 : (Tryz.prog.info? 4).map (fun i => (i.zero, i.size, i.bytes)) = some (some (.bool false), 1, 1) := by kernel_rfl
theorem info3 : (Tryz.prog.info? 3).map (fun i => (i.zero, i.size, i.bytes)) = some (some (.int .i64 0), 1, 8) := by kernel_rfl
theorem mk200 (n : Nat) (hn : n ≤ 64) (w : World) : (Instr.makeSlice 200 (.int .i64 n) (.int .i64 n)).run Tryz.prog w = .ok (.slice (some ⟨w.heap.size, 0, none⟩) n n) (w.alloc (.cells (madeCells #[.int .i64 0, .int .i64 0] (n * 2)) 205)) := by
  obtain ⟨i, hi, h0, h1, h2⟩ := info_parts info205
  have := run_make (P := Tryz.prog) w 200 205 i _ Tryz.underlying200 hi h0 .i64 .i64 n n (by omega) (by omega) (by rw [h2]; omega) (by omega)
  rw [h1, Int.toNat_natCast] at this
  exact this
theorem mk85 (n : Nat) (hn : n ≤ 64) (w : World) : (Instr.makeSlice 85 (.int .i64 n) (.int .i64 n)).run Tryz.prog w = .ok (.slice (some ⟨w.heap.size, 0, none⟩) n n) (w.alloc (.cells (madeCells #[.bool false] (n * 1)) 4)) := by
  obtain ⟨i, hi, h0, h1, h2⟩ := info_parts info4
  have := run_make (P := Tryz.prog) w 85 4 i _ Tryz.underlying85 hi h0 .i64 .i64 n n (by omega) (by omega) (by rw [h2]; omega) (by omega)
  rw [h1, Int.toNat_natCast] at this
  exact this
theorem mk22 (n : Nat) (hn : n ≤ 64) (w : World) : (Instr.makeSlice 22 (.int .i64 n) (.int .i64 n)).run Tryz.prog w = .ok (.slice (some ⟨w.heap.size, 0, none⟩) n n) (w.alloc (.cells (madeCells #[.int .i64 0] (n * 1)) 3)) := by
  obtain ⟨i, hi, h0, h1, h2⟩ := info_parts info3
  have := run_make (P := Tryz.prog) w 22 3 i _ Tryz.underlying22 hi h0 .i64 .i64 n n (by omega) (by omega) (by rw [h2]; omega) (by omega)
  rw [h1, Int.toNat_natCast] at this
  exact this
def St (W0 wr : World) (b1 b2 q n : Nat) (g : Gr) (src : Int) (ex : Nat → Prop) (fd : Int → Bool) (bs be : Int → Int) (l : List QT.T) (ow : Option Nat) (N : Nat) : Prop :=
  Dij g src ex fd bs be l ∧ QT.Q wr W0.heap.size q ow () l (N : Int) ∧ Row wr W0.heap.size 205 2 (.slice (some ⟨b1, 0, none⟩) n n) n (lf bs be) ∧ Row wr W0.heap.size 4 1 (.slice (some ⟨b2, 0, none⟩) n n) n (ff fd) ∧ Below W0.heap.size W0 wr ∧ ow ≠ some b1 ∧ ow ≠ some b2
def Spread (w : World) (n : Nat) (g : Gr) (src : Int) (e : Ending) (w' : World) : Prop :=
  ∃ (b1 b2 : Nat) (fd : Int → Bool) (bs be : Int → Int), e = .returned (.tuple #[.slice (some ⟨b1, 0, none⟩) n n, .slice (some ⟨b2, 0, none⟩) n n]) ∧ b1 ≠ b2 ∧ Row w' w.heap.size 205 2 (.slice (some ⟨b1, 0, none⟩) n n) n (lf bs be) ∧ Row w' w.heap.size 4 1 (.slice (some ⟨b2, 0, none⟩) n n) n (ff fd) ∧
    (∀ v, (fd v = true ↔ Rd.Can g src v) ∧ (Rd.Can g src v → bs v = sec g src v ∧ be v = edg g src v)) ∧ Below w.heap.size w w'
end Go.Proofs.YtlnfhlmgnppcbaaGreat
namespace Go.Proofs.YtlnfhlmgnppcbaaGreat
open Go.RowKit
set_option linter.unusedVariables false
set_option linter.unusedSimpArgs false
set_option maxRecDepth 8000
open Rd
set_option maxHeartbeats 4000000 in
set_option maxRecDepth 100000 in
theorem spread132 (n m c : Nat) (ao : Option Addr) (E : Nat → Ed) (src : Nat) (w : World) (hw : Net w ao m c E) (hr : Right n m E) (hs : src < n) :
    Calls Tryz.prog 131 #[.agg #[.int .i64 n, .slice ao m c], .int .i64 src, .func (.func 132) #[] #[]] w fun e w' => Spread w n (gr Ed.frm Ed.til n m E) src e w' := by
  obtain ⟨w0, hw0⟩ : ∃ w0, w0 = w.alloc (.cells #[.int .i64 n, .slice ao m c] 28) := ⟨_, rfl⟩
  have b0 : Below w.heap.size w w0 := by rw [hw0]; exact (Below.refl _ _).alloc (Nat.le_refl _) _
  have x0 : w0.heap[w.heap.size]? = some (.cells #[.int .i64 n, .slice ao m c] 28) := by rw [hw0]; exact heap_alloc_new w _
  have n0 := Lib.hid (hw.below b0)
  have r0 : w0.cell? ⟨w.heap.size, 0, none⟩ = some (.int .i64 n) := cell_at x0 0
  have r1 : w0.cell? ⟨w.heap.size, 1, none⟩ = some (.slice ao m c) := cell_at x0 1
  have B0 := Lib.hid b0
  have HW := Lib.hid hw0
  have zb : w.heap.size < w0.heap.size := block_lt x0
  have hn2 := hr.n2
  have hn1 := hr.n1
  have hm512 := hr.m2
  have HR := Lib.hid hr
  have OK := Lib.hid hr.fwd
  have HS := Lib.hid hs
  have HC := Lib.hid forward132
  have hM1 := mk200 n hn2
  have hM2 := mk85 n hn2
  obtain ⟨M1, hm1⟩ : ∃ M, M = madeCells #[.int .i64 0, .int .i64 0] (n * 2) := ⟨_, rfl⟩
  obtain ⟨M2, hm2⟩ : ∃ M, M = madeCells #[.bool false] (n * 1) := ⟨_, rfl⟩
  rw [← hm1] at hM1
  rw [← hm2] at hM2
  have HM1 := Lib.hid hm1
  have HM2 := Lib.hid hm2
  clear hw b0 x0 hw0 hr hs hm1 hm2
  go_enter Tryz.func131, Tryz.ntmps131
  go_wp2_with fail
  rw [← HW.out]
  clear HW
  obtain ⟨ι, hne, Fw, fb, hF⟩ := grow_family w0
  have hF : ∀ w', (gPlan w0 (fun _ => undef) [] [] []).D () w' → ∃ i, w' = Fw i := hF
  have fr0 := fun i => cell_kept (fb i) r0
  (refine region_chain (gPlan w0 (fun _ => undef) [] [(2, fun b => .slice (some ⟨b, 0, none⟩) n n, .cells M1 205), (5, fun b => .slice (some ⟨b, 0, none⟩) n n, .cells M2 4)] []) () [] [0, 1, 2, 3, 4, 5, 6, 7] [] mixed (by kernel_rfl) (by kernel_rfl) (gPlan_ok (by simp) (by simp)) (gPlan_start _ _ _ _ _) ?_; refine wpPure_nil ?_; simp only [List.map_cons, List.map_nil, Array.getD_eq_getD_getElem?, List.getElem?_toArray, List.getElem?_cons_zero, List.getElem?_cons_succ, Option.getD_some])
  (repeat (refine wpChain_quiet hF rfl rfl rfl ?_; intro K hK; go_big_quiet_op; go_big_quiet_on))
  (refine wpChain_alloc _ _ rfl (List.mem_cons_self ..) rfl (fun w' => by go_simp) (fun b1 hb1 => ?_); simp only [Act.put, List.setIfInBounds_toArray, List.set_cons_succ, List.set_cons_zero])
  (repeat (refine wpChain_quiet hF rfl rfl rfl ?_; intro K hK; go_big_quiet_op; go_big_quiet_on))
  (refine wpChain_alloc _ _ rfl (List.mem_cons_of_mem _ (List.mem_cons_self ..)) rfl (fun w' => by go_simp) (fun b2 hb2 => ?_); simp only [Act.put, List.setIfInBounds_toArray, List.set_cons_succ, List.set_cons_zero])
  (repeat (refine wpChain_quiet hF rfl rfl rfl ?_; intro K hK; go_big_quiet_op; go_big_quiet_on))
  refine wpChain_nil (fun w4 hb4 hl4 => ?_)
  have hx1 : w4.heap[b1]? = some (.cells M1 205) := (hl4.2 (2, b1, .cells M1 205) (by simp)).2
  have hx2 : w4.heap[b2]? = some (.cells M2 4) := (hl4.2 (5, b2, .cells M2 4) (by simp)).2
  have hnd := hl4.1
  have hg1 := (hl4.2 (2, b1, .cells M1 205) (by simp)).1
  have hg2 := (hl4.2 (5, b2, .cells M2 4) (by simp)).1
  have hne12 : b1 ≠ b2 := by
    simp at hnd; first | exact hnd | exact fun e => hnd e.symm
  have hg1 : w0.heap.size ≤ b1 := hg1
  have hg2 : w0.heap.size ≤ b2 := hg2
  have B4 := Lib.hid (show Below w0.heap.size w0 w4 from hb4)
  have y1 : Row w4 w0.heap.size 205 2 (.slice (some ⟨b1, 0, none⟩) n n) n (lf (fun _ => 0) (fun _ => 0)) := Row.of_made (z := #[.int .i64 0, .int .i64 0]) rfl (by decide) (by rw [← HM1.out]; exact hx1) hg1 (by unfold maxLen; omega)
  have y2 : Row w4 w0.heap.size 4 1 (.slice (some ⟨b2, 0, none⟩) n n) n (ff (fun _ => false)) := Row.of_made (z := #[.bool false]) rfl (by decide) (by rw [← HM2.out]; exact hx2) hg2 (by unfold maxLen; omega)
  have zb1 := block_lt hx1
  have zb2 := block_lt hx2
  have Y1 := Lib.hid y1
  have Y2 := Lib.hid y2
  have NW := QT.new () w4 w0.heap.size B4.out.size
  simp only [QT.F, QT.fn] at NW
  have HNW := Lib.hid NW
  have HN12 := Lib.hid hne12
  clear hb4 hl4 hx1 hx2 hnd hF fb fr0 y1 y2 NW hne12 hM1 hM2 HM1 HM2
  refine onlyN_intro ?_
  go_wp2_with fail
  refine HNW.out.mono ?_
  rintro e w5 ⟨rfl, q5, b5⟩
  have zq := (q5.within _ (.inl rfl)).2
  have PU := QT.push_q () w5 w0.heap.size w4.heap.size none [] 0 ⟨src, 0, 0⟩ q5 (by omega) (by have := B4.out.size; omega)
  unfold QT.vv at PU
  dsimp only at PU
  have HPU := Lib.hid PU
  have Y1' := Lib.hid (Row.off (X := fun _ => False) Y1.out (Off.of_below b5) (fun _ _ h => h))
  have Y2' := Lib.hid (Row.off (X := fun _ => False) Y2.out (Off.of_below b5) (fun _ _ h => h))
  have B5 := Lib.hid (B4.out.trans (b5.mono B4.out.size))
  clear PU q5 b5
  go_wp2_with fail
  refine HPU.out.mono ?_
  rintro e w6 ⟨rfl, ow6, q6, o6, f6⟩
  have hfp : ∀ b, QT.FP w4.heap.size none b → b = w4.heap.size := fun b h => by rcases h with h | h; exact h; cases h
  have y16 := Row.off Y1'.out o6 (fun g hg h => by have h9 := hfp _ h; cases hg; dsimp only at h9; omega)
  have y26 := Row.off Y2'.out o6 (fun g hg h => by have h9 := hfp _ h; cases hg; dsimp only at h9; omega)
  have b6 := B5.out.trans (o6.toBelow B5.out.size (fun k hk h => by have := hfp _ h; have := B4.out.size; omega))
  have S6 : Hid (St w0 w6 b1 b2 w4.heap.size n (gr Ed.frm Ed.til n m E) src noEx (fun _ => false) (fun _ => 0) (fun _ => 0) [⟨src, 0, 0⟩] ow6 1) := Lib.hid ⟨Dij.start _ _ _ _, q6, y16, y26, b6, fun h => by rcases f6 _ h with h | h; cases h; omega, fun h => by rcases f6 _ h with h | h; cases h; omega⟩
  have hq12 : b1 ≠ w4.heap.size ∧ b2 ≠ w4.heap.size := by omega
  obtain ⟨q, hq⟩ : ∃ q, q = w4.heap.size := ⟨_, rfl⟩
  rw [← hq] at hq12 S6 ⊢
  have HQ12 := Lib.hid hq12
  have zqq : w0.heap.size ≤ q := by rw [hq]; exact B4.out.size
  clear hq hq12 q6 o6 f6 hfp y16 y26 b6 zb1 zb2 zq Y1 Y2 Y1' Y2' HNW HPU B4 B5
  go_wp2_with fail
  go_loopg [] (n * (m + 1) + 1) (fun K wr => ∃ (fd : Int → Bool) (bs be : Int → Int) (l : List QT.T) (ow : Option Nat) (N : Nat), Hid (K = (n - cf fd n) * (m + 1) + l.length ∧ N ≤ 1 + cf fd n * m) ∧ Hid (St w0 wr b1 b2 q n (gr Ed.frm Ed.til n m E) src noEx fd bs be l ow N))
  case atStart => exact ⟨fun _ => false, fun _ => 0, fun _ => 0, [⟨src, 0, 0⟩], ow6, 1, ⟨by rw [show cf (fun _ => false) n = 0 from Lv.cnt_none (fun _ _ => rfl)]; rfl, by omega⟩, S6⟩
  case round =>
    obtain ⟨fd, bs, be, l, ow, N, hK, hrel⟩ := hrel
    clear S6
    have hN : N ≤ 40000 := by
      have h1 := hK.out.2
      have h2 : cf fd n * m ≤ 64 * 512 := Nat.mul_le_mul (by have := cf_le fd n; omega) (by have := HR.out.m2; omega)
      omega
    by_cases hl : l = []
    · subst hl
      have P := QT.pop_none () wr w0.heap.size q ow N hrel.out.2.1
      have HP := Lib.hid P
      clear P
      go_wp2_with fail
      refine HP.out.mono ?_
      rintro e w7 ⟨rfl, b7⟩
      have B7 := Lib.hid b7
      clear b7
      go_wp2_with fail
      have b8 : Below w0.heap.size w0 (w7.alloc (.cells #[.int .i64 0, .int .i64 0, .int .i64 0] 231)) := (hrel.out.2.2.2.2.1.trans (B7.out.mono hrel.out.2.2.2.2.1.size)).alloc (by have := hrel.out.2.2.2.2.1.size; have := B7.out.size; omega) _
      have b9 : Below wr.heap.size wr (w7.alloc (.cells #[.int .i64 0, .int .i64 0, .int .i64 0] 231)) := B7.out.alloc B7.out.size _
      have B8 := Lib.hid b8
      have B9 := Lib.hid b9
      clear b8 b9
      go_returns
      exact ⟨b1, b2, fd, bs, be, rfl, HN12.out, (Row.off (X := fun _ => False) hrel.out.2.2.1 (Off.of_below B9.out) (fun _ _ h => h)).base_mono (by omega), (Row.off (X := fun _ => False) hrel.out.2.2.2.1 (Off.of_below B9.out) (fun _ _ h => h)).base_mono (by omega), fun v => hrel.out.1.last OK.out v, B0.out.trans (B8.out.mono B0.out.size)⟩
    · have P := QT.pop_some () wr w0.heap.size q ow l N hrel.out.2.1 hl (by omega)
      obtain ⟨x, hx⟩ : ∃ x, x = l.getD (minIx (QT.lt ()) l) default := ⟨_, rfl⟩
      obtain ⟨l2, hl2⟩ : ∃ l2, l2 = l.eraseIdx (minIx (QT.lt ()) l) := ⟨_, rfl⟩
      have hll : l2.length + 1 = l.length := by rw [hl2, List.length_eraseIdx_of_lt (minIx_lt hl)]; have := List.length_pos_iff.2 hl; omega
      rw [← hx, ← hl2] at P
      have hxn := (hrel.out.1.hq x (by rw [hx]; exact first_mem hl)).node OK.out ⟨by omega, by have := HS.out; show (src : Int) < (n : Int); omega⟩
      have HX := Lib.hid hx
      have HL2 := Lib.hid hl2
      have HLL := Lib.hid hll
      have HL := Lib.hid hl
      obtain ⟨nd, s, k⟩ := x
      dsimp only at hxn
      obtain ⟨v, rfl⟩ : ∃ v : Nat, nd = (v : Int) := ⟨nd.toNat, by omega⟩
      have hvn : v < n := by have : (v : Int) < (n : Int) := hxn.2; omega
      unfold QT.vv at P
      dsimp only at P
      have HP := Lib.hid P
      clear P hx hl2 hll hl hxn
      go_wp2_with fail
      refine HP.out.mono ?_
      rintro e w7 ⟨rfl, q7, o7⟩
      have hwi := hrel.out.2.1.within
      have r17 := Row.off hrel.out.2.2.1 o7 (fun g hg h => by cases hg; rcases h with h | h; exact HQ12.out.1 h; exact hrel.out.2.2.2.2.2.1 h.symm)
      have r27 := Row.off hrel.out.2.2.2.1 o7 (fun g hg h => by cases hg; rcases h with h | h; exact HQ12.out.2 h; exact hrel.out.2.2.2.2.2.2 h.symm)
      have b7 := hrel.out.2.2.2.2.1.trans (o7.toBelow hrel.out.2.2.2.2.1.size (fun b hb h => by have := (hwi b h).1; omega))
      have c0 : w7.cell? ⟨b1, v * 2, none⟩ = some (.int .i64 (bs v)) := Row.cell r17 (lf_len bs be) hvn (by decide : 0 < 2)
      have c1 : w7.cell? ⟨b1, v * 2 + 1, none⟩ = some (.int .i64 (be v)) := Row.cell r17 (lf_len bs be) hvn (by decide : 1 < 2)
      have c2 : w7.cell? ⟨b2, v, none⟩ = some (.bool (fd v)) := by have := Row.cell r27 (ff_len fd) hvn (by decide : 0 < 1); simpa [ff] using this
      have c3 : ∀ j, w7.frozen? ⟨b1, j, none⟩ = false := Row.free r17
      have c4 : ∀ j, w7.frozen? ⟨b2, j, none⟩ = false := Row.free r27
      have z71 := szs (cell_lt c0)
      have z72 := szs (cell_lt c2)
      have hb12 := HN12.out
      dsimp only at z71 z72
      have S7 : Hid (QT.Q w7 w0.heap.size q ow () l2 N ∧ Row w7 w0.heap.size 205 2 (.slice (some ⟨b1, 0, none⟩) n n) n (lf bs be) ∧ Row w7 w0.heap.size 4 1 (.slice (some ⟨b2, 0, none⟩) n n) n (ff fd) ∧ Below w0.heap.size w0 w7 ∧ ow ≠ some b1 ∧ ow ≠ some b2) := Lib.hid ⟨q7, r17, r27, b7, hrel.out.2.2.2.2.2.1, hrel.out.2.2.2.2.2.2⟩
      have tv : (v : Int) < (n : Int) := by omega
      have DJ := Lib.hid hrel.out.1
      obtain ⟨f, hf⟩ : ∃ f, f = fd v := ⟨_, rfl⟩
      rw [← hf] at c2
      have HF := Lib.hid hf
      clear hf hwi r17 r27 b7 q7 o7 hrel HP
      cases f
      · go_wp2_with fail
        go_region
        obtain ⟨w9, hw9⟩ : ∃ w9, w9 = ((((w7.setCell ⟨b1, v * 2, none⟩ (.int .i64 s)).setCell ⟨b1, v * 2 + 1, none⟩ (.int .i64 k)).setCell ⟨b2, v, none⟩ (.bool true)).alloc (.cells #[.int .i64 v, .int .i64 s, .int .i64 k] 231)).drew := ⟨_, rfl⟩
        rw [← hw9]
        obtain ⟨wm, hwm⟩ : ∃ wm, wm = (((w7.setCell ⟨b1, v * 2, none⟩ (.int .i64 s)).setCell ⟨b1, v * 2 + 1, none⟩ (.int .i64 k)).setCell ⟨b2, v, none⟩ (.bool true)) := ⟨_, rfl⟩
        rw [← hwm] at hw9
        have hzm : wm.heap.size = w7.heap.size := by rw [hwm]; simp
        have om : Off (fun b => b = b1 ∨ b = b2) w7 wm := by rw [hwm]; exact (((Off.refl (fun b => b = b1 ∨ b = b2) w7).setCell (fun _ => .inl rfl) _).setCell (fun _ => .inl rfl) _).setCell (fun _ => .inr rfl) _
        have q1 := S7.out.1.off om (fun b hb h => by rcases h with rfl | rfl <;> rcases hb with hb | hb; exact HQ12.out.1 hb; exact S7.out.2.2.2.2.1 hb.symm; exact HQ12.out.2 hb; exact S7.out.2.2.2.2.2 hb.symm)
        have rm1 : Row wm w0.heap.size 205 2 (.slice (some ⟨b1, 0, none⟩) n n) n (lf (upz bs v s) (upz be v k)) := by
          have a1 := Row.put S7.out.2.1 (lf_len bs be) hvn [.int .i64 s, .int .i64 k] rfl
          have a2 := Row.congr a1 (fun j _ => lf_up bs be v s k j)
          have a3 : Off (fun b => b = b2) (putCells w7 b1 (v * 2) [.int .i64 s, .int .i64 k]) wm := by
            rw [hwm]
            show Off (fun b => b = b2) ((w7.setCell ⟨b1, v * 2, none⟩ (.int .i64 s)).setCell ⟨b1, v * 2 + 1, none⟩ (.int .i64 k)) _
            exact (Off.refl (fun b => b = b2) _).setCell (fun _ => rfl) _
          exact Row.off a2 a3 (fun g hg h => by cases hg; exact HN12.out h)
        have rm2 : Row wm w0.heap.size 4 1 (.slice (some ⟨b2, 0, none⟩) n n) n (ff (upz fd v true)) := by
          have a0 : Off (fun b => b = b1) w7 ((w7.setCell ⟨b1, v * 2, none⟩ (.int .i64 s)).setCell ⟨b1, v * 2 + 1, none⟩ (.int .i64 k)) := ((Off.refl (fun b => b = b1) w7).setCell (fun _ => rfl) _).setCell (fun _ => rfl) _
          have a1 := Row.put (Row.off S7.out.2.2.1 a0 (fun g hg h => by cases hg; exact HN12.out h.symm)) (ff_len fd) hvn [.bool true] rfl
          rw [hwm]
          have := Row.congr a1 (fun j _ => ff_up fd v j)
          simpa [putCells] using this
        have bm : Below w0.heap.size w0 wm := S7.out.2.2.2.1.trans (om.toBelow S7.out.2.2.2.1.size (fun b hb h => by omega))
        have ba : Below wm.heap.size wm w9 := by rw [hw9]; exact ((Below.refl _ _).alloc (Nat.le_refl _) _).drew
        have x9 : w9.heap[w7.heap.size]? = some (.cells #[.int .i64 v, .int .i64 s, .int .i64 k] 231) := by rw [hw9, ← hzm]; exact heap_alloc_new wm _
        have S9 : Hid (St w0 w9 b1 b2 q n (gr Ed.frm Ed.til n m E) src (fun i => Ed.frm (E i) = (v : Int) ∧ 0 ≤ i) (upz fd v true) (upz bs v s) (upz be v k) l2 ow N) := Lib.hid ⟨by rw [HL2.out]; exact DJ.out.settle OK.out HL.out HX.out HF.out.symm, q1.below ba, Row.off (X := fun _ => False) rm1 (Off.of_below ba) (fun _ _ h => h), Row.off (X := fun _ => False) rm2 (Off.of_below ba) (fun _ _ h => h), bm.trans (ba.mono bm.size), S7.out.2.2.2.2⟩
        have X9 := Lib.hid x9
        have hq9 : w7.heap.size ≠ q ∧ ow ≠ some w7.heap.size := ⟨fun e => by have := (S7.out.1.within _ (.inl rfl)).2; omega, fun e => by have := (S7.out.1.within _ (.inr e.symm)).2; omega⟩
        have hb9 : b1 < w7.heap.size ∧ b2 < w7.heap.size := ⟨z71.1, z72.1⟩
        have d1 := cell_kept S9.out.2.2.2.2.1 r1
        have zd1 := szs (cell_lt d1)
        dsimp only at zd1
        have HQ9 := Lib.hid (And.intro hq9 hb9)
        clear hw9 hwm hzm om q1 rm1 rm2 bm ba x9 c0 c1 c2 c3 c4 z71 z72 hb12 hq9 hb9 S7
        have hbv : Best (gr Ed.frm Ed.til n m E) src v s k := by have := S9.out.1.hf v (upz_same _ _ _); rwa [upz_same, upz_same] at this
        have hbd := hbv.1.nonneg OK.out
        have hbf := hbv.few OK.out ⟨by omega, by have := HS.out; show (src : Int) < (n : Int); omega⟩
        have hbf : k < (n : Int) := hbf
        have hs0 : 0 ≤ s := by omega
        have hs1 : s ≤ 64000 := by omega
        have hk0 : 0 ≤ k := by omega
        have hk1 : k ≤ 64 := by omega
        have HBD := Lib.hid hbv
        clear hbv hbd hbf
        go_wp2_with fail
        go_loopw [55] (fun i wr => ∃ (j N' : Nat) (l' : List QT.T) (ow' : Option Nat), i = .int .i64 j ∧ j ≤ m ∧ N' ≤ N + j ∧ l'.length ≤ l2.length + j ∧ Hid (St w0 wr b1 b2 q n (gr Ed.frm Ed.til n m E) src (fun i => Ed.frm (E i) = (v : Int) ∧ j ≤ i) (upz fd v true) (upz bs v s) (upz be v k) l' ow' N' ∧ wr.heap[w7.heap.size]? = some (.cells #[.int .i64 v, .int .i64 s, .int .i64 k] 231) ∧ ow' ≠ some w7.heap.size)) (fun i _ => m - (intOf i).toNat)
        case atStart => exact ⟨0, N, l2, ow, rfl, by omega, by omega, by omega, S9.out, X9.out, HQ9.out.1.2⟩
        case round =>
          clear S9 X9 d1 zd1
          obtain ⟨j, N', l', ow', rfl, hj, hN', hl', hrel⟩ := hrel
          have B9 := Lib.hid hrel.out.1.2.2.2.2.1
          by_cases hjm : j < m
          · obtain ⟨g, o, hao, hg, e0, e1, e2⟩ := (n0.out.below B9.out).cells hjm
            subst hao
            have zg := szs hg
            have tj : (j : Int) < (m : Int) := by omega
            have rj := HR.out.hs j hjm
            have hA := OK.out.ha j hjm
            have hB := OK.out.hb j hjm
            have CE := HC.out (E j)
            have hAe : (gr Ed.frm Ed.til n m E).a j = Ed.frm (E j) := rfl
            have hBe : (gr Ed.frm Ed.til n m E).b j = Ed.til (E j) := rfl
            have hCe : (gr Ed.frm Ed.til n m E).c j = (E j).sec := rfl
            have hB : 0 ≤ Ed.til (E j) ∧ Ed.til (E j) < (n : Int) := hB
            obtain ⟨u, hu⟩ : ∃ u : Nat, Ed.til (E j) = (u : Int) := ⟨(Ed.til (E j)).toNat, by omega⟩
            have hun : u < n := by omega
            have tu : (u : Int) < (n : Int) := by omega
            have c2 : wr.cell? ⟨b2, u, none⟩ = some (.bool (upz fd v true u)) := by have := Row.cell hrel.out.1.2.2.2.1 (ff_len _) hun (by decide : 0 < 1); simpa [ff] using this
            have s0 : wr.cell? ⟨w7.heap.size, 0, none⟩ = some (.int .i64 v) := cell_at hrel.out.2.1 0
            have s1 : wr.cell? ⟨w7.heap.size, 1, none⟩ = some (.int .i64 s) := cell_at hrel.out.2.1 1
            have s2 : wr.cell? ⟨w7.heap.size, 2, none⟩ = some (.int .i64 k) := cell_at hrel.out.2.1 2
            have C2 := Lib.hid c2
            have S0 := Lib.hid s0
            have S1 := Lib.hid s1
            have S2 := Lib.hid s2
            obtain ⟨f, hf⟩ : ∃ f, f = E j := ⟨_, rfl⟩
            rw [← hf] at e0 e1 e2 rj CE
            have HF2 := Lib.hid hf
            obtain ⟨ea, hea⟩ : ∃ ea, ea = Ed.frm f := ⟨_, rfl⟩
            have hfu : Ed.til f = (u : Int) := by rw [hf]; exact hu
            have CE : ∀ w, Calls Tryz.prog 132 #[.agg #[.int .i64 f.frm, .int .i64 f.til, .int .i64 f.sec]] w fun x w' => x = .returned (.tuple #[.int .i64 ea, .int .i64 u]) ∧ Below w.heap.size w w' := fun w => by rw [hea, ← hfu]; exact CE w
            clear hfu
            have HEA := Lib.hid hea
            have HU := Lib.hid hu
            obtain ⟨f0, f1, f2⟩ := f
            dsimp only at e0 e1 e2 rj CE
            obtain ⟨rj0, rj1⟩ := rj
            have HCE := Lib.hid CE
            have HGR := Lib.hid (And.intro hAe (And.intro hBe hCe))
            have be : Below wr.heap.size wr (wr.alloc (.cells #[.int .i64 f0, .int .i64 f1, .int .i64 f2] 130)) := (Below.refl _ _).alloc (Nat.le_refl _) _
            have XE := Lib.hid (heap_alloc_new wr (.cells #[.int .i64 f0, .int .i64 f1, .int .i64 f2] 130))
            have BE := Lib.hid be
            clear hA hB hu c2 s0 s1 s2 hf hea be CE hAe hBe hCe
            go_wp2_with fail
            refine (HCE.out _).mono ?_
            rintro e w10 ⟨rfl, b10⟩
            have x10 := (b10.block _ (block_lt XE.out)).trans XE.out
            have ba := BE.out.trans (b10.mono BE.out.size)
            have c2 := cell_kept ba C2.out
            have s0 := cell_kept ba S0.out
            have s1 := cell_kept ba S1.out
            have s2 := cell_kept ba S2.out
            have y2 : w10.cell? ⟨wr.heap.size, 2, none⟩ = some (.int .i64 f2) := cell_at x10 2
            have z1 := szs (cell_lt c2)
            have z2 := szs (cell_lt s0)
            have z3 := szs (cell_lt y2)
            dsimp only at z1 z2 z3
            have Q10 := hrel.out.1.2.1.below ba
            have R1 := Row.off (X := fun _ => False) hrel.out.1.2.2.1 (Off.of_below ba) (fun _ _ h => h)
            have R2 := Row.off (X := fun _ => False) hrel.out.1.2.2.2.1 (Off.of_below ba) (fun _ _ h => h)
            have Bb := B9.out.trans (ba.mono B9.out.size)
            have X10 := Lib.hid ((ba.block _ (block_lt hrel.out.2.1)).trans hrel.out.2.1)
            have M10 := Lib.hid (And.intro Q10 (And.intro R1 (And.intro R2 Bb)))
            have DJ9 := Lib.hid hrel.out.1.1
            have OW := Lib.hid (And.intro hrel.out.1.2.2.2.2.2 hrel.out.2.2)
            clear b10 x10 ba Q10 R1 R2 Bb hrel e0 e1 e2 HCE
            obtain ⟨fu, hfu⟩ : ∃ fu, fu = upz fd v true u := ⟨_, rfl⟩
            rw [← hfu] at c2
            have HFU := Lib.hid hfu
            clear hfu C2 S0 S1 S2
            by_cases hav : ea = (v : Int)
            · subst hav
              cases fu
              · have PU := QT.push_q () w10 w0.heap.size q ow' l' N' ⟨u, s + f2, k + 1⟩ M10.out.1 (by omega) M10.out.2.2.2.size
                unfold QT.vv at PU
                dsimp only at PU
                have HPU := Lib.hid PU
                clear PU
                go_wp2_with fail
                refine HPU.out.mono ?_
                rintro e w11 ⟨rfl, ow2, q11, o11, f11⟩
                have hwi := M10.out.1.within
                have r1' := Row.off M10.out.2.1 o11 (fun g hg h => by cases hg; rcases h with h | h; exact HQ12.out.1 h; exact OW.out.1.1 h.symm)
                have r2' := Row.off M10.out.2.2.1 o11 (fun g hg h => by cases hg; rcases h with h | h; exact HQ12.out.2 h; exact OW.out.1.2 h.symm)
                have b' := M10.out.2.2.2.trans (o11.toBelow M10.out.2.2.2.size (fun b hb h => by have := (hwi b h).1; omega))
                have x' := (o11.block _ (block_lt X10.out) (fun h => by rcases h with h | h; exact HQ9.out.1.1 h; exact OW.out.2 h.symm)).trans X10.out
                have hlt7 := block_lt X10.out
                have hn : ∀ b, b < w10.heap.size → ow' ≠ some b → ow2 ≠ some b := fun b hb h e => by rcases f11 b e with h2 | h2; exact h h2; omega
                have dj := DJ9.out.push (j := j) hjm (by rw [HGR.out.1, ← HF2.out]; exact HEA.out.symm) (upz_same _ _ _)
                rw [HGR.out.2.1, HGR.out.2.2, HU.out, ← HF2.out, upz_same, upz_same] at dj
                have HEND : Hid (St w0 w11 b1 b2 q n (gr Ed.frm Ed.til n m E) src (fun i => Ed.frm (E i) = (v : Int) ∧ j + 1 ≤ i) (upz fd v true) (upz bs v s) (upz be v k) (l' ++ [⟨u, s + f2, k + 1⟩]) ow2 (N' + 1) ∧ w11.heap[w7.heap.size]? = some (.cells #[.int .i64 v, .int .i64 s, .int .i64 k] 231) ∧ ow2 ≠ some w7.heap.size) :=
                  Lib.hid ⟨⟨dj, q11, r1', r2', b', hn _ (by have := HQ9.out.2.1; omega) OW.out.1.1, hn _ (by have := HQ9.out.2.2; omega) OW.out.1.2⟩, x', hn _ hlt7 OW.out.2⟩
                clear hwi r1' r2' b' x' hn dj q11 o11 f11 c2 s0 s1 s2 y2
                go_wp2_with fail
                go_roundw
                case rel => exact ⟨j + 1, N' + 1, _, ow2, by go_num, by omega, by omega, by simp; omega, HEND.out⟩
                case measure => simp [intOf]; omega
              · have HEND : Hid (St w0 w10 b1 b2 q n (gr Ed.frm Ed.til n m E) src (fun i => Ed.frm (E i) = (v : Int) ∧ j + 1 ≤ i) (upz fd v true) (upz bs v s) (upz be v k) l' ow' N' ∧ w10.heap[w7.heap.size]? = some (.cells #[.int .i64 v, .int .i64 s, .int .i64 k] 231) ∧ ow' ≠ some w7.heap.size) :=
                  Lib.hid ⟨⟨DJ9.out.pass (.inr (by rw [HGR.out.2.1, HU.out]; exact HFU.out.symm)), M10.out.1, M10.out.2.1, M10.out.2.2.1, M10.out.2.2.2, OW.out.1⟩, X10.out, OW.out.2⟩
                go_wp2_with fail
                go_roundw
                case rel => exact ⟨j + 1, N', _, ow', by go_num, by omega, by omega, by omega, HEND.out⟩
                case measure => simp [intOf]; omega
            · have hav' : (ea == (v : Int)) = false := by simp [hav]
              have HEND : Hid (St w0 w10 b1 b2 q n (gr Ed.frm Ed.til n m E) src (fun i => Ed.frm (E i) = (v : Int) ∧ j + 1 ≤ i) (upz fd v true) (upz bs v s) (upz be v k) l' ow' N' ∧ w10.heap[w7.heap.size]? = some (.cells #[.int .i64 v, .int .i64 s, .int .i64 k] 231) ∧ ow' ≠ some w7.heap.size) :=
                Lib.hid ⟨⟨DJ9.out.pass (.inl (by rw [HGR.out.1, ← HF2.out, ← HEA.out]; exact hav)), M10.out.1, M10.out.2.1, M10.out.2.2.1, M10.out.2.2.2, OW.out.1⟩, X10.out, OW.out.2⟩
              clear hav
              go_wp2_with fail
              go_roundw
              case rel => exact ⟨j + 1, N', _, ow', by go_num, by omega, by omega, by omega, HEND.out⟩
              case measure => simp [intOf]; omega
          · obtain rfl : j = m := by omega
            have hcf := cf_up (n := n) (show (0 : Int) ≤ (v : Int) by omega) (by omega) HF.out.symm
            have hcl := cf_le (upz fd v true) n
            have hkk := Lib.hid (show (n - cf (upz fd v true) n) * (j + 1) + l'.length < (n - cf fd n) * (j + 1) + l.length ∧ N' ≤ 1 + cf (upz fd v true) n * j by
              have h1 := HLL.out
              have h2 := hK.out.2
              rw [hcf]
              have h3 : n - cf fd n = n - (cf fd n + 1) + 1 := by omega
              rw [h3, Nat.succ_mul, Nat.succ_mul]
              omega)
            have HK1 := Lib.hid hK.out.1
            clear hcf hcl
            go_wp2_with fail
            go_roundg ((n - cf (upz fd v true) n) * (j + 1) + l'.length)
            case measure => rw [HK1.out]; exact hkk.out.1
            case rel => exact ⟨_, _, _, l', ow', N', ⟨rfl, hkk.out.2⟩, hrel.out.1.1.done, hrel.out.1.2⟩
      · have hK2 : Hid (gk = (n - cf fd n) * (m + 1) + l2.length + 1) := Lib.hid (by rw [hK.out.1]; have := HLL.out; omega)
        have HS7 : Hid (St w0 (w7.alloc (.cells #[.int .i64 v, .int .i64 s, .int .i64 k] 231)) b1 b2 q n (gr Ed.frm Ed.til n m E) src noEx fd bs be l2 ow N) := by
          have ba : Below w7.heap.size w7 (w7.alloc (.cells #[.int .i64 v, .int .i64 s, .int .i64 k] 231)) := (Below.refl _ _).alloc (Nat.le_refl _) _
          exact ⟨by rw [HL2.out]; exact DJ.out.skip HL.out (by rw [← HX.out]; exact HF.out.symm), S7.out.1.below ba, Row.off (X := fun _ => False) S7.out.2.1 (Off.of_below ba) (fun _ _ h => h), Row.off (X := fun _ => False) S7.out.2.2.1 (Off.of_below ba) (fun _ _ h => h), S7.out.2.2.2.1.trans (ba.mono S7.out.2.2.2.1.size), S7.out.2.2.2.2⟩
        have HN2 := Lib.hid hK.out.2
        go_wp2_with fail
        go_roundg ((n - cf fd n) * (m + 1) + l2.length)
        case measure => rw [hK2.out]; omega
        case rel => exact ⟨fd, bs, be, l2, ow, N, ⟨rfl, HN2.out⟩, HS7.out⟩
end Go.Proofs.YtlnfhlmgnppcbaaGreat
namespace Go.Proofs.YtlnfhlmgnppcbaaGreat
open Go.RowKit
set_option linter.unusedVariables false
set_option linter.unusedSimpArgs false
set_option maxRecDepth 8000
set_option maxHeartbeats 2000000 in
theorem check74 (N : Int) (ao : Option Addr) (m c : Nat) (E : Nat → Ed) (w : World) (h : Net w ao m c E) :
    Calls Tryz.prog 74 #[.agg #[.int .i64 N, .slice ao m c]] w fun e w' => e = .returned (.int .i64 (roadE N m E)) ∧ Below w.heap.size w w' := by
  by_cases h1 : N < 1
  · rw [show roadE N m E = 1 by simp [roadE, h1]]
    clear h
    go_enter Tryz.func74, Tryz.ntmps74
    go_wp2_with fail
    go_returns
    exact ⟨rfl, by (repeat' (first | (with_reducible exact Below.refl _ _) | (with_reducible assumption) | (with_reducible refine Below.drew ?_) | (with_reducible refine below_drewN ?_ _) | (with_reducible refine Below.alloc ?_ ?_ _) | (with_reducible refine Below.setCell ?_ ?_ _) | go_size))⟩
  by_cases h2 : 64 < N
  · rw [show roadE N m E = 1 by simp [roadE, h1, h2]]
    have h1' : 1 ≤ N := by omega
    clear h h1
    go_enter Tryz.func74, Tryz.ntmps74
    go_wp2_with fail
    go_returns
    exact ⟨rfl, by (repeat' (first | (with_reducible exact Below.refl _ _) | (with_reducible assumption) | (with_reducible refine Below.drew ?_) | (with_reducible refine below_drewN ?_ _) | (with_reducible refine Below.alloc ?_ ?_ _) | (with_reducible refine Below.setCell ?_ ?_ _) | go_size))⟩
  have h1' : 1 ≤ N := by omega
  have h2' : N ≤ 64 := by omega
  by_cases h3 : 512 < m
  · have h3' : (512 : Int) < (m : Int) := by omega
    rw [show roadE N m E = 8 by simp [roadE, h1, h2, h3]]
    clear h h1 h2 h3
    go_enter Tryz.func74, Tryz.ntmps74
    go_wp2_with fail
    go_returns
    exact ⟨rfl, by (repeat' (first | (with_reducible exact Below.refl _ _) | (with_reducible assumption) | (with_reducible refine Below.drew ?_) | (with_reducible refine below_drewN ?_ _) | (with_reducible refine Below.alloc ?_ ?_ _) | (with_reducible refine Below.setCell ?_ ?_ _) | go_size))⟩
  have h3' : (m : Int) ≤ 512 := by omega
  have hE : roadE N m E = scan (fun i => badE N (E i)) m := by simp [roadE, h1, h2, h3]
  rw [hE]
  clear h1 h2 h3 hE
  obtain ⟨w0, hw0⟩ : ∃ w0, w0 = w.alloc (.cells #[.int .i64 N, .slice ao m c] 28) := ⟨_, rfl⟩
  have b0 : Below w.heap.size w w0 := by rw [hw0]; exact (Below.refl _ _).alloc (Nat.le_refl _) _
  have x0 : w0.heap[w.heap.size]? = some (.cells #[.int .i64 N, .slice ao m c] 28) := by rw [hw0]; exact heap_alloc_new w _
  have n0 := Lib.hid (h.below b0)
  have r0 : w0.cell? ⟨w.heap.size, 0, none⟩ = some (.int .i64 N) := cell_at x0 0
  have r1 : w0.cell? ⟨w.heap.size, 1, none⟩ = some (.slice ao m c) := cell_at x0 1
  have B0 := Lib.hid b0
  have HW := Lib.hid hw0
  clear h b0 x0 hw0
  go_enter Tryz.func74, Tryz.ntmps74
  go_wp2_with fail
  rw [← HW.out]
  clear HW
  go_loopw [20] (fun i wr => ∃ k : Nat, i = .int .i64 k ∧ k ≤ m ∧ Hid (scan (fun i => badE N (E i)) k = 0 ∧ Below w0.heap.size w0 wr)) (fun i _ => m - (intOf i).toNat)
  case atStart => exact ⟨0, rfl, by omega, rfl, Below.refl _ _⟩
  case round =>
    obtain ⟨k, rfl, hk, hrel⟩ := hrel
    have c0 := cell_kept hrel.out.2 r0
    have c1 := cell_kept hrel.out.2 r1
    have zb := szs (cell_lt c0)
    dsimp only at zb
    have B1 := Lib.hid (B0.out.trans (hrel.out.2.mono B0.out.size))
    by_cases hlt : k < m
    · obtain ⟨g, o, rfl, hg, x0, x1, x2⟩ := (n0.out.below hrel.out.2).cells hlt
      have zg := szs hg
      have t1 : (k : Int) < (m : Int) := by omega
      obtain ⟨f, hf⟩ : ∃ f, f = E k := ⟨_, rfl⟩
      rw [← hf] at x0 x1 x2
      have HF := Lib.hid hf
      obtain ⟨f0, f1, f2⟩ := f
      dsimp only at x0 x1 x2
      have C0 := fun w' => node113 N f0 (.slice (some ⟨g, o, none⟩) m c) w' rfl
      have C1 := fun w' => node113 N f1 (.slice (some ⟨g, o, none⟩) m c) w' rfl
      obtain ⟨p0, hp0⟩ : ∃ p, p = nodeB N f0 := ⟨_, rfl⟩
      obtain ⟨p1, hp1⟩ : ∃ p, p = nodeB N f1 := ⟨_, rfl⟩
      rw [← hp0] at C0
      rw [← hp1] at C1
      have HC0 := Lib.hid C0
      have HC1 := Lib.hid C1
      have HP : Hid (badE N (E k) = if p0 = false then 7 else if p1 = false then 7 else if f2 < 1 then 1 else if 1000 < f2 then 1 else 0) := Lib.hid (by rw [← HF.out, hp0, hp1]; rfl)
      have b2 : Below w0.heap.size w0 (wr.alloc (.cells #[.int .i64 f0, .int .i64 f1, .int .i64 f2] 130)) := hrel.out.2.alloc hrel.out.2.size _
      have B2 := Lib.hid b2
      have X2 := Lib.hid (heap_alloc_new wr (.cells #[.int .i64 f0, .int .i64 f1, .int .i64 f2] 130))
      have HZ := Lib.hid hrel.out.2.size
      clear C0 C1 hp0 hp1 b2 hf
      go_wp2_with fail
      refine (HC0.out _).mono ?_
      rintro e w1 ⟨rfl, b1⟩
      have B3 := Lib.hid (B2.out.trans (b1.mono B2.out.size))
      have x3 := (b1.block _ (block_lt X2.out)).trans X2.out
      have d0 := cell_kept B3.out r0
      have d1 := cell_kept B3.out r1
      have d2 : w1.cell? ⟨wr.heap.size, 0, none⟩ = some (.int .i64 f0) := cell_at x3 0
      have d3 : w1.cell? ⟨wr.heap.size, 1, none⟩ = some (.int .i64 f1) := cell_at x3 1
      have d4 : w1.cell? ⟨wr.heap.size, 2, none⟩ = some (.int .i64 f2) := cell_at x3 2
      have zd := szs (block_lt x3)
      have ze := szs (cell_lt d0)
      dsimp only at ze
      have X3 := Lib.hid x3
      clear b1 x3 c0 c1 x0 x1 x2
      cases p0
      · go_wp2_with fail
        go_returns
        exact ⟨by rw [scan_hit hrel.out.1 (by rw [HP.out]; simp) hlt, HP.out]; rfl, B0.out.trans (B3.out.mono B0.out.size)⟩
      · go_wp2_with fail
        refine (HC1.out _).mono ?_
        rintro e w2 ⟨rfl, b1⟩
        have B4 := Lib.hid (B3.out.trans (b1.mono B3.out.size))
        have x4 := (b1.block _ (block_lt X3.out)).trans X3.out
        have e0 := cell_kept B4.out r0
        have e1 := cell_kept B4.out r1
        have e4 : w2.cell? ⟨wr.heap.size, 2, none⟩ = some (.int .i64 f2) := cell_at x4 2
        have ye := szs (cell_lt e0)
        dsimp only at ye
        have yd := szs (block_lt x4)
        clear b1 x4 d0 d1 d2 d3 d4
        cases p1
        · go_wp2_with fail
          go_returns
          exact ⟨by rw [scan_hit hrel.out.1 (by rw [HP.out]; simp) hlt, HP.out]; rfl, B0.out.trans (B4.out.mono B0.out.size)⟩
        · by_cases s1 : f2 < 1
          · go_wp2_with fail
            go_returns
            exact ⟨by rw [scan_hit hrel.out.1 (by rw [HP.out]; simp [s1]) hlt, HP.out]; simp [s1], B0.out.trans (B4.out.mono B0.out.size)⟩
          · have s1' : 1 ≤ f2 := by omega
            by_cases s2 : 1000 < f2
            · have HS := Lib.hid s1
              clear s1
              go_wp2_with fail
              go_returns
              exact ⟨by have s1 := HS.out; rw [scan_hit hrel.out.1 (by rw [HP.out]; simp [s1, s2]) hlt, HP.out]; simp [s1, s2], B0.out.trans (B4.out.mono B0.out.size)⟩
            · have s2' : f2 ≤ 1000 := by omega
              have H0 := Lib.hid (scan_next (f := fun i => badE N (E i)) hrel.out.1 (by show badE N (E k) = 0; rw [HP.out]; simp [s1, s2]))
              clear s1 s2
              go_wp2_with fail
              go_roundw
              case rel => exact ⟨k + 1, by go_num, by omega, H0.out, B4.out⟩
              case measure => simp [intOf]; omega
    · obtain rfl : k = m := by omega
      go_wp2_with fail
      go_returns
      exact ⟨by rw [hrel.out.1]; rfl, B1.out⟩
end Go.Proofs.YtlnfhlmgnppcbaaGreat
namespace Go.Proofs.YtlnfhlmgnppcbaaGreat
open Go.RowKit
set_option linter.unusedVariables false
set_option linter.unusedSimpArgs false
set_option maxRecDepth 8000
end Go.Proofs.YtlnfhlmgnppcbaaGreat
