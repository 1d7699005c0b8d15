/- What both searches keep: Dijkstra's queue, and the rounds over all edges. Plain. -/
import Derived.Test.YtlnfhlmgnppcbaaR8G1
import Derived.Test.YtlnfhlmgnppcbaaR8E
namespace Go.Proofs.Ytlnfhlmgnppcbaa
namespace Rd
open QT (T)
set_option linter.unusedVariables false
set_option linter.unusedSimpArgs false
set_option maxRecDepth 8000
variable {g : Gr} {src : Int}
theorem lt_no {x y : T} (h : QT.lt () y x = false) : leL x.secs x.edges y.secs y.edges := by
  simp [QT.lt, QT.ltL] at h; unfold leL; omega
theorem minIx_least {l : List T} {y : T} (hy : y ∈ l) : leL (l.getD (minIx (QT.lt ()) l) default).secs (l.getD (minIx (QT.lt ()) l) default).edges y.secs y.edges := by
  obtain ⟨j, hj, rfl⟩ := List.getElem_of_mem hy
  have h := minTo_least (QT.lt_ord ()) (fun i => l.getD i default) (l.length - 1) j (by omega)
  have e : l.getD j default = l[j] := by simp [List.getD, hj]
  rw [e] at h
  exact lt_no h
theorem mem_erase {l : List T} (h : l ≠ []) {y : T} (hy : y ∈ l) : y = l.getD (minIx (QT.lt ()) l) default ∨ y ∈ l.eraseIdx (minIx (QT.lt ()) l) := by
  have hi := minIx_lt (lt := QT.lt ()) h
  obtain ⟨j, hj, rfl⟩ := List.getElem_of_mem hy
  by_cases e : j = minIx (QT.lt ()) l
  · left; rw [← e]; simp [List.getD, hj]
  · right; exact List.mem_eraseIdx_iff_getElem.2 ⟨j, hj, e, rfl⟩
theorem first_mem {l : List T} (h : l ≠ []) : l.getD (minIx (QT.lt ()) l) default ∈ l := by
  have hi := minIx_lt (lt := QT.lt ()) h
  have e : l.getD (minIx (QT.lt ()) l) default = l[minIx (QT.lt ()) l] := by simp [List.getD, hi]
  rw [e]; exact List.getElem_mem hi
/-- What Dijkstra's search keeps; the edges in ex are still to be looked at. -/
structure Dij (g : Gr) (src : Int) (ex : Nat → Prop) (fd : Int → Bool) (bs be : Int → Int) (l : List T) : Prop where
  hf : ∀ v, fd v = true → Best g src v (bs v) (be v)
  hq : ∀ x ∈ l, Rc g src x.node x.secs x.edges
  hx : ∀ i, i < g.m → ¬ ex i → fd (g.a i) = true → fd (g.b i) = true ∨ (⟨g.b i, bs (g.a i) + g.c i, be (g.a i) + 1⟩ : T) ∈ l
  hs : fd src = true ∨ (⟨src, 0, 0⟩ : T) ∈ l
def noEx : Nat → Prop := fun _ => False
theorem Dij.start (g : Gr) (src : Int) (bs be : Int → Int) : Dij g src noEx (fun _ => false) bs be [⟨src, 0, 0⟩] :=
  ⟨fun v h => by simp at h, fun x hx => by simp at hx; subst hx; exact .nil, fun i _ _ h => by simp at h, .inr (by simp)⟩
theorem Dij.front (o : g.Ok) {fd : Int → Bool} {bs be : Int → Int} {l : List T} (h : Dij g src noEx fd bs be l) {v s k : Int} (hr : Rc g src v s k) : fd v = true ∨ ∃ y ∈ l, leL y.secs y.edges s k := by
  induction hr with
  | nil => rcases h.hs with h | h
           · exact .inl h
           · exact .inr ⟨_, h, leL.refl _ _⟩
  | @snoc s k i h' hi ih =>
    have hc := o.hc i hi
    rcases ih with ih | ⟨y, hy, hl⟩
    · rcases h.hx i hi (fun h => h) ih with h2 | h2
      · exact .inl h2
      · refine .inr ⟨_, h2, ?_⟩
        have := (h.hf _ ih).2 _ _ h'
        unfold leL at *; dsimp only; omega
    · exact .inr ⟨y, hy, by unfold leL at *; omega⟩
theorem Dij.best (o : g.Ok) {fd : Int → Bool} {bs be : Int → Int} {l : List T} (h : Dij g src noEx fd bs be l) {x : T} (hx : x ∈ l) (hmin : ∀ y ∈ l, leL x.secs x.edges y.secs y.edges) (hf : fd x.node = false) : Best g src x.node x.secs x.edges :=
  ⟨h.hq x hx, fun s' k' hr => by
    rcases h.front o hr with h1 | ⟨y, hy, h2⟩
    · rw [hf] at h1; cases h1
    · exact (hmin y hy).trans h2⟩
/-- What was settled before is passed over. -/
theorem Dij.skip {fd : Int → Bool} {bs be : Int → Int} {l : List T} (h : Dij g src noEx fd bs be l) (hl : l ≠ []) (hf : fd (l.getD (minIx (QT.lt ()) l) default).node = true) : Dij g src noEx fd bs be (l.eraseIdx (minIx (QT.lt ()) l)) := by
  refine ⟨h.hf, fun x hx => h.hq x (List.mem_of_mem_eraseIdx hx), fun i hi hn ha => ?_, ?_⟩
  · rcases h.hx i hi hn ha with h1 | h1
    · exact .inl h1
    · rcases mem_erase hl h1 with h2 | h2
      · left; rw [← h2] at hf; exact hf
      · exact .inr h2
  · rcases h.hs with h1 | h1
    · exact .inl h1
    · rcases mem_erase hl h1 with h2 | h2
      · left; rw [← h2] at hf; exact hf
      · exact .inr h2
def upz {α : Type} (f : Int → α) (v : Int) (x : α) : Int → α := fun u => if u = v then x else f u
theorem upz_same {α : Type} (f : Int → α) (v : Int) (x : α) : upz f v x v = x := by simp [upz]
theorem upz_ne {α : Type} {f : Int → α} {u v : Int} {x : α} (h : u ≠ v) : upz f v x u = f u := by simp [upz, h]
/-- A node is settled. -/
theorem Dij.settle (o : g.Ok) {fd : Int → Bool} {bs be : Int → Int} {l : List T} (h : Dij g src noEx fd bs be l) (hl : l ≠ []) {x : T} (ex : x = l.getD (minIx (QT.lt ()) l) default) (hf : fd x.node = false) :
    Dij g src (fun i => g.a i = x.node ∧ 0 ≤ i) (upz fd x.node true) (upz bs x.node x.secs) (upz be x.node x.edges) (l.eraseIdx (minIx (QT.lt ()) l)) := by
  have hb := h.best o (x := x) (by rw [ex]; exact first_mem hl) (fun y hy => by rw [ex]; exact minIx_least hy) hf
  refine ⟨fun v hv => ?_, fun y hy => h.hq y (List.mem_of_mem_eraseIdx hy), fun i hi hn ha => ?_, ?_⟩
  · by_cases e : v = x.node
    · subst e; rw [upz_same, upz_same]; exact hb
    · rw [upz_ne e] at hv; rw [upz_ne e, upz_ne e]; exact h.hf v hv
  · have e : g.a i ≠ x.node := fun e => hn ⟨e, Nat.zero_le _⟩
    rw [upz_ne e] at ha
    rw [upz_ne e, upz_ne e]
    by_cases e2 : g.b i = x.node
    · left; rw [e2, upz_same]
    · rw [upz_ne e2]
      rcases h.hx i hi (fun h => h) ha with h1 | h1
      · exact .inl h1
      · rcases mem_erase hl h1 with h2 | h2
        · rw [← ex] at h2; exact absurd (by rw [← h2]) e2
        · exact .inr h2
  · by_cases e2 : src = x.node
    · left; rw [e2, upz_same]
    · rw [upz_ne e2]
      rcases h.hs with h1 | h1
      · exact .inl h1
      · rcases mem_erase hl h1 with h2 | h2
        · rw [← ex] at h2; exact absurd (by rw [← h2]) e2
        · exact .inr h2
/-- An edge from there to a node that is not settled is pushed. -/
theorem Dij.push {fd : Int → Bool} {bs be : Int → Int} {l : List T} {v : Int} {j : Nat} (h : Dij g src (fun i => g.a i = v ∧ j ≤ i) fd bs be l) (hj : j < g.m) (ha : g.a j = v) (hv : fd v = true) :
    Dij g src (fun i => g.a i = v ∧ j + 1 ≤ i) fd bs be (l ++ [⟨g.b j, bs v + g.c j, be v + 1⟩]) := by
  refine ⟨h.hf, fun x hx => ?_, fun i hi hn hi2 => ?_, ?_⟩
  · rcases List.mem_append.1 hx with hx | hx
    · exact h.hq x hx
    · simp at hx; subst hx; dsimp only; exact Rc.snoc j (by rw [ha]; exact (h.hf v hv).1) hj
  · by_cases e : i = j
    · subst e; right; rw [ha]; simp
    · rcases h.hx i hi (fun h => hn ⟨h.1, by omega⟩) hi2 with h1 | h1
      · exact .inl h1
      · exact .inr (List.mem_append_left _ h1)
  · rcases h.hs with h1 | h1
    · exact .inl h1
    · exact .inr (List.mem_append_left _ h1)
/-- Another edge is passed over. -/
theorem Dij.pass {fd : Int → Bool} {bs be : Int → Int} {l : List T} {v : Int} {j : Nat} (h : Dij g src (fun i => g.a i = v ∧ j ≤ i) fd bs be l) (ha : g.a j ≠ v ∨ fd (g.b j) = true) :
    Dij g src (fun i => g.a i = v ∧ j + 1 ≤ i) fd bs be l := by
  refine ⟨h.hf, h.hq, fun i hi hn hi2 => ?_, h.hs⟩
  by_cases e : i = j
  · subst e
    rcases ha with ha | ha
    · exact h.hx i hi (fun h => ha h.1) hi2
    · exact .inl ha
  · exact h.hx i hi (fun h => hn ⟨h.1, by omega⟩) hi2
theorem Dij.done {fd : Int → Bool} {bs be : Int → Int} {l : List T} {v : Int} (h : Dij g src (fun i => g.a i = v ∧ g.m ≤ i) fd bs be l) : Dij g src noEx fd bs be l :=
  ⟨h.hf, h.hq, fun i hi _ => h.hx i hi (fun h => by omega), h.hs⟩
theorem Dij.last (o : g.Ok) {fd : Int → Bool} {bs be : Int → Int} (h : Dij g src noEx fd bs be []) (v : Int) : (fd v = true ↔ Can g src v) ∧ (Can g src v → bs v = Rd.sec g src v ∧ be v = edg g src v) := by
  have h1 : fd v = true ↔ Can g src v := ⟨fun hv => ⟨_, _, h.hf v hv⟩, fun hc => by
    rcases h.front o hc.best.1 with h1 | ⟨y, hy, _⟩
    · exact h1
    · cases hy⟩
  exact ⟨h1, fun hc => ((h.hf v (h1.2 hc)).unique hc.best)⟩

/-- What the rounds over all edges keep: j edges of round r + 1 have been looked at. -/
structure Bf (g : Gr) (src : Int) (r j : Nat) (sv ev : Int → Int) : Prop where
  h1 : ∀ v : Int, 0 ≤ v → v < g.n → (sv v = 1099511627776 ∧ ev v = 1099511627776) ∨ (Rc g src v (sv v) (ev v) ∧ sv v ≤ 1000 * ((r * g.m + j : Nat) : Int))
  h2 : ∀ v s k, Best g src v s k → k ≤ r → sv v = s ∧ ev v = k
  h3 : ∀ i, i < j → i < g.m → ∀ s k, Best g src (g.a i) s k → k ≤ r → Best g src (g.b i) (s + g.c i) (k + 1) → sv (g.b i) = s + g.c i ∧ ev (g.b i) = k + 1
theorem best_far (o : g.Ok) (hs : 0 ≤ src ∧ src < g.n) (hn : g.n ≤ 64) {v s k : Int} (h : Best g src v s k) : s < 1099511627776 ∧ k < g.n := by
  have := h.few o hs
  have := h.1.nonneg o
  omega
theorem Bf.start (o : g.Ok) (hs : 0 ≤ src ∧ src < g.n) : Bf g src 0 0 (upz (fun _ => 1099511627776) src 0) (upz (fun _ => 1099511627776) src 0) := by
  refine ⟨fun v h0 h1 => ?_, fun v s k h hk => ?_, fun i hi => by omega⟩
  · by_cases e : v = src
    · subst e; right; simp only [upz_same]; exact ⟨.nil, by omega⟩
    · left; simp only [upz_ne e]; exact ⟨trivial, trivial⟩
  · rcases h.before with ⟨rfl, rfl, rfl⟩ | ⟨i, _, _, h'⟩
    · exact ⟨upz_same _ _ _, upz_same _ _ _⟩
    · have := h'.1.nonneg o; omega
theorem Bf.round {r : Nat} {sv ev : Int → Int} (h : Bf g src r g.m sv ev) (o : g.Ok) : Bf g src (r + 1) 0 sv ev := by
  refine ⟨fun v h0 h1 => (h.h1 v h0 h1).imp id (fun h => ⟨h.1, by rw [Nat.succ_mul]; exact h.2⟩), fun v s k hb hk => ?_, fun i hi => by omega⟩
  by_cases e : k ≤ r
  · exact h.h2 v s k hb e
  · rcases hb.before with ⟨rfl, rfl, rfl⟩ | ⟨i, hi, rfl, h'⟩
    · omega
    · have e1 : s = s - g.c i + g.c i := by omega
      have e2 : k = k - 1 + 1 := by omega
      have := h.h3 i hi hi _ _ h' (by omega) (by rw [← e1, ← e2]; exact hb)
      omega
theorem Bf.keep {r j : Nat} {sv ev : Int → Int} (h : Bf g src r j sv ev) (o : g.Ok) (hs : 0 ≤ src ∧ src < g.n) (hn : g.n ≤ 64) (hj : j < g.m)
    (hno : sv (g.a j) = 1099511627776 ∨ (sv (g.a j) < 1099511627776 ∧ leL (sv (g.b j)) (ev (g.b j)) (sv (g.a j) + g.c j) (ev (g.a j) + 1))) : Bf g src r (j + 1) sv ev := by
  refine ⟨fun v h0 h1 => (h.h1 v h0 h1).imp id (fun h => ⟨h.1, by have := h.2; omega⟩), h.h2, fun i hi him s k hb hk hb2 => ?_⟩
  by_cases e : i = j
  · subst e
    have e1 := h.h2 _ _ _ hb hk
    have hf := best_far o hs hn hb
    rcases hno with h0 | ⟨_, hle⟩
    · omega
    · have hbd := o.hb i him
      rcases h.h1 (g.b i) hbd.1 hbd.2 with ⟨h0, h0'⟩ | ⟨hr, _⟩
      · have := best_far o hs hn hb2; unfold leL at hle; omega
      · have := hb2.2 _ _ hr
        unfold leL at *; omega
  · exact h.h3 i (by omega) him s k hb hk hb2
theorem Bf.better {r j : Nat} {sv ev : Int → Int} (h : Bf g src r j sv ev) (o : g.Ok) (hs : 0 ≤ src ∧ src < g.n) (hn : g.n ≤ 64) (hj : j < g.m)
    (hlt : sv (g.a j) < 1099511627776) (hbe : sv (g.a j) + g.c j < sv (g.b j) ∨ (sv (g.a j) + g.c j = sv (g.b j) ∧ ev (g.a j) + 1 < ev (g.b j))) (hfar : sv (g.b j) ≤ 1099511627776) (hK : r * g.m + j < 100000) :
    Bf g src r (j + 1) (upz sv (g.b j) (sv (g.a j) + g.c j)) (upz ev (g.b j) (ev (g.a j) + 1)) := by
  have had := o.ha j hj
  have hbd := o.hb j hj
  have hra : Rc g src (g.a j) (sv (g.a j)) (ev (g.a j)) := by
    rcases h.h1 _ had.1 had.2 with ⟨h0, _⟩ | ⟨hr, _⟩
    · omega
    · exact hr
  have hrb : Rc g src (g.b j) (sv (g.a j) + g.c j) (ev (g.a j) + 1) := Rc.snoc j hra hj
  have hlt2 : sv (g.a j) + g.c j ≤ 1000 * ((r * g.m + (j + 1) : Nat) : Int) := by
    have hc := o.hc j hj
    rcases h.h1 _ had.1 had.2 with ⟨h0, _⟩ | ⟨hr, h7⟩
    · omega
    · omega
  have hne : ∀ v s k, Best g src v s k → sv v = s ∧ ev v = k → v ≠ g.b j := fun v s k hb he e => by
    subst e
    have := hb.2 _ _ hrb
    unfold leL at this; omega
  refine ⟨fun v h0 h1 => ?_, fun v s k hb hk => ?_, fun i hi him s k hb hk hb2 => ?_⟩
  · by_cases e : v = g.b j
    · subst e; right; rw [upz_same, upz_same]; exact ⟨hrb, hlt2⟩
    · rw [upz_ne e, upz_ne e]; exact (h.h1 v h0 h1).imp id (fun h => ⟨h.1, by have := h.2; omega⟩)
  · have he := h.h2 v s k hb hk
    have e := hne v s k hb he
    rw [upz_ne e, upz_ne e]; exact he
  · by_cases e : i = j
    · subst e
      have e1 := h.h2 _ _ _ hb hk
      rw [upz_same, upz_same, e1.1, e1.2]; exact ⟨rfl, rfl⟩
    · have he := h.h3 i (by omega) him s k hb hk hb2
      have e2 := hne _ _ _ hb2 he
      rw [upz_ne e2, upz_ne e2]; exact he
/-- After as many rounds as there are nodes. -/
theorem Bf.last {sv ev : Int → Int} (h : Bf g src g.n 0 sv ev) (o : g.Ok) (hs : 0 ≤ src ∧ src < g.n) (hn : g.n ≤ 64) {v : Int} (h0 : 0 ≤ v) (h1 : v < g.n) :
    (Can g src v → sv v = Rd.sec g src v ∧ ev v = edg g src v) ∧ (¬ Can g src v → sv v = 1099511627776 ∧ ev v = 1099511627776) := by
  refine ⟨fun hc => ?_, fun hc => ?_⟩
  · have hf := best_far o hs hn hc.best
    exact h.h2 v _ _ hc.best (by omega)
  · rcases h.h1 v h0 h1 with h | ⟨h, _⟩
    · exact h
    · exact absurd (h.best o) hc
end Rd
end Go.Proofs.Ytlnfhlmgnppcbaa
