/- A region that draws its order, as in K4; and a call of the chain may write into blocks that the state owns (an append in place), and read blocks that the region has laid. Plain theorems over any program. -/
import Derived.Test.YtanpefjbmpohdaaK4
namespace Go.Proofs.Ytanpefjbmpohdaa
open Go.RowKit
section
variable {P : Program} {ops : Array Oper} {md : Region.Mode} {σ : Type}

/-- How a region goes: its states; the worlds of each; what holds from a state on for good; which state may follow behind a loud operation, and what that yields; the blocks that are laid, and as what value. -/
structure PlanO (σ : Type) where
  K : σ → World → Prop
  D : σ → World → Prop
  mstep : Nat → σ → σ → Prop
  mval : Nat → σ → Value
  mains : List Nat
  al : List (Nat × (Nat → Value) × Obj)
  /-- Stores into a block that the region has laid: the operation, and the one that laid the block. -/
  st : List (Nat × Nat) := []
  B0 : Nat
  /-- The blocks that the state owns: a call of the chain may write into them. -/
  own : σ → Nat → Prop
  /-- The laid blocks that a call of the chain reads. -/
  uses : Nat → List Nat
def PlanO.kind (p : PlanO σ) (i : Nat) : Nat := if (p.al.map (·.1)).contains i then 1 else if p.mains.contains i then 2 else if (p.st.map (·.1)).contains i then 3 else 0
structure PlanO.Ok (p : PlanO σ) : Prop where
  sub : ∀ s w, p.K s w → p.D s w
  alloc : ∀ s w i val o, (i, val, o) ∈ p.al → p.K s w → p.K s (w.alloc o)
  anti : ∀ i s s' w, p.mstep i s s' → p.D s' w → p.D s w
  size : ∀ s w, p.K s w → p.B0 ≤ w.heap.size
  alone : (p.al.map (·.1)).Nodup
  lone : (p.st.map (·.1)).Nodup
  set : p.st = [] ∨ ∀ s w b o, p.B0 ≤ b → ¬ p.own s b → p.K s w → p.K s (setAt w b o)
  lt : ∀ s w b, p.K s w → p.own s b → b < w.heap.size
def laidO (p : PlanO σ) (s : σ) (Bs : List (Nat × Nat × Obj)) (w : World) : Prop := laid p.B0 Bs w ∧ ∀ x ∈ Bs, ¬ p.own s x.2.1
theorem laidO_perm {p : PlanO σ} {s : σ} {Bs Bs' : List (Nat × Nat × Obj)} (h : Bs.Perm Bs') {w : World} (hl : laidO p s Bs w) : laidO p s Bs' w :=
  ⟨laid_perm h hl.1, fun x hx => hl.2 x (h.mem_iff.2 hx)⟩
theorem laidO_alloc {p : PlanO σ} (hp : p.Ok) {s : σ} {Bs : List (Nat × Nat × Obj)} {w : World} {o : Obj} (i : Nat) (hk : p.K s w) (hl : laidO p s Bs w) : laidO p s ((i, w.heap.size, o) :: Bs) (w.alloc o) := by
  refine ⟨laid_alloc i (hp.size _ _ hk) hl.1, fun x hx => ?_⟩
  rcases List.mem_cons.1 hx with rfl | hx
  · exact fun h => Nat.lt_irrefl _ (hp.lt _ _ _ hk h)
  · exact hl.2 x hx
/-- Blocks from B0 on are as they were, but what the state owns; what it owns was its own or is new. -/
def KeptO (p : PlanO σ) (s s' : σ) (w w' : World) : Prop := w.heap.size ≤ w'.heap.size ∧ (∀ b, p.own s' b → p.own s b ∨ w.heap.size ≤ b) ∧ ∀ b, p.B0 ≤ b → b < w.heap.size → ¬ p.own s b → w'.heap[b]? = w.heap[b]?
theorem laidO_kept {p : PlanO σ} {s s' : σ} {Bs : List (Nat × Nat × Obj)} {w w' : World} (hk : KeptO p s s' w w') (hl : laidO p s Bs w) : laidO p s' Bs w' := by
  have hlt : ∀ x ∈ Bs, x.2.1 < w.heap.size := fun x hx => (Array.getElem?_eq_some_iff.1 (hl.1.2 x hx).2).1
  refine ⟨⟨hl.1.1, fun x hx => ⟨(hl.1.2 x hx).1, ?_⟩⟩, fun x hx h => ?_⟩
  · rw [hk.2.2 x.2.1 (hl.1.2 x hx).1 (hlt x hx) (hl.2 x hx)]; exact (hl.1.2 x hx).2
  · rcases hk.2.1 _ h with h | h
    · exact hl.2 x hx h
    · have := hlt x hx; omega
theorem laidO_set {p : PlanO σ} {s : σ} {Bs : List (Nat × Nat × Obj)} {w : World} {k b : Nat} {o o' : Obj} (hm : (k, b, o) ∈ Bs) (hu : ∀ x ∈ Bs, x.1 = k → x = (k, b, o)) (hl : laidO p s Bs w) : laidO p s (setB Bs k o') (setAt w b o') := by
  refine ⟨laid_set hm hu hl.1, fun x hx => ?_⟩
  obtain ⟨y, hy, rfl⟩ := List.mem_map.1 hx
  split <;> exact hl.2 y hy
/-- What a call of the chain may read of the laid blocks. -/
def usedBy (p : PlanO σ) (i : Nat) (Bs : List (Nat × Nat × Obj)) : List (Nat × Nat × Obj) := Bs.filter fun x => (p.uses i).contains x.1
theorem usedBy_perm {p : PlanO σ} {i : Nat} {Bs Bs' : List (Nat × Nat × Obj)} (h : Bs.Perm Bs') : (usedBy p i Bs).Perm (usedBy p i Bs') := h.filter _
theorem usedBy_cons {p : PlanO σ} {i k b : Nat} {o : Obj} {Bs : List (Nat × Nat × Obj)} (h : k ∉ p.uses i) : usedBy p i ((k, b, o) :: Bs) = usedBy p i Bs := by simp [usedBy, h]
theorem laidO_used {p : PlanO σ} {s : σ} {Bs : List (Nat × Nat × Obj)} {w : World} (i : Nat) (hl : laidO p s Bs w) : ∀ x ∈ usedBy p i Bs, w.heap[x.2.1]? = some x.2.2 ∧ ¬ p.own s x.2.1 ∧ p.B0 ≤ x.2.1 := fun x hx => by
  have hx := (List.mem_filter.1 hx).1
  exact ⟨(hl.1.2 x hx).2, hl.2 x hx, (hl.1.2 x hx).1⟩
def stepUponO (P : Program) (post : Value → World → Prop) : Result Next → Prop
  | .ok (.value v) w' => post v w'
  | .ok .skip w' => post undef w'
  | .ok (.enter f args) w' => Calls P f args w' fun e w'' => ∃ v, e = .returned v ∧ post v w''
  | _ => False
def StepO (P : Program) (p : PlanO σ) (i : Nat) (o : Oper) (a : Act) (s : σ) (Us : List (Nat × Nat × Obj)) : Prop :=
  ∀ w, p.K s w → (∀ x ∈ Us, w.heap[x.2.1]? = some x.2.2 ∧ ¬ p.own s x.2.1 ∧ p.B0 ≤ x.2.1) → stepUponO P (fun v w' => ∃ s', p.mstep i s s' ∧ (o.dst = none ∨ v = p.mval i s') ∧ p.K s' w' ∧ KeptO p s s' w w') ((execOp a.eval o).run P w)

/-- Whatever order is picked from here on. -/
def anyO (P : Program) (md : Region.Mode) (ops : Array Oper) (p : PlanO σ) (L : Array Bool → Act → σ → List (Nat × Nat × Obj) → Prop) : Nat → Array Bool → Act → σ → List (Nat × Nat × Obj) → Prop
  | 0, listed, a, s, Bs => L listed a s Bs
  | f + 1, listed, a, s, Bs => Region.ready md ops listed ≠ [] ∧ ∀ i ∈ Region.ready md ops listed,
    if Region.wanted (ops.getD i default) (yielded ops a.tmps) then
      (p.kind i = 0 ∧ ∃ v, QuietK P (p.D s) (ops.getD i default) a v ∧ anyO P md ops p L f (listed.setIfInBounds i true) (a.put (ops.getD i default).dst v) s Bs) ∨
      (p.kind i = 1 ∧ ∃ val obj, (i, val, obj) ∈ p.al ∧ LaysA P (ops.getD i default) a val obj ∧ ∀ b, (∀ x ∈ Bs, x.2.1 ≠ b) → anyO P md ops p L f (listed.setIfInBounds i true) (a.put (ops.getD i default).dst (val b)) s ((i, b, obj) :: Bs)) ∨
      (p.kind i = 2 ∧ StepO P p i (ops.getD i default) a s (usedBy p i Bs) ∧ ∀ s', p.mstep i s s' → (∃ w, p.K s' w) → anyO P md ops p L f (listed.setIfInBounds i true) (a.put (ops.getD i default).dst (p.mval i s')) s' Bs) ∨
      (p.kind i = 3 ∧ ∃ k b obj obj', (i, k) ∈ p.st ∧ (k, b, obj) ∈ Bs ∧ (∀ x ∈ Bs, x.1 = k → x = (k, b, obj)) ∧ StoresA P (ops.getD i default) a b obj obj' ∧ anyO P md ops p L f (listed.setIfInBounds i true) (a.put (ops.getD i default).dst undef) s (setB Bs k obj'))
    else anyO P md ops p L f (listed.setIfInBounds i true) (a.put (ops.getD i default).dst undef) s Bs

theorem any_of_anyO {p : PlanO σ} (hp : p.Ok) {g : Nat} {L : Array Bool → Act → σ → List (Nat × Nat × Obj) → Prop} {Q' : Exit → Act → World → Prop}
    (hL : ∀ listed a s Bs w, p.K s w → laidO p s Bs w → L listed a s Bs → wpAny P md ops Q' g listed a w) :
    ∀ (f : Nat) (listed : Array Bool) (a : Act) (s : σ) (Bs : List (Nat × Nat × Obj)) (w : World), p.K s w → laidO p s Bs w → anyO P md ops p L f listed a s Bs → wpAny P md ops Q' (f + g) listed a w
  | 0, listed, a, s, Bs, w, hk, hl, h => by rw [Nat.zero_add]; exact hL _ _ _ _ _ hk hl h
  | f + 1, listed, a, s, Bs, w, hk, hl, h => by
    rw [show f + 1 + g = (f + g) + 1 by omega]
    refine ⟨fun h0 => absurd h0 h.1, fun i hi => ?_⟩
    obtain ⟨_, o, h0, _⟩ := mem_ready.1 hi
    have hget : ops.getD i default = o := getD_of h0
    have h1 := h.2 i hi
    rw [hget] at h1
    unfold wpOp
    simp only [h0]
    split at h1
    · rename_i hw
      simp only [hw, if_true]
      refine .inl ?_
      unfold Oper.wp
      rcases h1 with ⟨_, v, hq, hn⟩ | ⟨_, val, obj, hm, hlay, hn⟩ | ⟨_, hst, hn⟩ | ⟨_, k, b, obj, obj', hm, hmb, hu, hst, hn⟩
      · have h3 := hq w (hp.sub _ _ hk)
        generalize (execOp a.eval o).run P w = r at *
        cases r with
        | ok n w' =>
          cases n <;> simp only [valUpon] at h3 <;> simp only [Oper.upon]
          case value u => obtain ⟨rfl, rfl⟩ := h3; exact any_of_anyO hp hL f _ _ _ _ _ hk hl hn
          case skip => obtain ⟨rfl, rfl⟩ := h3; exact any_of_anyO hp hL f _ _ _ _ _ hk hl hn
        | halt x w' => simp only [valUpon] at h3
      · rw [hlay w]
        simp only [Oper.upon]
        exact any_of_anyO hp hL f _ _ _ _ _ (hp.alloc _ _ _ _ _ hm hk) (laidO_alloc hp i hk hl) (hn _ (laid_fresh hl.1))
      · have h3 := hst w hk (laidO_used i hl)
        generalize (execOp a.eval o).run P w = r at *
        cases r with
        | ok n w' =>
          cases n <;> simp only [stepUponO] at h3 <;> simp only [Oper.upon]
          case value u => obtain ⟨s', h4, h5, h6, h7⟩ := h3; rw [put_none_or h5]; exact any_of_anyO hp hL f _ _ _ _ _ h6 (laidO_kept h7 hl) (hn _ h4 ⟨_, h6⟩)
          case skip => obtain ⟨s', h4, h5, h6, h7⟩ := h3; rw [put_none_or h5]; exact any_of_anyO hp hL f _ _ _ _ _ h6 (laidO_kept h7 hl) (hn _ h4 ⟨_, h6⟩)
          case enter fn args =>
            exact h3.mono fun e w'' ⟨v, he, s', h4, h5, h6, h7⟩ => by subst he; dsimp only; rw [put_none_or h5]; exact any_of_anyO hp hL f _ _ _ _ _ h6 (laidO_kept h7 hl) (hn _ h4 ⟨_, h6⟩)
        | halt x w' => simp only [stepUponO] at h3
      · have h3 := hst w (hl.1.2 _ hmb).2
        have hK := (hp.set.resolve_left (by intro e; rw [e] at hm; cases hm)) s w b obj' (hl.1.2 _ hmb).1 (hl.2 _ hmb) hk
        generalize (execOp a.eval o).run P w = r at *
        cases r with
        | ok n w' =>
          cases n <;> simp only [storeUpon] at h3 <;> simp only [Oper.upon]
          case value u => obtain ⟨rfl, rfl⟩ := h3; exact any_of_anyO hp hL f _ _ _ _ _ hK (laidO_set hmb hu hl) hn
          case skip => subst h3; exact any_of_anyO hp hL f _ _ _ _ _ hK (laidO_set hmb hu hl) hn
        | halt x w' => simp only [storeUpon] at h3
    · rename_i hw
      simp only [hw]
      exact any_of_anyO hp hL f _ _ _ _ _ hk hl h1

theorem anyO_perm {p : PlanO σ} {L : Array Bool → Act → σ → List (Nat × Nat × Obj) → Prop} (hL : ∀ listed a s Bs Bs', List.Perm Bs Bs' → L listed a s Bs → L listed a s Bs') :
    ∀ (f : Nat) (listed : Array Bool) (a : Act) (s : σ) (Bs Bs' : List (Nat × Nat × Obj)), List.Perm Bs Bs' → anyO P md ops p L f listed a s Bs → anyO P md ops p L f listed a s Bs'
  | 0, listed, a, s, Bs, Bs', hb, h => hL _ _ _ _ _ hb h
  | f + 1, listed, a, s, Bs, Bs', hb, h => by
    refine ⟨h.1, fun i hi => ?_⟩
    have h1 := h.2 i hi
    split at h1
    · rename_i hw
      rw [if_pos hw]
      rcases h1 with ⟨hk, v, hq, hn⟩ | ⟨hk, val, obj, hm, hlay, hn⟩ | ⟨hk, hst, hn⟩ | ⟨hk, k, b, obj, obj', hm, hmb, hu, hst, hn⟩
      · exact .inl ⟨hk, v, hq, anyO_perm hL f _ _ _ _ _ hb hn⟩
      · exact .inr (.inl ⟨hk, val, obj, hm, hlay, fun b hf => anyO_perm hL f _ _ _ _ _ (hb.cons _) (hn b fun x hx => hf x (hb.mem_iff.1 hx))⟩)
      · exact .inr (.inr (.inl ⟨hk, fun w hkw hx => hst w hkw fun x hx' => hx x ((usedBy_perm hb).mem_iff.1 hx'), fun s' h4 h5 => anyO_perm hL f _ _ _ _ _ hb (hn s' h4 h5)⟩))
      · exact .inr (.inr (.inr ⟨hk, k, b, obj, obj', hm, hb.mem_iff.1 hmb, fun x hx => hu x (hb.mem_iff.2 hx), hst, anyO_perm hL f _ _ _ _ _ (setB_perm hb _ _) hn⟩))
    · rename_i hw
      rw [if_neg hw]
      exact anyO_perm hL f _ _ _ _ _ hb h1

/-- A read may be taken first. -/
theorem quietO_first {p : PlanO σ} (hp : p.Ok) {pre hd tl : List Nat} {i : Nat} {oi : Oper} {v : Value} {L : Array Bool → Act → σ → List (Nat × Nat × Obj) → Prop} (hi : ops[i]? = some oi)
    (hsel : ∀ (j : Nat) (o : Oper) cs b, ops[j]? = some o → o.op ≠ .select cs b)
    (hs : Region.sinkT md ops hd tl = true) (hall : ∀ i, i < ops.size → i ∈ pre ∨ i ∈ hd ∨ i ∈ tl) (hdis : ∀ i ∈ hd, i ∉ tl) (hin : i ∈ hd)
    (hdone : ∀ listed a s Bs, L listed a s Bs → ∀ j ∈ Region.ready md ops listed, j ∈ tl) :
    ∀ (f : Nat) (listed : Array Bool) (a : Act) (s : σ) (Bs : List (Nat × Nat × Obj)), HInv md ops pre tl listed →
      (∀ j oj, ops[j]? = some oj → j ≠ i → listed.getD j true = false → (∀ e ∈ oj.after, Region.binds md e = true → e.on ≠ i) → oi.apart ops oj = true) →
      i ∈ Region.ready md ops listed → ((Region.wanted oi (yielded ops a.tmps) = true ∧ p.kind i = 0 ∧ QuietK P (p.D s) oi a v) ∨ (Region.wanted oi (yielded ops a.tmps) = false ∧ v = undef)) →
      anyO P md ops p L f (listed.setIfInBounds i true) (a.put oi.dst v) s Bs → anyO P md ops p L (f + 1) listed a s Bs := by
  have self : ∀ (f : Nat) (listed : Array Bool) (a : Act) (s : σ) (Bs : List (Nat × Nat × Obj)), ((Region.wanted oi (yielded ops a.tmps) = true ∧ p.kind i = 0 ∧ QuietK P (p.D s) oi a v) ∨ (Region.wanted oi (yielded ops a.tmps) = false ∧ v = undef)) →
      anyO P md ops p L f (listed.setIfInBounds i true) (a.put oi.dst v) s Bs →
      (if Region.wanted (ops.getD i default) (yielded ops a.tmps) then
      (p.kind i = 0 ∧ ∃ v, QuietK P (p.D s) (ops.getD i default) a v ∧ anyO P md ops p L f (listed.setIfInBounds i true) (a.put (ops.getD i default).dst v) s Bs) ∨
      (p.kind i = 1 ∧ ∃ val obj, (i, val, obj) ∈ p.al ∧ LaysA P (ops.getD i default) a val obj ∧ ∀ b, (∀ x ∈ Bs, x.2.1 ≠ b) → anyO P md ops p L f (listed.setIfInBounds i true) (a.put (ops.getD i default).dst (val b)) s ((i, b, obj) :: Bs)) ∨
      (p.kind i = 2 ∧ StepO P p i (ops.getD i default) a s (usedBy p i Bs) ∧ ∀ s', p.mstep i s s' → (∃ w, p.K s' w) → anyO P md ops p L f (listed.setIfInBounds i true) (a.put (ops.getD i default).dst (p.mval i s')) s' Bs) ∨
      (p.kind i = 3 ∧ ∃ k b obj obj', (i, k) ∈ p.st ∧ (k, b, obj) ∈ Bs ∧ (∀ x ∈ Bs, x.1 = k → x = (k, b, obj)) ∧ StoresA P (ops.getD i default) a b obj obj' ∧ anyO P md ops p L f (listed.setIfInBounds i true) (a.put (ops.getD i default).dst undef) s (setB Bs k obj'))
    else anyO P md ops p L f (listed.setIfInBounds i true) (a.put (ops.getD i default).dst undef) s Bs) := by
    intro f listed a s Bs hy H
    rw [getD_of hi]
    rcases hy with ⟨h1, h2, h3⟩ | ⟨h1, h2⟩
    · rw [if_pos h1]; exact .inl ⟨h2, v, h3, H⟩
    · rw [if_neg (by rw [h1]; exact Bool.false_ne_true), ← h2]; exact H
  intro f
  induction f with
  | zero =>
    intro listed a s Bs inv _ hr hy H
    have hun := (mem_ready.1 hr).1
    refine ⟨fun h => (by rw [h] at hr; cases hr), fun j hj => ?_⟩
    have hjn := head_onlyT hs hall inv hin hun j hj
    by_cases hji : j = i
    · subst hji; exact self _ _ _ _ _ hy H
    · exact absurd (hdone _ _ _ _ H j (ready_mono hj hji)) (hdis j hjn)
  | succ f ih =>
    intro listed a s Bs inv hfree hr hy H
    have hun := (mem_ready.1 hr).1
    refine ⟨fun h => (by rw [h] at hr; cases hr), fun j hj => ?_⟩
    have hjn := head_onlyT hs hall inv hin hun j hj
    by_cases hji : j = i
    · subst hji; exact self _ _ _ _ _ hy H
    · have h1 := H.2 j (ready_mono hj hji)
      obtain ⟨hjun, oj, hoj, hall'⟩ := mem_ready.1 hj
      have hget : ops.getD j default = oj := getD_of hoj
      rw [hget] at h1 ⊢
      have hnot : ∀ e ∈ oj.after, Region.binds md e = true → e.on ≠ i := fun e he hb heq => by
        have h1 := hall' e he hb
        rw [heq, getD_both hun] at h1
        cases h1
      have hfree' : ∀ k ok, ops[k]? = some ok → k ≠ i → (listed.setIfInBounds j true).getD k true = false →
          (∀ e ∈ ok.after, Region.binds md e = true → e.on ≠ i) → oi.apart ops ok = true := fun k ok hk hki hun hno => by
        refine hfree k ok hk hki ?_ hno
        by_cases hjk : j = k
        · subst hjk; exact hjun
        · rw [getD_set_ne true hjk] at hun; exact hun
      obtain ⟨g1, g2, g3⟩ := Oper.apart_spec (hfree j oj hoj hji hjun hnot)
      have hexj : execOp (a.put oi.dst v).eval oj = execOp a.eval oj := execOp_put oj (fun cs b => hsel j oj cs b hoj) a oi.dst v g1
      have hwj : Region.wanted oj (yielded ops (a.put oi.dst v).tmps) = Region.wanted oj (yielded ops a.tmps) := wanted_put oj a oi.dst v g1
      have keep : ∀ u s', (p.D s' = p.D s ∨ ∃ k, p.mstep k s s') → ((Region.wanted oi (yielded ops (a.put oj.dst u).tmps) = true ∧ p.kind i = 0 ∧ QuietK P (p.D s') oi (a.put oj.dst u) v) ∨ (Region.wanted oi (yielded ops (a.put oj.dst u).tmps) = false ∧ v = undef)) := by
        intro u s' hss
        rw [wanted_put oi a oj.dst u g3]
        unfold QuietK
        rw [execOp_put oi (fun cs b => hsel i oi cs b hi) a oj.dst u g3]
        rcases hy with ⟨h1, h2, h3⟩ | h
        · refine .inl ⟨h1, h2, fun w hw => h3 w ?_⟩
          rcases hss with h | ⟨k, hk⟩
          · rw [← h]; exact hw
          · exact hp.anti _ _ _ _ hk hw
        · exact .inr h
      have next : ∀ u s' Bs', (p.D s' = p.D s ∨ ∃ k, p.mstep k s s') → anyO P md ops p L f ((listed.setIfInBounds i true).setIfInBounds j true) ((a.put oi.dst v).put oj.dst u) s' Bs' →
          anyO P md ops p L (f + 1) (listed.setIfInBounds j true) (a.put oj.dst u) s' Bs' := fun u s' Bs' hss h => by
        refine ih _ _ _ _ (inv.set hj (hdis j hjn)) hfree' (ready_mono hr (Ne.symm hji)) (keep u s' hss) ?_
        rw [Array.setIfInBounds_comm _ _ hji, ← Act.put_comm a v u g2]
        exact h
      rw [hwj] at h1
      split at h1
      · rename_i hw
        rw [if_pos hw]
        rcases h1 with ⟨hk, u, hq, hn⟩ | ⟨hk, val, obj, hm, hlay, hn⟩ | ⟨hk, hst, hn⟩ | ⟨hk, k, b, obj, obj', hm, hmb, hu, hst, hn⟩
        · exact .inl ⟨hk, u, by unfold QuietK at *; rw [hexj] at hq; exact hq, next _ _ _ (.inl rfl) hn⟩
        · exact .inr (.inl ⟨hk, val, obj, hm, by unfold LaysA at *; rw [hexj] at hlay; exact hlay, fun b hf => next _ _ _ (.inl rfl) (hn b hf)⟩)
        · exact .inr (.inr (.inl ⟨hk, by unfold StepO at *; rw [hexj] at hst; exact hst, fun s' h4 h5 => next _ _ _ (.inr ⟨_, h4⟩) (hn s' h4 h5)⟩))
        · exact .inr (.inr (.inr ⟨hk, k, b, obj, obj', hm, hmb, hu, by unfold StoresA at *; rw [hexj] at hst; exact hst, next _ _ _ (.inl rfl) hn⟩))
      · rename_i hw
        rw [if_neg hw]
        exact next _ _ _ (.inl rfl) h1

/-- A block may be laid first. -/
theorem allocO_first {p : PlanO σ} (hp : p.Ok) {pre hd tl : List Nat} {i : Nat} {oi : Oper} {val : Nat → Value} {obj : Obj} {L : Array Bool → Act → σ → List (Nat × Nat × Obj) → Prop} (hi : ops[i]? = some oi) (hki : p.kind i = 1) (hm : (i, val, obj) ∈ p.al)
    (hLp : ∀ listed a s Bs Bs', List.Perm Bs Bs' → L listed a s Bs → L listed a s Bs') (hwt : ∀ j k, (j, k) ∈ p.st → Region.waitsFor md ops j k = true) (hut : ∀ j k, k ∈ p.uses j → Region.waitsFor md ops j k = true)
    (hsel : ∀ (j : Nat) (o : Oper) cs b, ops[j]? = some o → o.op ≠ .select cs b)
    (hs : Region.sinkT md ops hd tl = true) (hall : ∀ i, i < ops.size → i ∈ pre ∨ i ∈ hd ∨ i ∈ tl) (hdis : ∀ i ∈ hd, i ∉ tl) (hin : i ∈ hd)
    (hdone : ∀ listed a s Bs, L listed a s Bs → ∀ j ∈ Region.ready md ops listed, j ∈ tl) :
    ∀ (f : Nat) (listed : Array Bool) (a : Act) (s : σ) (Bs : List (Nat × Nat × Obj)), HInv md ops pre tl listed → (∃ w, p.K s w) →
      (∀ j oj, ops[j]? = some oj → j ≠ i → listed.getD j true = false → (∀ e ∈ oj.after, Region.binds md e = true → e.on ≠ i) → oi.apart ops oj = true) →
      i ∈ Region.ready md ops listed → Region.wanted oi (yielded ops a.tmps) = true → LaysA P oi a val obj →
      (∀ b, (∀ x ∈ Bs, x.2.1 ≠ b) → anyO P md ops p L f (listed.setIfInBounds i true) (a.put oi.dst (val b)) s ((i, b, obj) :: Bs)) → anyO P md ops p L (f + 1) listed a s Bs := by
  intro f
  induction f with
  | zero =>
    intro listed a s Bs inv _ _ hr hw hlay H
    have hun := (mem_ready.1 hr).1
    refine ⟨fun h => (by rw [h] at hr; cases hr), fun j hj => ?_⟩
    have hjn := head_onlyT hs hall inv hin hun j hj
    by_cases hji : j = i
    · subst hji; rw [getD_of hi, if_pos hw]; exact .inr (.inl ⟨hki, val, obj, hm, hlay, H⟩)
    · obtain ⟨b, hb⟩ := fresh_of Bs
      exact absurd (hdone _ _ _ _ (H b hb) j (ready_mono hj hji)) (hdis j hjn)
  | succ f ih =>
    intro listed a s Bs inv hne hfree hr hw hlay H
    have hun := (mem_ready.1 hr).1
    refine ⟨fun h => (by rw [h] at hr; cases hr), fun j hj => ?_⟩
    have hjn := head_onlyT hs hall inv hin hun j hj
    by_cases hji : j = i
    · subst hji; rw [getD_of hi, if_pos hw]; exact .inr (.inl ⟨hki, val, obj, hm, hlay, H⟩)
    · have h1 := fun b hb => (H b hb).2 j (ready_mono hj hji)
      obtain ⟨hjun, oj, hoj, hall'⟩ := mem_ready.1 hj
      have hget : ops.getD j default = oj := getD_of hoj
      rw [hget] at h1 ⊢
      have hnot : ∀ e ∈ oj.after, Region.binds md e = true → e.on ≠ i := fun e he hb heq => by
        have h1 := hall' e he hb
        rw [heq, getD_both hun] at h1
        cases h1
      have hki' : ∀ k, (j, k) ∈ p.st → k ≠ i := fun k hk hki => by
        obtain ⟨oj', hoj', e, he, hb, hon⟩ := Region.waitsFor_spec (hwt j k hk)
        rw [hoj] at hoj'; cases hoj'
        exact hnot e he hb (hon.trans hki)
      have hus : i ∉ p.uses j := fun hk => by
        obtain ⟨oj', hoj', e, he, hb, hon⟩ := Region.waitsFor_spec (hut j i hk)
        rw [hoj] at hoj'; cases hoj'
        exact hnot e he hb hon
      have hfree' : ∀ k ok, ops[k]? = some ok → k ≠ i → (listed.setIfInBounds j true).getD k true = false →
          (∀ e ∈ ok.after, Region.binds md e = true → e.on ≠ i) → oi.apart ops ok = true := fun k ok hk hki hun hno => by
        refine hfree k ok hk hki ?_ hno
        by_cases hjk : j = k
        · subst hjk; exact hjun
        · rw [getD_set_ne true hjk] at hun; exact hun
      obtain ⟨g1, g2, g3⟩ := Oper.apart_spec (hfree j oj hoj hji hjun hnot)
      have hexj : ∀ b, execOp (a.put oi.dst (val b)).eval oj = execOp a.eval oj := fun b => execOp_put oj (fun cs b => hsel j oj cs b hoj) a oi.dst _ g1
      have hwj : ∀ b, Region.wanted oj (yielded ops (a.put oi.dst (val b)).tmps) = Region.wanted oj (yielded ops a.tmps) := fun b => wanted_put oj a oi.dst _ g1
      have next : ∀ u s' Bs', (∃ w, p.K s' w) → (∀ b, (∀ x ∈ Bs', x.2.1 ≠ b) → anyO P md ops p L f ((listed.setIfInBounds i true).setIfInBounds j true) ((a.put oi.dst (val b)).put oj.dst u) s' ((i, b, obj) :: Bs')) →
          anyO P md ops p L (f + 1) (listed.setIfInBounds j true) (a.put oj.dst u) s' Bs' := fun u s' Bs' hss h => by
        refine ih _ _ _ _ (inv.set hj (hdis j hjn)) hss hfree' (ready_mono hr (Ne.symm hji)) (by rw [wanted_put oi a oj.dst u g3]; exact hw) (by unfold LaysA at *; rw [execOp_put oi (fun cs b => hsel i oi cs b hi) a oj.dst u g3]; exact hlay) fun b hb => ?_
        rw [Array.setIfInBounds_comm _ _ hji, ← Act.put_comm a _ u g2]
        exact h b hb
      obtain ⟨bf, hbf⟩ := fresh_of Bs
      by_cases hwo : Region.wanted oj (yielded ops a.tmps) = true
      · rw [if_pos hwo]
        have h2 := fun b hb => (by have := h1 b hb; rw [hwj, if_pos hwo] at this; exact this :
          (p.kind j = 0 ∧ ∃ v, QuietK P (p.D s) oj (a.put oi.dst (val b)) v ∧ anyO P md ops p L f ((listed.setIfInBounds i true).setIfInBounds j true) ((a.put oi.dst (val b)).put oj.dst v) s ((i, b, obj) :: Bs)) ∨
          (p.kind j = 1 ∧ ∃ val' obj', (j, val', obj') ∈ p.al ∧ LaysA P oj (a.put oi.dst (val b)) val' obj' ∧ ∀ b', (∀ x ∈ (i, b, obj) :: Bs, x.2.1 ≠ b') → anyO P md ops p L f ((listed.setIfInBounds i true).setIfInBounds j true) ((a.put oi.dst (val b)).put oj.dst (val' b')) s ((j, b', obj') :: (i, b, obj) :: Bs)) ∨
          (p.kind j = 2 ∧ StepO P p j oj (a.put oi.dst (val b)) s (usedBy p j ((i, b, obj) :: Bs)) ∧ ∀ s', p.mstep j s s' → (∃ w, p.K s' w) → anyO P md ops p L f ((listed.setIfInBounds i true).setIfInBounds j true) ((a.put oi.dst (val b)).put oj.dst (p.mval j s')) s' ((i, b, obj) :: Bs)) ∨
          (p.kind j = 3 ∧ ∃ k b' o1 o2, (j, k) ∈ p.st ∧ (k, b', o1) ∈ (i, b, obj) :: Bs ∧ (∀ x ∈ (i, b, obj) :: Bs, x.1 = k → x = (k, b', o1)) ∧ StoresA P oj (a.put oi.dst (val b)) b' o1 o2 ∧ anyO P md ops p L f ((listed.setIfInBounds i true).setIfInBounds j true) ((a.put oi.dst (val b)).put oj.dst undef) s (setB ((i, b, obj) :: Bs) k o2)))
        rcases h2 bf hbf with ⟨hk, u, hq, _⟩ | ⟨hk, val', obj', hm', hlay', _⟩ | ⟨hk, hst, _⟩ | ⟨hk, k, b', o1, o2, hm', hmb, hu, hst, _⟩
        · refine .inl ⟨hk, u, by unfold QuietK at *; rw [hexj] at hq; exact hq, next _ _ _ hne fun b hb => ?_⟩
          rcases h2 b hb with ⟨_, u', hq', hn⟩ | ⟨hk', _⟩ | ⟨hk', _⟩ | ⟨hk', _⟩
          · obtain ⟨w, hw⟩ := hne
            have := valUpon_one (by unfold QuietK at hq; rw [hexj] at hq; exact hq w (hp.sub _ _ hw)) (by unfold QuietK at hq'; rw [hexj] at hq'; exact hq' w (hp.sub _ _ hw))
            rw [this]; exact hn
          · rw [hk] at hk'; cases hk'
          · rw [hk] at hk'; cases hk'
          · rw [hk] at hk'; cases hk'
        · refine .inr (.inl ⟨hk, val', obj', hm', by unfold LaysA at *; rw [hexj] at hlay'; exact hlay', fun b' hb' => next _ _ _ hne fun b hb => ?_⟩)
          have hbb : b ≠ b' := fun e => hb (j, b', obj') (by simp) e.symm
          rcases h2 b (fun x hx => hb x (List.mem_cons_of_mem _ hx)) with ⟨hk', _⟩ | ⟨_, val2, obj2, hm2, _, hn⟩ | ⟨hk', _⟩ | ⟨hk', _⟩
          · rw [hk] at hk'; cases hk'
          · have he := alone_eq hp.alone hm' hm2
            cases he
            refine anyO_perm hLp _ _ _ _ _ _ (List.Perm.swap _ _ _) (hn b' fun x hx => ?_)
            rcases List.mem_cons.1 hx with rfl | hx
            · exact hbb
            · exact hb' x hx
          · rw [hk] at hk'; cases hk'
          · rw [hk] at hk'; cases hk'
        · refine .inr (.inr (.inl ⟨hk, by unfold StepO at *; rw [hexj, usedBy_cons hus] at hst; exact hst, fun s' h4 h5 => next _ _ _ h5 fun b hb => ?_⟩))
          rcases h2 b hb with ⟨hk', _⟩ | ⟨hk', _⟩ | ⟨_, _, hn⟩ | ⟨hk', _⟩
          · rw [hk] at hk'; cases hk'
          · rw [hk] at hk'; cases hk'
          · exact hn s' h4 h5
          · rw [hk] at hk'; cases hk'
        · have hki := hki' k hm'
          have down : ∀ b x, x ∈ (i, b, obj) :: Bs → x.1 = k → x ∈ Bs := fun b x hx hxk => by
            rcases List.mem_cons.1 hx with rfl | h
            · exact absurd hxk (Ne.symm hki)
            · exact h
          refine .inr (.inr (.inr ⟨hk, k, b', o1, o2, hm', down _ _ hmb rfl, fun x hx => hu x (List.mem_cons_of_mem _ hx), by unfold StoresA at *; rw [hexj] at hst; exact hst, next _ _ _ hne fun b hb => ?_⟩))
          have hb0 : ∀ x ∈ Bs, x.2.1 ≠ b := fun x hx => by
            have := hb (if x.1 = k then (x.1, x.2.1, o2) else x) (List.mem_map.2 ⟨x, hx, rfl⟩)
            split at this <;> exact this
          rcases h2 b hb0 with ⟨hk', _⟩ | ⟨hk', _⟩ | ⟨hk', _⟩ | ⟨_, k2, b2, o3, o4, hm2, hmb2, hu2, hst2, hn⟩
          · rw [hk] at hk'; cases hk'
          · rw [hk] at hk'; cases hk'
          · rw [hk] at hk'; cases hk'
          · obtain rfl := alone_eq hp.lone hm' hm2
            have e := hu2 (k, b', o1) (List.mem_cons_of_mem _ (down _ _ hmb rfl)) rfl
            cases e
            obtain ⟨w0, _⟩ := hne
            obtain rfl := StoresA.one w0 (by unfold StoresA at hst; rw [hexj] at hst; exact hst) (by unfold StoresA at hst2; rw [hexj] at hst2; exact hst2)
            rw [setB_cons (Ne.symm hki)] at hn
            exact hn
      · rw [if_neg hwo]
        exact next _ _ _ hne fun b hb => by have := h1 b hb; rw [hwj, if_neg hwo] at this; exact this

/-- The head, in an order of one's own. -/
def wpChainO (P : Program) (ops : Array Oper) (p : PlanO σ) (Fin : Act → σ → List (Nat × Nat × Obj) → Prop) : List (Nat × Oper) → Act → σ → List (Nat × Nat × Obj) → Prop
  | [], a, s, Bs => Fin a s Bs
  | (i, o) :: r, a, s, Bs =>
    (Region.wanted o (yielded ops a.tmps) = true ∧
      ((p.kind i = 0 ∧ ∃ v, QuietK P (p.D s) o a v ∧ wpChainO P ops p Fin r (a.put o.dst v) s Bs) ∨
      (p.kind i = 1 ∧ ∃ val obj, (i, val, obj) ∈ p.al ∧ LaysA P o a val obj ∧ ∀ b, (∀ x ∈ Bs, x.2.1 ≠ b) → wpChainO P ops p Fin r (a.put o.dst (val b)) s ((i, b, obj) :: Bs)) ∨
      (p.kind i = 2 ∧ StepO P p i o a s (usedBy p i Bs) ∧ ∀ s', p.mstep i s s' → wpChainO P ops p Fin r (a.put o.dst (p.mval i s')) s' Bs) ∨
      (p.kind i = 3 ∧ ∃ k b obj obj', (i, k) ∈ p.st ∧ (k, b, obj) ∈ Bs ∧ (∀ x ∈ Bs, x.1 = k → x = (k, b, obj)) ∧ StoresA P o a b obj obj' ∧ wpChainO P ops p Fin r (a.put o.dst undef) s (setB Bs k obj')))) ∨
    (Region.wanted o (yielded ops a.tmps) = false ∧ wpChainO P ops p Fin r (a.put o.dst undef) s Bs)

theorem chainO_lex {p : PlanO σ} (hp : p.Ok) {pre hd tl : List Nat} {Fin : Act → σ → List (Nat × Nat × Obj) → Prop} (hFp : ∀ a s Bs Bs', List.Perm Bs Bs' → Fin a s Bs → Fin a s Bs') (hsel : Region.noSelect ops = true) (hs : Region.sinkT md ops hd tl = true)
    (hall : ∀ i, i < ops.size → i ∈ pre ∨ i ∈ hd ∨ i ∈ tl) (hdis : ∀ i ∈ hd, i ∉ tl) (hpt : ∀ t r, tl = t :: r → Region.pureAt ops t = false) (hwt : ∀ j k, (j, k) ∈ p.st → Region.waitsFor md ops j k = true) (hut : ∀ j k, k ∈ p.uses j → Region.waitsFor md ops j k = true) :
    ∀ (r : List Nat) (listed : Array Bool) (a : Act) (s : σ) (Bs : List (Nat × Nat × Obj)), (∀ i ∈ r, i ∈ hd) → HInv md ops pre tl listed → (∃ w, p.K s w) →
    Region.headK md ops p.kind r listed = true → Region.mixL md ops tl (Region.listAll listed r) = true → wpChainO P ops p Fin (r.map fun i => (i, ops.getD i default)) a s Bs →
    anyO P md ops p (fun listed' a' s' Bs' => Region.mixL md ops tl listed' = true ∧ Fin a' s' Bs') r.length listed a s Bs
  | [], listed, a, s, Bs, _, _, _, _, hB, h => ⟨hB, h⟩
  | k :: r, listed, a, s, Bs, hmem, inv, hne, hF, hB, h => by
    simp only [Region.headK, Bool.and_eq_true] at hF
    obtain ⟨⟨hr, hf⟩, hF'⟩ := hF
    have hr' : k ∈ Region.ready md ops listed := by
      split at hr
      · simp only [decide_eq_true_eq] at hr; rw [hr]; simp
      · simpa using hr
    obtain ⟨_, o, h0, _⟩ := mem_ready.1 hr'
    have hget : ops.getD k default = o := getD_of h0
    have hkd := hmem k (by simp)
    have hdone : ∀ listed' a' s' Bs', (Region.mixL md ops tl listed' = true ∧ Fin a' s' Bs') → ∀ j ∈ Region.ready md ops listed', j ∈ tl := fun listed' a' s' Bs' hL => by
      cases tl with
      | nil => intro j hj; have h1 := hL.1; simp only [Region.mixL, List.isEmpty_iff] at h1; rw [h1] at hj; cases hj
      | cons t tl => exact tail_done (hpt t tl rfl) hL.1
    have hLp : ∀ listed a s Bs Bs', List.Perm Bs Bs' → (Region.mixL md ops tl listed = true ∧ Fin a s Bs) → (Region.mixL md ops tl listed = true ∧ Fin a s Bs') := fun _ _ _ _ _ hb hL => ⟨hL.1, hFp _ _ _ _ hb hL.2⟩
    have rec' : ∀ a' s' Bs', (∃ w, p.K s' w) → wpChainO P ops p Fin (r.map fun i => (i, ops.getD i default)) a' s' Bs' → anyO P md ops p (fun listed' a' s' Bs' => Region.mixL md ops tl listed' = true ∧ Fin a' s' Bs') r.length (listed.setIfInBounds k true) a' s' Bs' := fun a' s' Bs' hne' h' =>
      chainO_lex hp hFp hsel hs hall hdis hpt hwt hut r _ _ _ _ (fun i hi => hmem i (List.mem_cons_of_mem _ hi)) (inv.set hr' (hdis k hkd)) hne' hF' hB h'
    simp only [List.map_cons, wpChainO, hget] at h
    rcases h with ⟨hw, ⟨hk, v, hq, hn⟩ | ⟨hk, val, obj, hm, hlay, hn⟩ | ⟨hk, hst, hn⟩ | ⟨hk, k', b, obj, obj', hm, hmb, hu, hst, hn⟩⟩ | ⟨hw, hn⟩
    · exact quietO_first hp h0 (Region.noSelect_spec hsel) hs hall hdis hkd hdone r.length listed a s Bs inv (Region.free_spec h0 hf) hr' (.inl ⟨hw, hk, hq⟩) (rec' _ _ _ hne hn)
    · exact allocO_first hp h0 hk hm hLp hwt hut (Region.noSelect_spec hsel) hs hall hdis hkd hdone r.length listed a s Bs inv hne (Region.free_spec h0 hf) hr' hw hlay (fun b hb => rec' _ _ _ hne (hn b hb))
    · rw [if_pos (by omega), decide_eq_true_eq] at hr
      refine ⟨fun h => (by rw [h] at hr'; cases hr'), fun i hi => ?_⟩
      rw [hr] at hi
      obtain rfl : i = k := by simpa using hi
      rw [hget, if_pos hw]
      exact .inr (.inr (.inl ⟨hk, hst, fun s' h4 h5 => rec' _ _ _ h5 (hn s' h4)⟩))
    · rw [if_pos (by omega), decide_eq_true_eq] at hr
      refine ⟨fun h => (by rw [h] at hr'; cases hr'), fun i hi => ?_⟩
      rw [hr] at hi
      obtain rfl : i = k := by simpa using hi
      rw [hget, if_pos hw]
      exact .inr (.inr (.inr ⟨hk, k', b, obj, obj', hm, hmb, hu, hst, rec' _ _ _ hne hn⟩))
    · exact quietO_first hp h0 (Region.noSelect_spec hsel) hs hall hdis hkd hdone r.length listed a s Bs inv (Region.free_spec h0 hf) hr' (.inr ⟨hw, rfl⟩) (rec' _ _ _ hne hn)

/-- THE REGION AS A CHAIN. -/
theorem region_chainO {id : Nat} {Q : Exit → Act → World → Prop} {a : Act} {w : World} {l : List Oper} (p : PlanO σ) (s0 : σ) (pre hd tl : List Nat) (hm : P.follows .mixedOrders = true)
    (hB : Region.chainB2 .any l.toArray p.kind pre hd tl = true) (hW : (p.st.all fun x => Region.waitsFor .any l.toArray x.1 x.2) = true) (hU : ∀ j k, k ∈ p.uses j → Region.waitsFor .any l.toArray j k = true) (hp : p.Ok) (h0 : p.K s0 w.drew)
    (h : wpPure P l.toArray (fun a1 => wpChainO P l.toArray p (fun a2 s Bs => ∀ w', p.K s w' → laidO p s Bs w' → wpList P l.toArray (onlyN Q) (tl.map fun i => l.toArray.getD i default) a2 w') (hd.map fun i => (i, l.toArray.getD i default)) a1 s0 []) (pre.map fun i => l.toArray.getD i default) a) :
    (Code.region id l.toArray true).wp P Q a w := by
  simp only [Region.chainB2, Bool.and_eq_true, decide_eq_true_eq] at hB
  obtain ⟨⟨⟨⟨⟨⟨⟨⟨⟨⟨hsel, hs⟩, hall0⟩, hF1⟩, hF2⟩, hun⟩, hpre⟩, hpt0⟩, hseq⟩, hlen⟩, hdis0⟩ := hB
  have hall : ∀ i, i < l.toArray.size → i ∈ pre ∨ i ∈ hd ∨ i ∈ tl := fun i hi => by
    have := List.all_eq_true.1 hall0 i (List.mem_range.2 hi)
    simpa [or_assoc] using this
  have hpt : ∀ t r, tl = t :: r → Region.pureAt l.toArray t = false := fun t r e => by subst e; simpa using hpt0
  have hdis : ∀ i ∈ hd, i ∉ tl := fun i hi => by have := List.all_eq_true.1 hdis0 i hi; simpa using this
  obtain ⟨hsz, hcl⟩ := freeL_closed (md := .any) pre (Array.replicate l.toArray.size false) (by simp) (fun j oj _ hl => (by rw [getD_replicate_false] at hl; cases hl)) hF1
  have inv0 : HInv .any l.toArray pre tl (Region.listAll (Array.replicate l.toArray.size false) pre) :=
    ⟨hsz, hcl, fun u hu => by have := List.all_eq_true.1 hun u hu; simpa using this, fun u hu => by have := List.all_eq_true.1 hpre u hu; simpa using this⟩
  have key : wpAny P .any l.toArray (onlyN Q) (pre.length + (hd.length + tl.length)) (Array.replicate l.toArray.size false) a w.drew := by
    refine any_of_pure hsel (fun c a w hq => hq) pre _ a _ hF1 h ?_
    intro a1 h1
    have H := chainO_lex (md := .any) hp (fun a s Bs Bs' hb hf w' hk hl => hf w' hk (laidO_perm hb.symm hl)) hsel hs hall hdis hpt (fun j k hjk => List.all_eq_true.1 hW (j, k) hjk) hU hd _ a1 s0 [] (fun _ h => h) inv0 ⟨_, h0⟩ hF2 hseq h1
    exact any_of_anyO (Q' := onlyN Q) hp (fun listed a' s' Bs' w' hk hl hL => any_of_mixL hsel tl listed a' w' hL.1 (hL.2 w' hk hl)) _ _ _ _ _ _ h0 ⟨⟨by simp, fun x hx => by cases hx⟩, fun x hx => by cases hx⟩ H
  rw [hlen] at key
  exact wp_region_any hm (any_only_mono _ _ _ _ key)

/-! One operation of the chain at a time. -/
variable {p : PlanO σ} {Fin : Act → σ → List (Nat × Nat × Obj) → Prop} {a : Act} {s : σ} {Bs : List (Nat × Nat × Obj)} {i : Nat} {o : Oper} {r : List (Nat × Oper)}
theorem wpChainO_nil (h : Fin a s Bs) : wpChainO P ops p Fin [] a s Bs := h
theorem wpChainO_skip (hw : Region.wanted o (yielded ops a.tmps) = false) (h : wpChainO P ops p Fin r (a.put o.dst undef) s Bs) : wpChainO P ops p Fin ((i, o) :: r) a s Bs := .inr ⟨hw, h⟩
theorem wpChainO_quiet {ι : Type} {F : ι → World} (hF : ∀ w, p.D s w → ∃ i, w = F i) (hk : p.kind i = 0) (ht : tameOp a.eval o.op = true) (hw : Region.wanted o (yielded ops a.tmps) = true)
    (h : ∀ K : Act → Prop, (∀ a, wpChainO P ops p Fin r a s Bs → K a) → o.quiet P a (fun w' => ∃ i, w' = F i) K) : wpChainO P ops p Fin ((i, o) :: r) a s Bs := by
  obtain ⟨v, h1, h2⟩ := h _ (fun _ h => h)
  exact .inl ⟨hw, .inl ⟨hk, v, fun w hd => val_of_quiet ht (h1 w (hF w hd)), h2⟩⟩
/-- An operation that yields this value in every world. -/
theorem wpChainO_pure (v : Value) (hk : p.kind i = 0) (hw : Region.wanted o (yielded ops a.tmps) = true) (hr : ∀ w, p.D s w → (execOp a.eval o).run P w = .ok (.value v) w)
    (h : wpChainO P ops p Fin r (a.put o.dst v) s Bs) : wpChainO P ops p Fin ((i, o) :: r) a s Bs := by
  exact .inl ⟨hw, .inl ⟨hk, v, fun w hd => by rw [hr w hd]; exact ⟨rfl, rfl⟩, h⟩⟩
theorem wpChainO_alloc (val : Nat → Value) (obj : Obj) (hk : p.kind i = 1) (hm : (i, val, obj) ∈ p.al) (hw : Region.wanted o (yielded ops a.tmps) = true)
    (hl : ∀ w : World, (execOp a.eval o).run P w = .ok (.value (val w.heap.size)) (w.alloc obj)) (h : ∀ b, (∀ x ∈ Bs, x.2.1 ≠ b) → wpChainO P ops p Fin r (a.put o.dst (val b)) s ((i, b, obj) :: Bs)) : wpChainO P ops p Fin ((i, o) :: r) a s Bs := by
  exact .inl ⟨hw, .inr (.inl ⟨hk, val, obj, hm, hl, h⟩)⟩
/-- A step of the chain, as a walk of its one operation: an append. -/
theorem append_run_value {o : Oper} {a : Act} {w : World} {x1 x2 : Operand} {t : TypeId} (ho : o.op = .call { callee := .builtin .append, args := #[x1, x2], argTypes := #[t, t] }) :
    (∃ v w', (execOp a.eval o).run P w = .ok (.value v) w') ∨ ∃ h w', (execOp a.eval o).run P w = .halt h w' := by
  have h : ∃ f : Sem Value, (execOp a.eval o).run P w = (do pure (.value (← f)) : Sem Next).run P w := ⟨Builtin.append_ #[t, t] o.type #[a.eval x1, a.eval x2], by
    simp [execOp, ho, resolve, invoke, builtin, Result.andThen]⟩
  obtain ⟨f, hf⟩ := h
  rw [hf, Sem.run_bind]
  cases Sem.run P f w with
  | ok v w' => exact .inl ⟨v, w', rfl⟩
  | halt h w' => exact .inr ⟨h, w', rfl⟩
theorem stepO_append {ops : Array Oper} {o : Oper} {a : Act} {w : World} {x1 x2 : Operand} {ty : TypeId} {t : Tmp} {post : Value → World → Prop} (ho : o.op = .call { callee := .builtin .append, args := #[x1, x2], argTypes := #[ty, ty] })
    (hd : o.dst = some t) (ht : t < a.tmps.size) (hw : Region.wanted o (yielded ops a.tmps) = true)
    (h : wpList P ops (fun e a' w' => e = .normal ∧ ∃ v, a'.tmps[t]? = some v ∧ post v w') [o] a w) : stepUponO P post ((execOp a.eval o).run P w) := by
  simp only [wpList, hw, if_true] at h
  rcases h with h | ⟨_, a', w', h, _⟩
  · unfold Oper.wp at h
    rcases append_run_value (P := P) (a := a) (w := w) ho with ⟨v, w', hr⟩ | ⟨x, w', hr⟩
    · rw [hr] at h ⊢
      obtain ⟨_, u, hu, hp⟩ := h
      have : (a.put o.dst v).tmps[t]? = some v := by simp [Act.put, hd, ht]
      rw [this] at hu
      cases hu; exact hp
    · rw [hr] at h
      cases x <;> simp [Oper.upon] at h
  · cases h
theorem wpChainO_main (hk : p.kind i = 2) (hw : Region.wanted o (yielded ops a.tmps) = true) (hs : StepO P p i o a s (usedBy p i Bs))
    (h : ∀ s', p.mstep i s s' → wpChainO P ops p Fin r (a.put o.dst (p.mval i s')) s' Bs) : wpChainO P ops p Fin ((i, o) :: r) a s Bs := .inl ⟨hw, .inr (.inr (.inl ⟨hk, hs, h⟩))⟩
/-- A store into a block that the region has laid. -/
theorem wpChainO_store (k b : Nat) (obj obj' : Obj) (hk : p.kind i = 3) (hm : (i, k) ∈ p.st) (hmb : (k, b, obj) ∈ Bs) (hu : ∀ x ∈ Bs, x.1 = k → x = (k, b, obj)) (hw : Region.wanted o (yielded ops a.tmps) = true)
    (hs : ∀ w : World, w.heap[b]? = some obj → storeUpon w b obj' ((execOp a.eval o).run P w)) (h : wpChainO P ops p Fin r (a.put o.dst undef) s (setB Bs k obj')) : wpChainO P ops p Fin ((i, o) :: r) a s Bs := by
  exact .inl ⟨hw, .inr (.inr (.inr ⟨hk, k, b, obj, obj', hm, hmb, hu, hs, h⟩))⟩

end
end Go.Proofs.Ytanpefjbmpohdaa
