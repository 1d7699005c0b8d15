/- A region that draws its order, walked in an order of one's own. Plain theorems over any program. -/
import Derived.Test.YtanpefjbmpohdaaK
namespace Go.Proofs.Ytanpefjbmpohdaa
open Go.RowKit
section
variable {P : Program} {ops : Array Oper} {md : Region.Mode} {C : World → Prop}

/-! The same, in an order of one's own: first some operations whose value hangs on no world, then those that are quiet in the class, then the rest in one forced order. -/
def Region.sinkL (md : Region.Mode) (ops : Array Oper) (t : Nat) : List Nat → Bool
  | [] => true
  | i :: r => (r.any (fun j => Region.waitsFor md ops j i) || Region.waitsFor md ops t i) && Region.sinkL md ops t r
/-- Each waits for one ahead of it. -/
def Region.chainW (md : Region.Mode) (ops : Array Oper) : List Nat → List Nat → Bool
  | _, [] => true
  | prev, u :: r => prev.any (fun t => Region.waitsFor md ops u t) && Region.chainW md ops (u :: prev) r
def Region.chainL (md : Region.Mode) (ops : Array Oper) (t : Nat) (tl : List Nat) : Bool := Region.chainW md ops [t] tl
def Region.listAll (listed : Array Bool) : List Nat → Array Bool
  | [] => listed
  | i :: r => Region.listAll (listed.setIfInBounds i true) r
def Region.freeL (md : Region.Mode) (ops : Array Oper) : List Nat → Array Bool → Bool
  | [], _ => true
  | i :: r, listed => (Region.ready md ops listed).contains i && Region.free md ops listed i && Region.freeL md ops r (listed.setIfInBounds i true)
def Region.pureAt (ops : Array Oper) (k : Nat) : Bool :=
  match (ops.getD k default).op with
  | .move _ | .extract .. => true
  | _ => false
/-- The tail: what hangs on no world is taken first where it stands; the rest is forced. -/
def Region.mixL (md : Region.Mode) (ops : Array Oper) : List Nat → Array Bool → Bool
  | [], listed => (Region.ready md ops listed).isEmpty
  | k :: r, listed => (if Region.pureAt ops k then (Region.ready md ops listed).contains k && Region.free md ops listed k else decide (Region.ready md ops listed = [k])) && Region.mixL md ops r (listed.setIfInBounds k true)
def Region.unlisted (listed : Array Bool) (l : List Nat) : Bool := l.all fun t => !listed.getD t true
def Region.orderB (md : Region.Mode) (ops : Array Oper) (pre hd : List Nat) (t : Nat) (tl : List Nat) : Bool :=
  Region.noSelect ops && Region.sinkL md ops t hd && Region.chainL md ops t tl && ((List.range ops.size).all fun i => pre.contains i || hd.contains i || (t :: tl).contains i) &&
  Region.freeL md ops pre (Array.replicate ops.size false) && Region.freeL md ops hd (Region.listAll (Array.replicate ops.size false) pre) &&
  Region.unlisted (Region.listAll (Array.replicate ops.size false) pre) (t :: tl) && (pre.all fun i => (Region.listAll (Array.replicate ops.size false) pre).getD i false) &&
  !Region.pureAt ops t && Region.mixL md ops (t :: tl) (Region.listAll (Region.listAll (Array.replicate ops.size false) pre) hd) && decide (pre.length + (hd.length + (t :: tl).length) = ops.size)

structure HInv (md : Region.Mode) (ops : Array Oper) (pre tl : List Nat) (listed : Array Bool) : Prop where
  size : listed.size = ops.size
  closed : ∀ j oj, ops[j]? = some oj → listed.getD j false = true → ∀ e ∈ oj.after, Region.binds md e = true → listed.getD e.on false = true
  tail : ∀ t ∈ tl, listed.getD t true = false
  pres : ∀ i ∈ pre, listed.getD i false = true

theorem closed_set {listed : Array Bool} {i : Nat} (hc : ∀ j oj, ops[j]? = some oj → listed.getD j false = true → ∀ e ∈ oj.after, Region.binds md e = true → listed.getD e.on false = true)
    (hi : i ∈ Region.ready md ops listed) : ∀ j oj, ops[j]? = some oj → (listed.setIfInBounds i true).getD j false = true → ∀ e ∈ oj.after, Region.binds md e = true → (listed.setIfInBounds i true).getD e.on false = true := by
  intro j oj hj hl e he hb
  obtain ⟨_, oi, hoi, hall⟩ := mem_ready.1 hi
  by_cases hij : i = j
  · subst hij
    have : oj = oi := Option.some.inj (hj.symm.trans hoi)
    subst this
    exact getD_set_true (hall e he hb)
  · rw [getD_set_ne false hij] at hl
    exact getD_set_true (hc j oj hj hl e he hb)

theorem HInv.set {pre tl : List Nat} {i : Nat} {listed : Array Bool} (inv : HInv md ops pre tl listed) (hi : i ∈ Region.ready md ops listed) (hin : i ∉ tl) : HInv md ops pre tl (listed.setIfInBounds i true) :=
  ⟨by simp [inv.size], closed_set inv.closed hi, fun t ht => by
    have hne : i ≠ t := fun e => hin (e ▸ ht)
    rw [getD_set_ne true hne]; exact inv.tail t ht, fun j hj => getD_set_true (inv.pres j hj)⟩

theorem sink_waits {t : Nat} {listed : Array Bool} (hsz : listed.size = ops.size) (hc : ∀ j oj, ops[j]? = some oj → listed.getD j false = true → ∀ e ∈ oj.after, Region.binds md e = true → listed.getD e.on false = true) :
    ∀ (hd : List Nat), Region.sinkL md ops t hd = true → ∀ i ∈ hd, listed.getD i true = false → t ∉ Region.ready md ops listed
  | [], _, i, hi, _ => absurd hi (by simp)
  | k :: r, hs, i, hi, hun => by
    simp only [Region.sinkL, Bool.and_eq_true, Bool.or_eq_true, List.any_eq_true] at hs
    by_cases hr : ∃ j ∈ r, listed.getD j true = false
    · obtain ⟨j, hj, hjun⟩ := hr
      exact sink_waits hsz hc r hs.2 j hj hjun
    · have hik : i = k := by
        rcases List.mem_cons.1 hi with h | h
        · exact h
        · exact absurd ⟨i, h, hun⟩ hr
      subst hik
      intro hready
      rcases hs.1 with ⟨j, hj, hw⟩ | hw
      · obtain ⟨oj, hoj, e, he, hb, hon⟩ := Region.waitsFor_spec hw
        have hlt : j < listed.size := by rw [hsz]; exact (Array.getElem?_eq_some_iff.1 hoj).1
        have hjl : listed.getD j false = true := by
          have h1 : listed.getD j true ≠ false := fun h => hr ⟨j, hj, h⟩
          simp [hlt] at h1 ⊢; exact h1
        have h2 := hc j oj hoj hjl e he hb
        rw [hon, getD_both hun] at h2
        cases h2
      · obtain ⟨ot, hot, e, he, hb, hon⟩ := Region.waitsFor_spec hw
        obtain ⟨_, ot', hot', hall⟩ := mem_ready.1 hready
        have : ot' = ot := Option.some.inj (hot'.symm.trans hot)
        subst this
        have h2 := hall e he hb
        rw [hon, getD_both hun] at h2
        cases h2
theorem chainW_waits {listed : Array Bool} : ∀ (prev tl : List Nat), Region.chainW md ops prev tl = true → (∀ u ∈ prev, listed.getD u true = false) → (∀ u ∈ tl, listed.getD u true = false) → ∀ u ∈ tl, u ∉ Region.ready md ops listed
  | _, [], _, _, _, u, hu => absurd hu (by simp)
  | prev, k :: r, hch, hp, hun, u, hu => by
    simp only [Region.chainW, Bool.and_eq_true, List.any_eq_true] at hch
    rcases List.mem_cons.1 hu with h | h
    · subst h
      intro hready
      obtain ⟨t, ht, hw⟩ := hch.1
      obtain ⟨ot, hot, e, he, hb, hon⟩ := Region.waitsFor_spec hw
      obtain ⟨_, ot', hot', hall⟩ := mem_ready.1 hready
      have : ot' = ot := Option.some.inj (hot'.symm.trans hot)
      subst this
      have h2 := hall e he hb
      rw [hon, getD_both (hp t ht)] at h2
      cases h2
    · refine chainW_waits (k :: prev) r hch.2 (fun x hx => ?_) (fun x hx => hun x (List.mem_cons_of_mem _ hx)) u h
      rcases List.mem_cons.1 hx with rfl | hx
      · exact hun _ (List.mem_cons_self ..)
      · exact hp x hx
theorem chain_waits {listed : Array Bool} (t : Nat) (tl : List Nat) (hch : Region.chainL md ops t tl = true) (hun : ∀ u ∈ t :: tl, listed.getD u true = false) : ∀ u ∈ tl, u ∉ Region.ready md ops listed :=
  chainW_waits [t] tl hch (fun x hx => by simp at hx; subst hx; exact hun _ (List.mem_cons_self ..)) (fun x hx => hun x (List.mem_cons_of_mem _ hx))
/-- Where something of the head stands out, only the head may come up. -/
theorem head_only {pre hd tl : List Nat} {t : Nat} {listed : Array Bool} (hs : Region.sinkL md ops t hd = true) (hch : Region.chainL md ops t tl = true)
    (hall : ∀ i, i < ops.size → i ∈ pre ∨ i ∈ hd ∨ i ∈ t :: tl) (inv : HInv md ops pre (t :: tl) listed) {i : Nat} (hi : i ∈ hd) (hun : listed.getD i true = false) :
    ∀ j ∈ Region.ready md ops listed, j ∈ hd := by
  intro j hj
  obtain ⟨hjun, oj, hoj, _⟩ := mem_ready.1 hj
  rcases hall j (Array.getElem?_eq_some_iff.1 hoj).1 with h | h | h
  · have := inv.pres j h
    rw [getD_both hjun] at this; cases this
  · exact h
  · rcases List.mem_cons.1 h with h | h
    · subst h; exact absurd hj (sink_waits inv.size inv.closed hd hs i hi hun)
    · exact absurd hj (chain_waits t tl hch inv.tail j h)

def anyHeadL (P : Program) (md : Region.Mode) (ops : Array Oper) (C : World → Prop) (hd : List Nat) (L : Array Bool → Act → Prop) : Nat → Array Bool → Act → Prop
  | 0, listed, a => L listed a
  | f + 1, listed, a =>
    Region.ready md ops listed ≠ [] ∧ ∀ i ∈ Region.ready md ops listed, i ∈ hd ∧ qOp P ops C i (anyHeadL P md ops C hd L f (listed.setIfInBounds i true)) a

theorem any_of_headL {hd : List Nat} {g : Nat} {L : Array Bool → Act → Prop} {Q' : Exit → Act → World → Prop}
    (hL : ∀ listed a w, C w → L listed a → wpAny P md ops Q' g listed a w) :
    ∀ (f : Nat) (listed : Array Bool) (a : Act) (w : World), C w → anyHeadL P md ops C hd L f listed a → wpAny P md ops Q' (f + g) listed a w
  | 0, listed, a, w, hw, h => by rw [Nat.zero_add]; exact hL _ _ _ hw h
  | f + 1, listed, a, w, hw, h => by
    rw [show f + 1 + g = (f + g) + 1 by omega]
    exact ⟨fun h0 => absurd h0 h.1, fun i hi => wpOp_of_qOp hw (fun a' w' hw' h' => any_of_headL hL f _ a' w' hw' h') (h.2 i hi).2⟩

theorem headL_first {pre hd tl : List Nat} {t i : Nat} {oi : Oper} {v : Value} {L : Array Bool → Act → Prop} (hi : ops[i]? = some oi)
    (hsel : ∀ (j : Nat) (o : Oper) cs b, ops[j]? = some o → o.op ≠ .select cs b)
    (hs : Region.sinkL md ops t hd = true) (hch : Region.chainL md ops t tl = true) (hall : ∀ i, i < ops.size → i ∈ pre ∨ i ∈ hd ∨ i ∈ t :: tl) (hdis : ∀ i ∈ hd, i ∉ t :: tl) (hin : i ∈ hd)
    (hdone : ∀ listed a, L listed a → ∀ j ∈ Region.ready md ops listed, j ∈ t :: tl) :
    ∀ (f : Nat) (listed : Array Bool) (a : Act), HInv md ops pre (t :: tl) listed →
      (∀ j oj, ops[j]? = some oj → j ≠ i → listed.getD j true = false → (∀ e ∈ oj.after, Region.binds md e = true → e.on ≠ i) → oi.apart ops oj = true) →
      i ∈ Region.ready md ops listed → YieldsIn P ops C oi v a →
      anyHeadL P md ops C hd L f (listed.setIfInBounds i true) (a.put oi.dst v) → anyHeadL P md ops C hd L (f + 1) listed a := by
  intro f
  induction f with
  | zero =>
    intro listed a inv _ hr hy H
    have hun := (mem_ready.1 hr).1
    refine ⟨fun h => (by rw [h] at hr; cases hr), fun j hj => ?_⟩
    have hjn := head_only hs hch hall inv hin hun j hj
    refine ⟨hjn, ?_⟩
    by_cases hji : j = i
    · subst hji; exact hy.qOp hi H
    · exact absurd (hdone _ _ H j (ready_mono hj hji)) (hdis j hjn)
  | succ f ih =>
    intro listed a inv hfree hr hy H
    have hun := (mem_ready.1 hr).1
    refine ⟨fun h => (by rw [h] at hr; cases hr), fun j hj => ?_⟩
    have hjn := head_only hs hch hall inv hin hun j hj
    refine ⟨hjn, ?_⟩
    by_cases hji : j = i
    · subst hji; exact hy.qOp hi H
    · have h1 := (H.2 j (ready_mono hj hji)).2
      obtain ⟨hjun, oj, hoj, hall'⟩ := mem_ready.1 hj
      have hnot : ∀ e ∈ oj.after, Region.binds md e = true → e.on ≠ i := fun e he hb heq => by
        have h1 := hall' e he hb
        rw [heq, getD_both hun] at h1
        cases h1
      have h2 := qOp_put hoj (hfree j oj hoj hji hjun hnot) (fun cs b => hsel i oi cs b hi) (fun cs b => hsel j oj cs b hoj) hy h1
      have hfree' : ∀ k ok, ops[k]? = some ok → k ≠ i → (listed.setIfInBounds j true).getD k true = false →
          (∀ e ∈ ok.after, Region.binds md e = true → e.on ≠ i) → oi.apart ops ok = true := fun k ok hk hki hun hno => by
        refine hfree k ok hk hki ?_ hno
        by_cases hjk : j = k
        · subst hjk; exact hjun
        · rw [getD_set_ne true hjk] at hun; exact hun
      refine qOp_mono (fun a' h3 => ih (listed.setIfInBounds j true) a' (inv.set hj (hdis j hjn)) hfree' (ready_mono hr (Ne.symm hji)) h3.1 ?_) h2
      rw [Array.setIfInBounds_comm _ _ hji]
      exact h3.2

theorem headL_lex {pre hd tl : List Nat} {t : Nat} {Lq : Act → Prop} (hpt : Region.pureAt ops t = false) (hsel : Region.noSelect ops = true) (hs : Region.sinkL md ops t hd = true) (hch : Region.chainL md ops t tl = true)
    (hall : ∀ i, i < ops.size → i ∈ pre ∨ i ∈ hd ∨ i ∈ t :: tl) (hdis : ∀ i ∈ hd, i ∉ t :: tl) :
    ∀ (r : List Nat) (listed : Array Bool) (a : Act), (∀ i ∈ r, i ∈ hd) → HInv md ops pre (t :: tl) listed →
    Region.freeL md ops r listed = true → Region.mixL md ops (t :: tl) (Region.listAll listed r) = true → wpQuiet P ops C Lq (r.map fun i => ops.getD i default) a →
    anyHeadL P md ops C hd (fun listed' a' => Region.mixL md ops (t :: tl) listed' = true ∧ Lq a') r.length listed a
  | [], listed, a, _, _, _, hB, h => ⟨hB, h⟩
  | k :: r, listed, a, hmem, inv, hF, hB, h => by
    simp only [Region.freeL, Bool.and_eq_true] at hF
    obtain ⟨⟨hr, hf⟩, hF'⟩ := hF
    have hr' : k ∈ Region.ready md ops listed := by simpa using hr
    obtain ⟨_, o, h0, _⟩ := mem_ready.1 hr'
    have hget : ops.getD k default = o := by simp [Array.getD_eq_getD_getElem?, h0]
    have hst : qOp P ops C k (wpQuiet P ops C Lq (r.map fun i => ops.getD i default)) a := by
      unfold qOp; simp only [h0]
      simp only [List.map_cons, hget] at h
      exact h
    obtain ⟨v, hy, hK⟩ := yieldsIn_of_qOp h0 hst
    have hkd := hmem k (by simp)
    refine headL_first h0 (Region.noSelect_spec hsel) hs hch hall hdis hkd (fun listed' a' hL j hj => ?_) r.length listed a inv (Region.free_spec h0 hf) hr' hy
      (headL_lex hpt hsel hs hch hall hdis r _ _ (fun i hi => hmem i (List.mem_cons_of_mem _ hi)) (inv.set hr' (hdis k hkd)) hF' hB hK)
    have h1 := hL.1
    simp only [Region.mixL, hpt, Bool.false_eq_true, if_false, Bool.and_eq_true, decide_eq_true_eq] at h1
    rw [h1.1] at hj
    simp at hj; simp [hj]

/-- The normal end alone. -/
def onlyN (Q : Exit → Act → World → Prop) : Exit → Act → World → Prop
  | .normal, a, w => Q .normal a w
  | _, _, _ => False
theorem onlyN_intro {Q : Exit → Act → World → Prop} {a : Act} {w : World} (h : Q .normal a w) : onlyN Q .normal a w := h
theorem pure_wp {Q : Exit → Act → World → Prop} {k : Nat} {o : Oper} {a : Act} {w : World} {K : Act → World → Prop} (hp : Region.pureAt ops k = true) (h0 : ops[k]? = some o) (h : o.wp P a w K (onlyN Q)) :
    ∃ v, (∀ w, (execOp a.eval o).run P w = .ok (.value v) w) ∧ K (a.put o.dst v) w := by
  have hget : ops.getD k default = o := by simp [Array.getD_eq_getD_getElem?, h0]
  unfold Region.pureAt at hp
  rw [hget] at hp
  split at hp
  · rename_i x hx
    have hr : ∀ w, (execOp a.eval o).run P w = .ok (.value (a.eval x)) w := fun w => by unfold execOp; rw [hx]; rfl
    refine ⟨_, hr, ?_⟩
    unfold Oper.wp at h
    rw [hr] at h
    exact h
  · rename_i x ix hx
    have hx' : (execOp a.eval o) = (do pure (.value (← Instr.extract (a.eval x) ix)) : Sem Next) := by unfold execOp; rw [hx]
    unfold Oper.wp at h
    rw [hx'] at h ⊢
    unfold Instr.extract at h ⊢
    cases hv : a.eval x with
    | tuple vs =>
      rw [hv] at h
      dsimp only at h ⊢
      cases hg : vs[ix]? with
      | some v =>
        rw [hg] at h
        exact ⟨v, fun w => rfl, h⟩
      | none => rw [hg] at h; exact False.elim h
    | _ => rw [hv] at h; exact False.elim h
  · cases hp
theorem any_of_mixL {Q : Exit → Act → World → Prop} (hsel : Region.noSelect ops = true) : ∀ (tl : List Nat) (listed : Array Bool) (a : Act) (w : World),
    Region.mixL md ops tl listed = true → wpList P ops (onlyN Q) (tl.map fun i => ops.getD i default) a w → wpAny P md ops (onlyN Q) tl.length listed a w
  | [], _, _, _, hB, h => ⟨by simpa [Region.mixL] using hB, h⟩
  | k :: r, listed, a, w, hB, h => by
    simp only [Region.mixL, Bool.and_eq_true] at hB
    obtain ⟨hB1, hB2⟩ := hB
    have hready : k ∈ Region.ready md ops listed := by
      split at hB1
      · simp only [Bool.and_eq_true] at hB1; simpa using hB1.1
      · simp only [decide_eq_true_eq] at hB1; rw [hB1]; simp
    obtain ⟨_, o, h0, _⟩ := mem_ready.1 hready
    have hget : ops.getD k default = o := by simp [Array.getD_eq_getD_getElem?, h0]
    simp only [List.map_cons, hget] at h
    split at hB1
    · rename_i hp
      simp only [Bool.and_eq_true] at hB1
      have hy : ∃ v, Yields P ops o v a ∧ wpList P ops (onlyN Q) (r.map fun i => ops.getD i default) (a.put o.dst v) w := by
        unfold wpList at h
        split at h
        · rename_i hw
          rcases h with h | ⟨_, hl⟩
          · obtain ⟨v, hv, hk⟩ := pure_wp hp h0 h
            exact ⟨v, .inl ⟨hw, hv⟩, hk⟩
          · exfalso; revert hl; simp [LetsOut, onlyN]
        · rename_i hw
          exact ⟨undef, .inr ⟨by simpa using hw, rfl⟩, h⟩
      obtain ⟨v, hy, hk⟩ := hy
      exact wpAny_first h0 (Region.noSelect_spec hsel) (fun c a w hq => hq) r.length listed a w (Region.free_spec h0 hB1.2) hready hy (any_of_mixL hsel r _ _ w hB2 hk)
    · simp only [decide_eq_true_eq] at hB1
      refine ⟨fun h1 => (by rw [hB1] at h1; cases h1), fun i hi => ?_⟩
      rw [hB1] at hi
      have hik : i = k := by simpa using hi
      subst hik
      have hw : wpOp P ops (onlyN Q) i (wpList P ops (onlyN Q) (r.map fun i => ops.getD i default)) a w := by unfold wpOp; simp only [h0]; exact h
      exact wpOp_mono (fun a' w' h' => any_of_mixL hsel r _ a' w' hB2 h') hw

/-- Operations whose value hangs on no world. -/
def wpPure (P : Program) (ops : Array Oper) (Q : Act → Prop) : List Oper → Act → Prop
  | [], a => Q a
  | o :: rest, a => ∃ v, Yields P ops o v a ∧ wpPure P ops Q rest (a.put o.dst v)
theorem wpPure_nil {Q : Act → Prop} {a : Act} (h : Q a) : wpPure P ops Q [] a := h
theorem wpPure_cons {Q : Act → Prop} {a : Act} {o : Oper} {rest : List Oper} (v : Value) (hg : o.guard = none) (h : ∀ w, (execOp a.eval o).run P w = .ok (.value v) w) (h2 : wpPure P ops Q rest (a.put o.dst v)) : wpPure P ops Q (o :: rest) a :=
  ⟨v, .inl ⟨by simp [Region.wanted, hg], h⟩, h2⟩
theorem any_of_pure {Q' : Exit → Act → World → Prop} {Qp : Act → Prop} {g : Nat} (hsel : Region.noSelect ops = true) (hQ : ∀ c a w, ¬ Q' (.panic c) a w) :
    ∀ (pre : List Nat) (listed : Array Bool) (a : Act) (w : World), Region.freeL md ops pre listed = true → wpPure P ops Qp (pre.map fun i => ops.getD i default) a →
    (∀ a, Qp a → wpAny P md ops Q' g (Region.listAll listed pre) a w) → wpAny P md ops Q' (pre.length + g) listed a w
  | [], listed, a, w, _, h, hL => by simpa [Region.listAll] using hL a h
  | k :: r, listed, a, w, hF, h, hL => by
    simp only [Region.freeL, Bool.and_eq_true] at hF
    obtain ⟨⟨hr, hf⟩, hF'⟩ := hF
    have hr' : k ∈ Region.ready md ops listed := by simpa using hr
    obtain ⟨_, o, h0, _⟩ := mem_ready.1 hr'
    have hget : ops.getD k default = o := by simp [Array.getD_eq_getD_getElem?, h0]
    simp only [List.map_cons, hget, wpPure] at h
    obtain ⟨v, hy, hK⟩ := h
    rw [show (k :: r).length + g = (r.length + g) + 1 by simp; omega]
    exact wpAny_first h0 (Region.noSelect_spec hsel) (fun c a w hq => absurd hq (hQ _ _ _)) (r.length + g) listed a w (Region.free_spec h0 hf) hr' hy
      (any_of_pure hsel hQ r _ _ w hF' hK hL)

theorem freeL_closed : ∀ (pre : List Nat) (listed : Array Bool), listed.size = ops.size → (∀ j oj, ops[j]? = some oj → listed.getD j false = true → ∀ e ∈ oj.after, Region.binds md e = true → listed.getD e.on false = true) →
    Region.freeL md ops pre listed = true → (Region.listAll listed pre).size = ops.size ∧ (∀ j oj, ops[j]? = some oj → (Region.listAll listed pre).getD j false = true → ∀ e ∈ oj.after, Region.binds md e = true → (Region.listAll listed pre).getD e.on false = true)
  | [], listed, hsz, hc, _ => ⟨hsz, hc⟩
  | k :: r, listed, hsz, hc, hF => by
    simp only [Region.freeL, Bool.and_eq_true] at hF
    exact freeL_closed r _ (by simp [hsz]) (closed_set hc (by simpa using hF.1.1)) hF.2

/-- THE REGION IN AN ORDER OF ONE's OWN. -/
theorem region_order {ι : Type} (F : ι → World) {id : Nat} {Q : Exit → Act → World → Prop} {a : Act} {w : World} {l : List Oper} (pre hd : List Nat) (t : Nat) (tl : List Nat) (hm : P.follows .mixedOrders = true)
    (hB : Region.orderB .any l.toArray pre hd t tl = true) (hC : ∃ i, w.drew = F i)
    (h : wpPure P l.toArray (fun a1 => wpQuiet P l.toArray (fun w' => ∃ i, w' = F i) (fun a' => ∀ i, wpList P l.toArray (onlyN Q) ((t :: tl).map fun i => l.toArray.getD i default) a' (F i)) (hd.map fun i => l.toArray.getD i default) a1)
      (pre.map fun i => l.toArray.getD i default) a) : (Code.region id l.toArray true).wp P Q a w := by
  simp only [Region.orderB, Bool.and_eq_true, decide_eq_true_eq] at hB
  obtain ⟨⟨⟨⟨⟨⟨⟨⟨⟨⟨hsel, hs⟩, hch⟩, hall0⟩, hF1⟩, hF2⟩, hun⟩, hpre⟩, hpt0⟩, hseq⟩, hlen⟩ := hB
  have hpt : Region.pureAt l.toArray t = false := by simpa using hpt0
  have hall : ∀ i, i < l.toArray.size → i ∈ pre ∨ i ∈ hd ∨ i ∈ t :: tl := fun i hi => by
    have := List.all_eq_true.1 hall0 i (List.mem_range.2 hi)
    simpa [or_assoc] using this
  obtain ⟨hsz, hcl⟩ := freeL_closed (md := .any) pre (Array.replicate l.toArray.size false) (by simp) (fun j oj _ hl => (by rw [getD_replicate_false] at hl; cases hl)) hF1
  have inv0 : HInv .any l.toArray pre (t :: tl) (Region.listAll (Array.replicate l.toArray.size false) pre) :=
    ⟨hsz, hcl, fun u hu => by have := List.all_eq_true.1 hun u hu; simpa using this, fun u hu => by have := List.all_eq_true.1 hpre u hu; simpa using this⟩
  have hdis : ∀ i ∈ hd, i ∉ t :: tl := by
    -- the tail is unlisted where the head is listed whole
    intro i hi hit
    have h1 : ∀ (r : List Nat) (listed : Array Bool), listed.size = l.toArray.size → i ∈ r → i < l.toArray.size → (Region.listAll listed r).getD i false = true := by
      intro r
      induction r with
      | nil => intro listed _ hm; cases hm
      | cons k r ih =>
        intro listed hsz hm hlt
        simp only [Region.listAll]
        by_cases hr : i ∈ r
        · exact ih _ (by simpa using hsz) hr hlt
        · have hik : i = k := by rcases List.mem_cons.1 hm with h | h; exact h; exact absurd h hr
          subst hik
          have keep : ∀ (r : List Nat) (listed : Array Bool), listed.getD i false = true → (Region.listAll listed r).getD i false = true := by
            intro r
            induction r with
            | nil => intro listed h; exact h
            | cons k r ih => intro listed h; exact ih _ (getD_set_true h)
          exact keep r _ (by simp [hsz]; omega)
    have hilt : i < l.toArray.size := by
      have : ∀ (r : List Nat) (listed : Array Bool), Region.freeL .any l.toArray r listed = true → ∀ i ∈ r, i < l.toArray.size := by
        intro r
        induction r with
        | nil => intro _ _ i hi; cases hi
        | cons k r ih =>
          intro listed hF i hi
          simp only [Region.freeL, Bool.and_eq_true] at hF
          rcases List.mem_cons.1 hi with h | h
          · subst h
            have hr' : i ∈ Region.ready .any l.toArray listed := by simpa using hF.1.1
            obtain ⟨_, o, h0, _⟩ := mem_ready.1 hr'
            exact (Array.getElem?_eq_some_iff.1 h0).1
          · exact ih _ hF.2 i h
      exact this hd _ hF2 i hi
    have h2 := h1 hd _ hsz hi hilt
    -- but the sequence takes it up later
    have h3 : ∀ (r : List Nat) (listed : Array Bool), Region.mixL .any l.toArray r listed = true → i ∈ r → listed.getD i false = false := by
      intro r
      induction r with
      | nil => intro _ _ hm; cases hm
      | cons k r ih =>
        intro listed hB hm
        simp only [Region.mixL, Bool.and_eq_true] at hB
        by_cases hik : i = k
        · subst hik
          have hr' : i ∈ Region.ready .any l.toArray listed := by
            have hB1 := hB.1
            split at hB1
            · simp only [Bool.and_eq_true] at hB1; simpa using hB1.1
            · simp only [decide_eq_true_eq] at hB1; rw [hB1]; simp
          exact getD_both (mem_ready.1 hr').1
        · have hr : i ∈ r := by rcases List.mem_cons.1 hm with h | h; exact absurd h hik; exact h
          have := ih _ hB.2 hr
          rwa [getD_set_ne false (Ne.symm hik)] at this
    rw [h3 _ _ hseq hit] at h2
    cases h2
  let Qn : Exit → Act → World → Prop := onlyN Q
  have key : wpAny P .any l.toArray Qn (pre.length + (hd.length + (t :: tl).length)) (Array.replicate l.toArray.size false) a w.drew := by
    refine any_of_pure (Qp := fun a1 => wpQuiet P l.toArray (fun w' => ∃ i, w' = F i) (fun a' => ∀ i, wpList P l.toArray Qn ((t :: tl).map fun i => l.toArray.getD i default) a' (F i)) (hd.map fun i => l.toArray.getD i default) a1) hsel (fun c a w hq => hq) pre _ a _ hF1 h ?_
    intro a1 h1
    have H := headL_lex (md := .any) (C := fun w' => ∃ i, w' = F i) hpt hsel hs hch hall hdis hd _ a1 (fun _ h => h) inv0 hF2 hseq h1
    exact any_of_headL (C := fun w' => ∃ i, w' = F i) (Q' := Qn) (g := (t :: tl).length) (fun listed a' w' hw' hL => by
      obtain ⟨i, rfl⟩ := hw'
      exact any_of_mixL hsel (t :: tl) listed a' (F i) hL.1 (hL.2 i)) _ _ _ _ hC H
  rw [hlen] at key
  have mono : ∀ (f : Nat) (listed : Array Bool) (a : Act) (w : World), wpAny P .any l.toArray Qn f listed a w → wpAny P .any l.toArray Q f listed a w := by
    have opm : ∀ (i : Nat) (K K' : Act → World → Prop) (a : Act) (w : World), (∀ a w, K a w → K' a w) → wpOp P l.toArray Qn i K a w → wpOp P l.toArray Q i K' a w := by
      intro i K K' a w hk hh
      unfold wpOp at *
      split
      · rename_i hn; simp only [hn] at hh; exact hk _ _ hh
      · rename_i o ho
        simp only [ho] at hh
        split
        · rename_i hw
          simp only [hw, if_true] at hh
          rcases hh with hh | ⟨_, hl⟩
          · refine .inl ?_
            unfold Oper.wp at *
            generalize (execOp a.eval o).run P w = r at *
            cases r with
            | ok n w' =>
              cases n <;> simp only [Oper.upon] at hh ⊢ <;>
                first
                  | exact hk _ _ hh
                  | exact Calls.mono hh (fun e w'' he => by cases e <;> first | exact hk _ _ he | exact absurd he id | exact absurd (he .normal default default) (by simp [Qn, onlyN]) | (exfalso; revert he; simp [LetsOut, Qn, onlyN]) )
                  | exact Rows.mono hh (fun _ _ he => hk _ _ he)
            | halt x w' => cases x <;> simp only [Oper.upon] at hh ⊢ <;> first | exact hh | exact False.elim hh
          · exfalso; revert hl; simp [LetsOut, Qn, onlyN]
        · rename_i hw; simp only [hw] at hh; exact hk _ _ hh
    intro f
    induction f with
    | zero => intro listed a w h; exact h
    | succ f ih => intro listed a w h; exact ⟨h.1, fun i hi => opm i _ _ a w (fun a w => ih _ a w) (h.2 i hi)⟩
  exact wp_region_any hm (mono _ _ _ _ key)
end
end Go.Proofs.Ytanpefjbmpohdaa
