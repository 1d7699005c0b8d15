/- A region that draws its order: its head reads, or calls what leaves all that was there as it was; some blocks are laid at any time beside it; the rest stands in one forced order. Plain theorems over any program. -/
import Derived.Test.YtanpefjbmpohdaaK2
namespace Go.Proofs.Ytanpefjbmpohdaa
open Go.RowKit
section
variable {P : Program} {ops : Array Oper} {md : Region.Mode} {B : World}

def growUpon (P : Program) (w : World) (v : Value) : Result Next → Prop
  | .ok (.value u) w' => w' = w ∧ u = v
  | .ok .skip w' => w' = w ∧ v = undef
  | .ok (.enter f args) w' => w' = w ∧ Calls P f args w (fun e w'' => e = .returned v ∧ Below w.heap.size w w'')
  | _ => False
def growAt (P : Program) (o : Oper) (a : Act) (w : World) (v : Value) : Prop := growUpon P w v ((execOp a.eval o).run P w)
/-- In every world that extends B the operation yields v. -/
def YieldsG (P : Program) (ops : Array Oper) (B : World) (o : Oper) (v : Value) (a : Act) : Prop :=
  (Region.wanted o (yielded ops a.tmps) = true ∧ ∀ w, Below B.heap.size B w → growAt P o a w v) ∨ (Region.wanted o (yielded ops a.tmps) = false ∧ v = undef)
theorem YieldsG.of_same {o : Oper} {v : Value} {a a' : Act} (hy : YieldsG P ops B o v a) (he : execOp a'.eval o = execOp a.eval o)
    (hw : Region.wanted o (yielded ops a'.tmps) = Region.wanted o (yielded ops a.tmps)) : YieldsG P ops B o v a' := by
  unfold YieldsG growAt at *
  rw [he, hw]
  exact hy
def gOp (P : Program) (ops : Array Oper) (B : World) (i : Nat) (K : Act → Prop) (a : Act) : Prop :=
  ∃ o, ops[i]? = some o ∧ ∃ v, YieldsG P ops B o v a ∧ K (a.put o.dst v)
theorem gOp_mono {i : Nat} {K K' : Act → Prop} {a : Act} (h : ∀ a, K a → K' a) (hh : gOp P ops B i K a) : gOp P ops B i K' a :=
  let ⟨o, h0, v, hy, hk⟩ := hh
  ⟨o, h0, v, hy, h _ hk⟩
theorem gOp_put {j : Nat} {oi oj : Oper} {v : Value} (hj : ops[j]? = some oj) (hap : oi.apart ops oj = true)
    (hsi : ∀ cs b, oi.op ≠ .select cs b) (hsj : ∀ cs b, oj.op ≠ .select cs b) {K : Act → Prop} {a : Act}
    (hy : YieldsG P ops B oi v a) (h : gOp P ops B j K (a.put oi.dst v)) :
    gOp P ops B j (fun a' => YieldsG P ops B oi v a' ∧ K (a'.put oi.dst v)) a := by
  obtain ⟨h1, h2, h3⟩ := Oper.apart_spec hap
  obtain ⟨o, h0, u, hu, hk⟩ := h
  have ho : o = oj := Option.some.inj (h0.symm.trans hj)
  subst ho
  refine ⟨o, h0, u, ?_, hy.of_same (execOp_put oi hsi a o.dst u h3) (wanted_put oi a o.dst u h3), by rw [← Act.put_comm a v u h2]; exact hk⟩
  exact hu.of_same (execOp_put o hsj a oi.dst v h1).symm (wanted_put o a oi.dst v h1).symm
/-- The head, in the order of the text. -/
def wpGrow (P : Program) (ops : Array Oper) (B : World) (Q : Act → Prop) : List Oper → Act → Prop
  | [], a => Q a
  | o :: r, a => ∃ v, YieldsG P ops B o v a ∧ wpGrow P ops B Q r (a.put o.dst v)
def ptr (b : Nat) : Value := .pointer (some ⟨b, 0, none⟩)
def anyG (P : Program) (md : Region.Mode) (ops : Array Oper) (B : World) (al : List (Nat × Tmp × Obj)) (hd : List Nat) (L : Array Bool → Act → Prop) : Nat → Array Bool → Act → Prop
  | 0, listed, a => L listed a
  | f + 1, listed, a =>
    Region.ready md ops listed ≠ [] ∧ ∀ i ∈ Region.ready md ops listed, (i ∈ hd ∧ gOp P ops B i (anyG P md ops B al hd L f (listed.setIfInBounds i true)) a) ∨
      (∃ d o, (i, d, o) ∈ al ∧ ∀ b, anyG P md ops B al hd L f (listed.setIfInBounds i true) (a.put (some d) (ptr b)))
/-- What is known of the blocks laid so far. -/
structure GInv (B : World) (al : List (Nat × Tmp × Obj)) (listed : Array Bool) (a : Act) (w : World) : Prop where
  below : Below B.heap.size B w
  wide : ∀ k d o, (k, d, o) ∈ al → d < a.tmps.size
  laid : ∀ k d o, (k, d, o) ∈ al → listed.getD k false = true → ∃ b, a.tmps[d]? = some (ptr b) ∧ B.heap.size ≤ b ∧ w.heap[b]? = some o
  apart : ∀ k d o k' d' o' b b', (k, d, o) ∈ al → (k', d', o') ∈ al → k ≠ k' → listed.getD k false = true → listed.getD k' false = true → a.tmps[d]? = some (ptr b) → a.tmps[d']? = some (ptr b') → b ≠ b'
theorem put_other {a : Act} {dst : Option Tmp} {v : Value} {d : Tmp} (h : dst ≠ some d) : (a.put dst v).tmps[d]? = a.tmps[d]? := by
  cases dst with
  | none => rfl
  | some x =>
    have hne : x ≠ d := fun e => h (e ▸ rfl)
    simp [Act.put, Array.getElem?_setIfInBounds_ne hne]
theorem put_size {a : Act} {dst : Option Tmp} {v : Value} : (a.put dst v).tmps.size = a.tmps.size := by cases dst <;> simp [Act.put]
theorem GInv.head {al : List (Nat × Tmp × Obj)} {listed : Array Bool} {a : Act} {w w' : World} (h : GInv B al listed a w) {i : Nat} {dst : Option Tmp} {v : Value}
    (hi : ∀ k d o, (k, d, o) ∈ al → k ≠ i) (hd : ∀ k d o, (k, d, o) ∈ al → dst ≠ some d) (hb : Below w.heap.size w w') : GInv B al (listed.setIfInBounds i true) (a.put dst v) w' := by
  refine ⟨h.below.trans (hb.mono h.below.size), fun k d o hk => by rw [put_size]; exact h.wide k d o hk, fun k d o hk hl => ?_, fun k d o k' d' o' b b' hk hk' hne hl hl' ht ht' => ?_⟩
  · rw [getD_set_ne false (Ne.symm (hi k d o hk))] at hl
    obtain ⟨b, h1, h2, h3⟩ := h.laid k d o hk hl
    exact ⟨b, by rw [put_other (hd k d o hk)]; exact h1, h2, by rw [hb.block b (Array.getElem?_eq_some_iff.1 h3).1]; exact h3⟩
  · rw [getD_set_ne false (Ne.symm (hi k d o hk))] at hl
    rw [getD_set_ne false (Ne.symm (hi k' d' o' hk'))] at hl'
    rw [put_other (hd k d o hk)] at ht
    rw [put_other (hd k' d' o' hk')] at ht'
    exact h.apart k d o k' d' o' b b' hk hk' hne hl hl' ht ht'
theorem GInv.alloc {al : List (Nat × Tmp × Obj)} {listed : Array Bool} {a : Act} {w : World} (h : GInv B al listed a w) {i : Nat} {d : Tmp} {o : Obj} (hm : (i, d, o) ∈ al)
    (hone : ∀ k d' o', (k, d', o') ∈ al → k = i → d' = d ∧ o' = o) (hdd : ∀ k d' o', (k, d', o') ∈ al → k ≠ i → d' ≠ d) :
    GInv B al (listed.setIfInBounds i true) (a.put (some d) (ptr w.heap.size)) (w.alloc o) := by
  have hself : (a.put (some d) (ptr w.heap.size)).tmps[d]? = some (ptr w.heap.size) := by
    have := h.wide i d o hm
    simp [Act.put, this]
  have hsz := h.below.size
  have old : ∀ k d' o', (k, d', o') ∈ al → k ≠ i → (a.put (some d) (ptr w.heap.size)).tmps[d']? = a.tmps[d']? := fun k d' o' hk hne => put_other (fun e => hdd k d' o' hk hne (Option.some.inj e).symm)
  refine ⟨h.below.alloc hsz o, fun k d' o' hk => by rw [put_size]; exact h.wide k d' o' hk, fun k d' o' hk hl => ?_, fun k d1 o1 k' d2 o2 b b' hk hk' hne hl hl' ht ht' => ?_⟩
  · by_cases hki : k = i
    · obtain ⟨rfl, rfl⟩ := hone k d' o' hk hki
      exact ⟨w.heap.size, hself, hsz, heap_alloc_new w _⟩
    · rw [getD_set_ne false (Ne.symm hki)] at hl
      obtain ⟨b, h1, h2, h3⟩ := h.laid k d' o' hk hl
      exact ⟨b, by rw [old k d' o' hk hki]; exact h1, h2, (Below.heap_alloc w o b (Array.getElem?_eq_some_iff.1 h3).1).trans h3⟩
  · have lt : ∀ k d' o' b, (k, d', o') ∈ al → k ≠ i → (listed.setIfInBounds i true).getD k false = true → (a.put (some d) (ptr w.heap.size)).tmps[d']? = some (ptr b) → b < w.heap.size := by
      intro k d' o' b hk hki hl ht
      rw [getD_set_ne false (Ne.symm hki)] at hl
      obtain ⟨b2, h1, h2, h3⟩ := h.laid k d' o' hk hl
      rw [old k d' o' hk hki, h1] at ht
      simp [ptr] at ht
      subst ht
      exact (Array.getElem?_eq_some_iff.1 h3).1
    by_cases hki : k = i
    · obtain ⟨rfl, rfl⟩ := hone k d1 o1 hk hki
      rw [hself] at ht
      simp [ptr] at ht
      have := lt k' d2 o2 b' hk' (fun e => hne (hki.trans e.symm)) hl' ht'
      omega
    · by_cases hki' : k' = i
      · obtain ⟨rfl, rfl⟩ := hone k' d2 o2 hk' hki'
        rw [hself] at ht'
        simp [ptr] at ht'
        have := lt k d1 o1 b hk hki hl ht
        omega
      · rw [getD_set_ne false (Ne.symm hki)] at hl
        rw [getD_set_ne false (Ne.symm hki')] at hl'
        rw [old k d1 o1 hk hki] at ht
        rw [old k' d2 o2 hk' hki'] at ht'
        exact h.apart k d1 o1 k' d2 o2 b b' hk hk' hne hl hl' ht ht'
/-- Each of these operations lays a block. -/
def LaysAll (P : Program) (ops : Array Oper) (al : List (Nat × Tmp × Obj)) : Prop :=
  ∀ k d o, (k, d, o) ∈ al → ∃ op, ops[k]? = some op ∧ op.dst = some d ∧ op.guard = none ∧ ∀ (a : Act) (w : World), (execOp a.eval op).run P w = .ok (.value (ptr w.heap.size)) (w.alloc o)
def Region.growB (ops : Array Oper) (al : List (Nat × Tmp × Obj)) (hd : List Nat) : Bool :=
  (hd.all fun i => al.all fun x => x.1 != i && (ops.getD i default).dst != some x.2.1)
def aloneB : List (Nat × Tmp × Obj) → Bool
  | [] => true
  | x :: r => (r.all fun y => y.1 != x.1 && y.2.1 != x.2.1) && aloneB r
theorem aloneB_spec : ∀ {al : List (Nat × Tmp × Obj)}, aloneB al = true → ∀ k d o k' d' o', (k, d, o) ∈ al → (k', d', o') ∈ al → (k' = k → d' = d ∧ o' = o) ∧ (k' ≠ k → d' ≠ d)
  | [], _, _, _, _, _, _, _, h, _ => by cases h
  | x :: r, hB, k, d, o, k', d', o', h, h' => by
    simp only [aloneB, Bool.and_eq_true, List.all_eq_true, bne_iff_ne] at hB
    rcases List.mem_cons.1 h with h1 | h1 <;> rcases List.mem_cons.1 h' with h2 | h2
    · rw [← h1] at h2; cases h2; exact ⟨fun _ => ⟨rfl, rfl⟩, fun hne => absurd rfl hne⟩
    · have := hB.1 _ h2; rw [← h1] at this; exact ⟨fun e => absurd e this.1, fun _ => this.2⟩
    · have := hB.1 _ h1; rw [← h2] at this; exact ⟨fun e => absurd e.symm this.1, fun _ e => this.2 e.symm⟩
    · exact aloneB_spec hB.2 k d o k' d' o' h1 h2
theorem any_of_anyG {al : List (Nat × Tmp × Obj)} {hd : List Nat} {g : Nat} {L : Array Bool → Act → Prop} {Q' : Exit → Act → World → Prop} (hal : LaysAll P ops al) (hg : Region.growB ops al hd = true) (halone : aloneB al = true)
    (hL : ∀ listed a w, GInv B al listed a w → L listed a → wpAny P md ops Q' g listed a w) :
    ∀ (f : Nat) (listed : Array Bool) (a : Act) (w : World), GInv B al listed a w → anyG P md ops B al hd L f listed a → wpAny P md ops Q' (f + g) listed a w
  | 0, listed, a, w, hw, h => by rw [Nat.zero_add]; exact hL _ _ _ hw h
  | f + 1, listed, a, w, hw, h => by
    rw [show f + 1 + g = (f + g) + 1 by omega]
    refine ⟨fun h0 => absurd h0 h.1, fun i hi => ?_⟩
    rcases h.2 i hi with ⟨hin, o, h0, v, hy, hk⟩ | ⟨d, o, hm, hk⟩
    · have hget : ops.getD i default = o := by simp [Array.getD_eq_getD_getElem?, h0]
      have hg' := List.all_eq_true.1 hg i hin
      have h1 : ∀ k d o', (k, d, o') ∈ al → k ≠ i := fun k d o' hk => by have := List.all_eq_true.1 hg' _ hk; simp at this; exact this.1
      have h2 : ∀ k d o', (k, d, o') ∈ al → o.dst ≠ some d := fun k d o' hk => by have := List.all_eq_true.1 hg' _ hk; simp only [hget, Bool.and_eq_true, bne_iff_ne] at this; exact this.2
      have go : ∀ w', Below w.heap.size w w' → wpAny P md ops Q' (f + g) (listed.setIfInBounds i true) (a.put o.dst v) w' := fun w' hb => any_of_anyG hal hg halone hL f _ _ w' (hw.head h1 h2 hb) hk
      unfold wpOp
      simp only [h0]
      rcases hy with ⟨hwant, hv⟩ | ⟨hwant, rfl⟩
      · simp only [hwant, if_true]
        refine .inl ?_
        have h3 := hv w hw.below
        unfold growAt at h3
        unfold Oper.wp
        generalize (execOp a.eval o).run P w = r at *
        cases r with
        | ok n w' =>
          cases n <;> simp only [growUpon] at h3 <;> simp only [Oper.upon]
          case value u => obtain ⟨rfl, rfl⟩ := h3; exact go _ (Below.refl _ _)
          case skip => obtain ⟨rfl, rfl⟩ := h3; exact go _ (Below.refl _ _)
          case enter fn args =>
            obtain ⟨rfl, hc⟩ := h3
            exact hc.mono fun e w'' ⟨he, hb⟩ => by subst he; exact go _ hb
        | halt x w' => simp only [growUpon] at h3
      · simp only [hwant, Bool.false_eq_true, if_false]
        exact go _ (Below.refl _ _)
    · obtain ⟨op, h0, hdst, hgd, hrun⟩ := hal i d o hm
      unfold wpOp
      simp only [h0, Region.wanted, hgd, if_true]
      refine .inl ?_
      unfold Oper.wp
      rw [hrun]
      simp only [Oper.upon, hdst]
      exact any_of_anyG hal hg halone hL f _ _ _ (hw.alloc hm (fun k d' o' hk e => (aloneB_spec halone i d o k d' o' hm hk).1 e) (fun k d' o' hk e => (aloneB_spec halone i d o k d' o' hm hk).2 e)) (hk _)

theorem headG_first {al : List (Nat × Tmp × Obj)} {pre hd hq tl : List Nat} {t i : Nat} {oi : Oper} {v : Value} {L : Array Bool → Act → Prop} (hal : LaysAll P ops al) (hi : ops[i]? = some oi)
    (hsel : ∀ (j : Nat) (o : Oper) cs b, ops[j]? = some o → o.op ≠ .select cs b)
    (hs : Region.sinkL md ops t hd = true) (hch : Region.chainL md ops t tl = true) (hall : ∀ i, i < ops.size → i ∈ pre ∨ i ∈ hd ∨ i ∈ t :: tl) (hdis : ∀ i ∈ hd, i ∉ t :: tl) (hin : i ∈ hd) (hinq : i ∈ hq)
    (hdone : ∀ listed a, L listed a → ∀ j ∈ Region.ready md ops listed, j ∈ t :: tl) :
    ∀ (f : Nat) (listed : Array Bool) (a : Act), HInv md ops pre (t :: tl) listed →
      (∀ j oj, ops[j]? = some oj → j ≠ i → listed.getD j true = false → (∀ e ∈ oj.after, Region.binds md e = true → e.on ≠ i) → oi.apart ops oj = true) →
      i ∈ Region.ready md ops listed → YieldsG P ops B oi v a →
      anyG P md ops B al hq L f (listed.setIfInBounds i true) (a.put oi.dst v) → anyG P md ops B al hq L (f + 1) listed a := by
  intro f
  induction f with
  | zero =>
    intro listed a inv _ hr hy H
    have hun := (mem_ready.1 hr).1
    refine ⟨fun h => (by rw [h] at hr; cases hr), fun j hj => ?_⟩
    have hjn := head_only hs hch hall inv hin hun j hj
    by_cases hji : j = i
    · subst hji; exact .inl ⟨hinq, oi, hi, v, hy, H⟩
    · exact absurd (hdone _ _ H j (ready_mono hj hji)) (hdis j hjn)
  | succ f ih =>
    intro listed a inv hfree hr hy H
    have hun := (mem_ready.1 hr).1
    refine ⟨fun h => (by rw [h] at hr; cases hr), fun j hj => ?_⟩
    have hjn := head_only hs hch hall inv hin hun j hj
    by_cases hji : j = i
    · subst hji; exact .inl ⟨hinq, oi, hi, v, hy, H⟩
    · have h1 := H.2 j (ready_mono hj hji)
      obtain ⟨hjun, oj, hoj, hall'⟩ := mem_ready.1 hj
      have hnot : ∀ e ∈ oj.after, Region.binds md e = true → e.on ≠ i := fun e he hb heq => by
        have h1 := hall' e he hb
        rw [heq, getD_both hun] at h1
        cases h1
      have hfree' : ∀ k ok, ops[k]? = some ok → k ≠ i → (listed.setIfInBounds j true).getD k true = false →
          (∀ e ∈ ok.after, Region.binds md e = true → e.on ≠ i) → oi.apart ops ok = true := fun k ok hk hki hun hno => by
        refine hfree k ok hk hki ?_ hno
        by_cases hjk : j = k
        · subst hjk; exact hjun
        · rw [getD_set_ne true hjk] at hun; exact hun
      have hap := hfree j oj hoj hji hjun hnot
      rcases h1 with ⟨hjq, h1⟩ | ⟨d, o, hm, h1⟩
      · have h2 := gOp_put hoj hap (fun cs b => hsel i oi cs b hi) (fun cs b => hsel j oj cs b hoj) hy h1
        refine .inl ⟨hjq, gOp_mono (fun a' h3 => ih (listed.setIfInBounds j true) a' (inv.set hj (hdis j hjn)) hfree' (ready_mono hr (Ne.symm hji)) h3.1 ?_) h2⟩
        rw [Array.setIfInBounds_comm _ _ hji]
        exact h3.2
      · obtain ⟨op, h0, hdst, _, _⟩ := hal j d o hm
        have hop : op = oj := Option.some.inj (h0.symm.trans hoj)
        subst hop
        obtain ⟨g1, g2, g3⟩ := Oper.apart_spec hap
        refine .inr ⟨d, o, hm, fun b => ih (listed.setIfInBounds j true) _ (inv.set hj (hdis j hjn)) hfree' (ready_mono hr (Ne.symm hji)) ?_ ?_⟩
        · rw [← hdst]
          exact hy.of_same (execOp_put oi (fun cs b => hsel i oi cs b hi) a op.dst _ g3) (wanted_put oi a op.dst _ g3)
        · rw [Array.setIfInBounds_comm _ _ hji]
          have := h1 b
          rw [← hdst] at this ⊢
          rw [← Act.put_comm a v _ g2]
          exact this
theorem allocG_first {al : List (Nat × Tmp × Obj)} {pre hd hq tl : List Nat} {t i : Nat} {d : Tmp} {ob : Obj} {L : Array Bool → Act → Prop} (halone : aloneB al = true) (hm : (i, d, ob) ∈ al)
    (hs : Region.sinkL md ops t hd = true) (hch : Region.chainL md ops t tl = true) (hall : ∀ i, i < ops.size → i ∈ pre ∨ i ∈ hd ∨ i ∈ t :: tl) (hdis : ∀ i ∈ hd, i ∉ t :: tl) (hin : i ∈ hd)
    (hdone : ∀ listed a, L listed a → ∀ j ∈ Region.ready md ops listed, j ∈ t :: tl) :
    ∀ (f : Nat) (listed : Array Bool) (a : Act), HInv md ops pre (t :: tl) listed → (∀ k ∈ hq, listed.getD k false = true) →
      i ∈ Region.ready md ops listed →
      (∀ b, anyG P md ops B al hq L f (listed.setIfInBounds i true) (a.put (some d) (ptr b))) → anyG P md ops B al hq L (f + 1) listed a := by
  intro f
  induction f with
  | zero =>
    intro listed a inv _ hr H
    have hun := (mem_ready.1 hr).1
    refine ⟨fun h => (by rw [h] at hr; cases hr), fun j hj => ?_⟩
    have hjn := head_only hs hch hall inv hin hun j hj
    by_cases hji : j = i
    · subst hji; exact .inr ⟨d, ob, hm, H⟩
    · exact absurd (hdone _ _ (H 0) j (ready_mono hj hji)) (hdis j hjn)
  | succ f ih =>
    intro listed a inv hqs hr H
    have hun := (mem_ready.1 hr).1
    refine ⟨fun h => (by rw [h] at hr; cases hr), fun j hj => ?_⟩
    have hjn := head_only hs hch hall inv hin hun j hj
    by_cases hji : j = i
    · subst hji; exact .inr ⟨d, ob, hm, H⟩
    · have hjun := (mem_ready.1 hj).1
      rcases (H 0).2 j (ready_mono hj hji) with ⟨hjq, _⟩ | ⟨d', o', hm', _⟩
      · have := hqs j hjq; rw [getD_both hjun] at this; cases this
      · have hdd : d' ≠ d := (aloneB_spec halone i d ob j d' o' hm hm').2 hji
        refine .inr ⟨d', o', hm', fun b' => ih (listed.setIfInBounds j true) _ (inv.set hj (hdis j hjn)) (fun k hk => getD_set_true (hqs k hk)) (ready_mono hr (Ne.symm hji)) fun b => ?_⟩
        rcases (H b).2 j (ready_mono hj hji) with ⟨hjq, _⟩ | ⟨d2, o2, hm2, h1⟩
        · have := hqs j hjq; rw [getD_both hjun] at this; cases this
        · obtain ⟨rfl, rfl⟩ := (aloneB_spec halone j d' o' j d2 o2 hm' hm2).1 rfl
          rw [Array.setIfInBounds_comm _ _ hji, Act.put_comm a _ _ (by simpa using Ne.symm hdd)]
          exact h1 b'
def allQ (Lq : Act → Prop) : List (Nat × Tmp × Obj) → Act → Prop
  | [], a => Lq a
  | (_, d, _) :: r, a => ∀ b, allQ Lq r (a.put (some d) (ptr b))
theorem listAll_keep {k : Nat} : ∀ (r : List Nat) (listed : Array Bool), listed.getD k false = true → (Region.listAll listed r).getD k false = true
  | [], _, h => h
  | _ :: r, _, h => listAll_keep r _ (getD_set_true h)
theorem tail_done {t : Nat} {tl : List Nat} (hpt : Region.pureAt ops t = false) {listed : Array Bool} (h1 : Region.mixL md ops (t :: tl) listed = true) : ∀ j ∈ Region.ready md ops listed, j ∈ t :: tl := by
  intro j hj
  simp only [Region.mixL, hpt, Bool.false_eq_true, if_false, Bool.and_eq_true, decide_eq_true_eq] at h1
  rw [h1.1] at hj
  simp at hj; simp [hj]
theorem allG_lex {al : List (Nat × Tmp × Obj)} {pre hd hq tl : List Nat} {t : Nat} {Lq : Act → Prop} (halone : aloneB al = true) (hpt : Region.pureAt ops t = false) (hs : Region.sinkL md ops t hd = true) (hch : Region.chainL md ops t tl = true)
    (hall : ∀ i, i < ops.size → i ∈ pre ∨ i ∈ hd ∨ i ∈ t :: tl) (hdis : ∀ i ∈ hd, i ∉ t :: tl) (halh : ∀ k d o, (k, d, o) ∈ al → k ∈ hd) :
    ∀ (r : List (Nat × Tmp × Obj)) (listed : Array Bool) (a : Act), (∀ x ∈ r, x ∈ al) → (∀ x ∈ al, x ∈ r ∨ listed.getD x.1 false = true) → (∀ k ∈ hq, listed.getD k false = true) → HInv md ops pre (t :: tl) listed →
    Region.freeL md ops (r.map (·.1)) listed = true → Region.mixL md ops (t :: tl) (Region.listAll listed (r.map (·.1))) = true → allQ Lq r a →
    anyG P md ops B al hq (fun listed' a' => Region.mixL md ops (t :: tl) listed' = true ∧ (∀ x ∈ al, listed'.getD x.1 false = true) ∧ Lq a') r.length listed a
  | [], listed, a, _, hcov, _, _, _, hB, h => ⟨hB, fun x hx => (hcov x hx).resolve_left (by simp), h⟩
  | (k, d, o) :: r, listed, a, hmem, hcov, hqs, inv, hF, hB, h => by
    simp only [List.map_cons, Region.freeL, Bool.and_eq_true] at hF
    obtain ⟨⟨hr, _⟩, hF'⟩ := hF
    have hr' : k ∈ Region.ready md ops listed := by simpa using hr
    have hm := hmem _ (List.mem_cons_self ..)
    have hkd := halh k d o hm
    refine allocG_first halone hm hs hch hall hdis hkd (fun listed' a' hL => tail_done hpt hL.1) r.length listed a inv hqs hr' fun b => ?_
    refine allG_lex halone hpt hs hch hall hdis halh r _ _ (fun x hx => hmem x (List.mem_cons_of_mem _ hx)) (fun x hx => ?_) (fun j hj => getD_set_true (hqs j hj)) (inv.set hr' (hdis k hkd)) hF' hB (h b)
    rcases hcov x hx with h1 | h1
    · rcases List.mem_cons.1 h1 with h2 | h2
      · right; subst h2
        have hlt : k < listed.size := by rw [inv.size]; obtain ⟨_, o, h0, _⟩ := mem_ready.1 hr'; exact (Array.getElem?_eq_some_iff.1 h0).1
        simp [hlt]
      · exact .inl h2
    · exact .inr (getD_set_true h1)
theorem headG_lex {al : List (Nat × Tmp × Obj)} {pre hd hq tl : List Nat} {t : Nat} {Lq : Act → Prop} (hal : LaysAll P ops al) (halone : aloneB al = true) (hpt : Region.pureAt ops t = false) (hsel : Region.noSelect ops = true) (hs : Region.sinkL md ops t hd = true) (hch : Region.chainL md ops t tl = true)
    (hall : ∀ i, i < ops.size → i ∈ pre ∨ i ∈ hd ∨ i ∈ t :: tl) (hdis : ∀ i ∈ hd, i ∉ t :: tl) (halh : ∀ k d o, (k, d, o) ∈ al → k ∈ hd) (hqh : ∀ k ∈ hq, k ∈ hd) :
    ∀ (r : List Nat) (listed : Array Bool) (a : Act), (∀ i ∈ r, i ∈ hq) → (∀ i ∈ hq, i ∈ r ∨ listed.getD i false = true) → HInv md ops pre (t :: tl) listed →
    Region.freeL md ops r listed = true → Region.freeL md ops (al.map (·.1)) (Region.listAll listed r) = true → Region.mixL md ops (t :: tl) (Region.listAll (Region.listAll listed r) (al.map (·.1))) = true →
    wpGrow P ops B (allQ Lq al) (r.map fun i => ops.getD i default) a →
    anyG P md ops B al hq (fun listed' a' => Region.mixL md ops (t :: tl) listed' = true ∧ (∀ x ∈ al, listed'.getD x.1 false = true) ∧ Lq a') (r.length + al.length) listed a
  | [], listed, a, _, hcov, inv, _, hF, hB, h => by
    rw [List.length_nil, Nat.zero_add]
    exact allG_lex halone hpt hs hch hall hdis halh al listed a (fun _ h => h) (fun x hx => .inl hx) (fun k hk => (hcov k hk).resolve_left (by simp)) inv hF hB h
  | k :: r, listed, a, hmem, hcov, inv, hF, hFa, hB, h => by
    simp only [Region.freeL, Bool.and_eq_true] at hF
    obtain ⟨⟨hr, hf⟩, hF'⟩ := hF
    have hr' : k ∈ Region.ready md ops listed := by simpa using hr
    obtain ⟨_, o, h0, _⟩ := mem_ready.1 hr'
    have hget : ops.getD k default = o := by simp [Array.getD_eq_getD_getElem?, h0]
    simp only [List.map_cons, hget, wpGrow] at h
    obtain ⟨v, hy, hK⟩ := h
    have hkq := hmem k (by simp)
    have hkd := hqh k hkq
    rw [show (k :: r).length + al.length = (r.length + al.length) + 1 by simp; omega]
    refine headG_first hal h0 (Region.noSelect_spec hsel) hs hch hall hdis hkd hkq (fun listed' a' hL => tail_done hpt hL.1) (r.length + al.length) listed a inv (Region.free_spec h0 hf) hr' hy
      (headG_lex hal halone hpt hsel hs hch hall hdis halh hqh r _ _ (fun i hi => hmem i (List.mem_cons_of_mem _ hi)) (fun i hi => ?_) (inv.set hr' (hdis k hkd)) hF' hFa hB hK)
    rcases hcov i hi with h1 | h1
    · rcases List.mem_cons.1 h1 with h2 | h2
      · right; subst h2
        have hlt : i < listed.size := by rw [inv.size]; exact (Array.getElem?_eq_some_iff.1 h0).1
        simp [hlt]
      · exact .inl h2
    · exact .inr (getD_set_true h1)
theorem order_hdis {hd tl : List Nat} {t : Nat} {listed0 : Array Bool} (hsz : listed0.size = ops.size) (hF2 : Region.freeL md ops hd listed0 = true) (hseq : Region.mixL md ops (t :: tl) (Region.listAll listed0 hd) = true) : ∀ i ∈ hd, i ∉ t :: tl := by
  -- the tail is unlisted where the head is listed whole
  intro i hi hit
  have h1 : ∀ (r : List Nat) (listed : Array Bool), listed.size = ops.size → i ∈ r → i < ops.size → (Region.listAll listed r).getD i false = true := by
    intro r
    induction r with
    | nil => intro listed _ hm; cases hm
    | cons k r ih =>
      intro listed hsz hm hlt
      simp only [Region.listAll]
      by_cases hr : i ∈ r
      · exact ih _ (by simpa using hsz) hr hlt
      · have hik : i = k := by rcases List.mem_cons.1 hm with h | h; exact h; exact absurd h hr
        subst hik
        have keep : ∀ (r : List Nat) (listed : Array Bool), listed.getD i false = true → (Region.listAll listed r).getD i false = true := by
          intro r
          induction r with
          | nil => intro listed h; exact h
          | cons k r ih => intro listed h; exact ih _ (getD_set_true h)
        exact keep r _ (by simp [hsz]; omega)
  have hilt : i < ops.size := by
    have : ∀ (r : List Nat) (listed : Array Bool), Region.freeL md ops r listed = true → ∀ i ∈ r, i < ops.size := by
      intro r
      induction r with
      | nil => intro _ _ i hi; cases hi
      | cons k r ih =>
        intro listed hF i hi
        simp only [Region.freeL, Bool.and_eq_true] at hF
        rcases List.mem_cons.1 hi with h | h
        · subst h
          have hr' : i ∈ Region.ready md ops listed := by simpa using hF.1.1
          obtain ⟨_, o, h0, _⟩ := mem_ready.1 hr'
          exact (Array.getElem?_eq_some_iff.1 h0).1
        · exact ih _ hF.2 i h
    exact this hd _ hF2 i hi
  have h2 := h1 hd _ hsz hi hilt
  -- but the sequence takes it up later
  have h3 : ∀ (r : List Nat) (listed : Array Bool), Region.mixL md ops r listed = true → i ∈ r → listed.getD i false = false := by
    intro r
    induction r with
    | nil => intro _ _ hm; cases hm
    | cons k r ih =>
      intro listed hB hm
      simp only [Region.mixL, Bool.and_eq_true] at hB
      by_cases hik : i = k
      · subst hik
        have hr' : i ∈ Region.ready md ops listed := by
          have hB1 := hB.1
          split at hB1
          · simp only [Bool.and_eq_true] at hB1; simpa using hB1.1
          · simp only [decide_eq_true_eq] at hB1; rw [hB1]; simp
        exact getD_both (mem_ready.1 hr').1
      · have hr : i ∈ r := by rcases List.mem_cons.1 hm with h | h; exact absurd h hik; exact h
        have := ih _ hB.2 hr
        rwa [getD_set_ne false (Ne.symm hik)] at this
  rw [h3 _ _ hseq hit] at h2
  cases h2
theorem any_only_mono {Q : Exit → Act → World → Prop} : ∀ (f : Nat) (listed : Array Bool) (a : Act) (w : World), wpAny P md ops (onlyN Q) f listed a w → wpAny P md ops Q f listed a w := by
  have opm : ∀ (i : Nat) (K K' : Act → World → Prop) (a : Act) (w : World), (∀ a w, K a w → K' a w) → wpOp P ops (onlyN Q) i K a w → wpOp P ops Q i K' a w := by
    intro i K K' a w hk hh
    unfold wpOp at *
    split
    · rename_i hn; simp only [hn] at hh; exact hk _ _ hh
    · rename_i o ho
      simp only [ho] at hh
      split
      · rename_i hw
        simp only [hw, if_true] at hh
        rcases hh with hh | ⟨_, hl⟩
        · refine .inl ?_
          unfold Oper.wp at *
          generalize (execOp a.eval o).run P w = r at *
          cases r with
          | ok n w' =>
            cases n <;> simp only [Oper.upon] at hh ⊢ <;>
              first
                | exact hk _ _ hh
                | exact Calls.mono hh (fun e w'' he => by cases e <;> first | exact hk _ _ he | exact absurd he id | exact absurd (he .normal default default) (by simp [onlyN]) | (exfalso; revert he; simp [LetsOut, onlyN]) )
                | exact Rows.mono hh (fun _ _ he => hk _ _ he)
          | halt x w' => cases x <;> simp only [Oper.upon] at hh ⊢ <;> first | exact hh | exact False.elim hh
        · exfalso; revert hl; simp [LetsOut, onlyN]
      · rename_i hw; simp only [hw] at hh; exact hk _ _ hh
  intro f
  induction f with
  | zero => intro listed a w h; exact h
  | succ f ih => intro listed a w h; exact ⟨h.1, fun i hi => opm i _ _ a w (fun a w => ih _ a w) (h.2 i hi)⟩
theorem freeL_append : ∀ (r s : List Nat) (listed : Array Bool), Region.freeL md ops (r ++ s) listed = (Region.freeL md ops r listed && Region.freeL md ops s (Region.listAll listed r))
  | [], s, listed => by simp [Region.freeL, Region.listAll]
  | k :: r, s, listed => by simp only [List.cons_append, Region.freeL, Region.listAll, freeL_append r s, Bool.and_assoc]
theorem listAll_append : ∀ (r s : List Nat) (listed : Array Bool), Region.listAll listed (r ++ s) = Region.listAll (Region.listAll listed r) s
  | [], s, listed => rfl
  | k :: r, s, listed => by simp only [List.cons_append, Region.listAll, listAll_append r s]
theorem wpPure_size {Q : Act → Prop} {n : Nat} : ∀ (l : List Oper) (a : Act), a.tmps.size = n → wpPure P ops Q l a → wpPure P ops (fun a' => Q a' ∧ a'.tmps.size = n) l a
  | [], _, hn, h => ⟨h, hn⟩
  | _ :: l, _, hn, ⟨v, hy, h⟩ => ⟨v, hy, wpPure_size l _ (by rw [put_size]; exact hn) h⟩
theorem wpGrow_mono {Q Q' : Act → Prop} (hQ : ∀ a, Q a → Q' a) : ∀ (l : List Oper) (a : Act), wpGrow P ops B Q l a → wpGrow P ops B Q' l a
  | [], a, h => hQ a h
  | _ :: l, _, ⟨v, hy, h⟩ => ⟨v, hy, wpGrow_mono hQ l _ h⟩
/-- A REGION WITH A GROWING HEAD AND ONE BLOCK LAID BESIDE IT. -/
theorem region_grow {id : Nat} {Q : Exit → Act → World → Prop} {a : Act} {w : World} {l : List Oper} (pre hq : List Nat) (k : Nat) (d : Tmp) (o : Obj) (t : Nat) (tl : List Nat) (hm : P.follows .mixedOrders = true)
    (hB : Region.orderB .any l.toArray pre (hq ++ [k]) t tl = true) (hG : Region.growB l.toArray [(k, d, o)] hq = true) (hal : LaysAll P l.toArray [(k, d, o)]) (hd : d < a.tmps.size)
    (h : wpPure P l.toArray (fun a1 => wpGrow P l.toArray w (fun a2 => ∀ (b : Nat) (w' : World), Below w.heap.size w w' → w.heap.size ≤ b → w'.heap[b]? = some o → wpList P l.toArray (onlyN Q) ((t :: tl).map fun i => l.toArray.getD i default) (a2.put (some d) (ptr b)) w')
      (hq.map fun i => l.toArray.getD i default) a1) (pre.map fun i => l.toArray.getD i default) a) : (Code.region id l.toArray true).wp P Q a w := by
  simp only [Region.orderB, Bool.and_eq_true, decide_eq_true_eq] at hB
  obtain ⟨⟨⟨⟨⟨⟨⟨⟨⟨⟨hsel, hs⟩, hch⟩, hall0⟩, hF1⟩, hF2⟩, hun⟩, hpre⟩, hpt0⟩, hseq⟩, hlen⟩ := hB
  have hpt : Region.pureAt l.toArray t = false := by simpa using hpt0
  have hall : ∀ i, i < l.toArray.size → i ∈ pre ∨ i ∈ hq ++ [k] ∨ i ∈ t :: tl := fun i hi => by
    have := List.all_eq_true.1 hall0 i (List.mem_range.2 hi)
    simpa [or_assoc] using this
  obtain ⟨hsz, hcl⟩ := freeL_closed (md := .any) pre (Array.replicate l.toArray.size false) (by simp) (fun j oj _ hl => (by rw [getD_replicate_false] at hl; cases hl)) hF1
  have inv0 : HInv .any l.toArray pre (t :: tl) (Region.listAll (Array.replicate l.toArray.size false) pre) :=
    ⟨hsz, hcl, fun u hu => by have := List.all_eq_true.1 hun u hu; simpa using this, fun u hu => by have := List.all_eq_true.1 hpre u hu; simpa using this⟩
  have hdis := order_hdis hsz hF2 hseq
  rw [freeL_append, Bool.and_eq_true] at hF2
  rw [listAll_append] at hseq
  have halone : aloneB [(k, d, o)] = true := by simp [aloneB]
  let Lq : Act → Prop := fun a' => ∃ (a2 : Act) (b : Nat), a' = a2.put (some d) (ptr b) ∧ ∀ w', Below w.heap.size w w' → w.heap.size ≤ b → w'.heap[b]? = some o → wpList P l.toArray (onlyN Q) ((t :: tl).map fun i => l.toArray.getD i default) a' w'
  have key : wpAny P .any l.toArray (onlyN Q) (pre.length + ((hq ++ [k]).length + (t :: tl).length)) (Array.replicate l.toArray.size false) a w.drew := by
    refine any_of_pure hsel (fun c a w hq => hq) pre _ a _ hF1 (wpPure_size _ a rfl h) ?_
    rintro a1 ⟨h1, hsz1⟩
    have H := headG_lex (md := .any) (B := w) (Lq := Lq) hal halone hpt hsel hs hch hall hdis (fun k' d' o' hk => by simp at hk; simp [hk.1]) (fun k' hk => by simp [hk]) hq _ a1 (fun _ h => h) (fun i hi => .inl hi) inv0 hF2.1 hF2.2 hseq
      (wpGrow_mono (fun a2 h2 b => ⟨a2, b, rfl, h2 b⟩) _ _ h1)
    rw [show (hq ++ [k]).length = hq.length + [(k, d, o)].length by simp]
    refine any_of_anyG (B := w) hal hG halone (fun listed a' w' hw' hL => ?_) _ _ _ _ ⟨?_, ?_, ?_, ?_⟩ H
    · obtain ⟨hL1, hL2, a2, b, ha, hL3⟩ := hL
      obtain ⟨b', h4, h5, h6⟩ := hw'.laid k d o (by simp) (hL2 (k, d, o) (by simp))
      have hdd := hw'.wide k d o (by simp)
      have hbb : b' = b := by
        rw [ha, put_size] at hdd
        rw [ha] at h4
        simp [Act.put, hdd, ptr] at h4
        exact h4.symm
      subst hbb
      exact any_of_mixL hsel (t :: tl) listed a' w' hL1 (hL3 w' hw'.below h5 h6)
    · exact (Below.refl _ _).drew
    · intro k' d' o' hk; simp at hk; rw [hk.2.1, hsz1]; exact hd
    · intro k' d' o' hk hl; simp at hk; rw [hk.1] at hl
      have hF3 := hF2.2
      simp only [Region.freeL, Bool.and_eq_true] at hF3
      have hrk : k ∈ Region.ready .any l.toArray (Region.listAll (Region.listAll (Array.replicate l.toArray.size false) pre) hq) := by simpa using hF3.1.1
      have := listAll_keep hq _ hl
      rw [getD_both (mem_ready.1 hrk).1] at this
      cases this
    · intro k1 d1 o1 k2 d2 o2 b b' hk hk' hne; simp at hk hk'; exact absurd (hk.1.trans hk'.1.symm) hne
  rw [hlen] at key
  exact wp_region_any hm (any_only_mono _ _ _ _ key)

/-! One operation of a growing head at a time. -/
def tameOp (ρ : Operand → Value) : Op → Bool
  | .move _ | .assign _ | .extract .. | .indexAddr .. | .fieldAddr .. | .load .. | .binOp .. | .unOp .. | .pick .. | .index .. | .field .. | .build .. | .slice .. | .convert .. => true
  | .nilCheck x => (match ρ x with | .pointer (some _) => true | _ => false)
  | _ => false
theorem value_run (s : Sem Value) {w w' : World} {f : FuncId} {args : Array Value} : (do pure (.value (← s)) : Sem Next).run P w ≠ .ok (.enter f args) w' := by
  rw [Sem.run_bind]
  cases Sem.run P s w <;> simp [Result.andThen, Sem.run_pure]
theorem tame_run {o : Oper} {ρ : Operand → Value} (ht : tameOp ρ o.op = true) {w w' : World} {f : FuncId} {args : Array Value} : (execOp ρ o).run P w ≠ .ok (.enter f args) w' := by
  unfold execOp
  cases ho : o.op <;> rw [ho] at ht <;> simp only [tameOp, Bool.false_eq_true] at ht <;> dsimp only <;> first | exact value_run _ | (intro h; cases h) | skip
  · rw [Sem.run_bind]
    cases Sem.run P (asBool _) w <;> simp [Result.andThen, Sem.run_pure]
  · split at ht
    · rename_i h; rw [h]; intro h; cases h
    · cases ht
theorem grow_of_quiet {o : Oper} {a : Act} {v : Value} {C : World → Prop} {w : World} (ht : tameOp a.eval o.op = true) (h : o.quietAt P a C w v) : growAt P o a w v := by
  unfold Oper.quietAt at h
  unfold growAt
  have hn := fun f args w' => tame_run (P := P) (o := o) ht (ρ := a.eval) (w := w) (w' := w') (f := f) (args := args)
  generalize Sem.run P (execOp a.eval o) w = r at *
  cases r with
  | ok n w' =>
    cases n <;> first | exact h | exact absurd rfl (hn _ _ _)
  | halt x w' => exact h
/-- The worlds that extend B, as a family. -/
theorem grow_family (B : World) : ∃ (ι : Type) (_ : Nonempty ι) (F : ι → World), (∀ i, Below B.heap.size B (F i)) ∧ ∀ w, Below B.heap.size B w → ∃ i, w = F i :=
  ⟨{ w : World // Below B.heap.size B w }, ⟨⟨B, Below.refl _ _⟩⟩, Subtype.val, fun i => i.2, fun w h => ⟨⟨w, h⟩, rfl⟩⟩
theorem wpGrow_quiet {ι : Type} {F : ι → World} (hF : ∀ w, Below B.heap.size B w → ∃ i, w = F i) {Q : Act → Prop} {a : Act} {o : Oper} {rest : List Oper} (ht : tameOp a.eval o.op = true) (hw : Region.wanted o (yielded ops a.tmps) = true)
    (h : ∀ K : Act → Prop, (∀ a, wpGrow P ops B Q rest a → K a) → o.quiet P a (fun w' => ∃ i, w' = F i) K) : wpGrow P ops B Q (o :: rest) a := by
  obtain ⟨v, h1, h2⟩ := h _ (fun _ h => h)
  exact ⟨v, .inl ⟨hw, fun w hb => grow_of_quiet ht (h1 w (hF w hb))⟩, h2⟩
theorem wpGrow_skip {Q : Act → Prop} {a : Act} {o : Oper} {rest : List Oper} (hw : Region.wanted o (yielded ops a.tmps) = false) (h : wpGrow P ops B Q rest (a.put o.dst undef)) : wpGrow P ops B Q (o :: rest) a :=
  ⟨undef, .inr ⟨hw, rfl⟩, h⟩
/-- A step that leaves this value in every world (a builtin call). -/
theorem wpGrow_pure {Q : Act → Prop} {a : Act} {o : Oper} {rest : List Oper} (v : Value) (hw : Region.wanted o (yielded ops a.tmps) = true) (h : ∀ w, (execOp a.eval o).run P w = .ok (.value v) w) (h2 : wpGrow P ops B Q rest (a.put o.dst v)) : wpGrow P ops B Q (o :: rest) a :=
  ⟨v, .inl ⟨hw, fun w _ => by unfold growAt; rw [h w]; exact ⟨rfl, rfl⟩⟩, h2⟩
/-- A call that leaves all that was there as it was. -/
theorem wpGrow_call {Q : Act → Prop} {a : Act} {o : Oper} {rest : List Oper} (v : Value) (f : FuncId) (args : Array Value) (hw : Region.wanted o (yielded ops a.tmps) = true) (h : ∀ w, (execOp a.eval o).run P w = .ok (.enter f args) w)
    (hc : ∀ w, Below B.heap.size B w → Calls P f args w fun e w' => e = .returned v ∧ Below w.heap.size w w') (h2 : wpGrow P ops B Q rest (a.put o.dst v)) : wpGrow P ops B Q (o :: rest) a :=
  ⟨v, .inl ⟨hw, fun w hb => by unfold growAt; rw [h w]; exact ⟨rfl, hc w hb⟩⟩, h2⟩
/-- The one block. -/
theorem laysOne {k : Nat} {d : Tmp} {o : Obj} {op : Oper} {e : TypeId} (h0 : ops[k]? = some op) (hop : op.op = .alloc e) (hd : op.dst = some d) (hg : op.guard = none)
    (hr : ∀ w : World, (Instr.alloc e true (.tuple #[])).run P w = .ok (ptr w.heap.size) (w.alloc o)) : LaysAll P ops [(k, d, o)] := by
  intro k' d' o' hk
  simp at hk
  obtain ⟨rfl, rfl, rfl⟩ := hk
  refine ⟨op, h0, hd, hg, fun a w => ?_⟩
  unfold execOp
  rw [hop]
  dsimp only
  rw [Sem.run_bind, hr w]
  rfl
theorem wpGrow_nil {Q : Act → Prop} {a : Act} (h : Q a) : wpGrow P ops B Q [] a := h
end
end Go.Proofs.Ytanpefjbmpohdaa
