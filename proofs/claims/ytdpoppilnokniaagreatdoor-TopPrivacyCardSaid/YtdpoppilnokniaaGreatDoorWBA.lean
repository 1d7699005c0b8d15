/- Theorems of this seat. -/
import Derived.StillTail
import Derived.Deep.Quiet
import Derived.Deep.QuietTactic
import Derived.WalkKit
import Derived.Handy
import Derived.Lib.Hide
import Derived.Sort.Grow
namespace Go.Proofs.YtdpoppilnokniaaGreatDoor
open Go.RowKit
theorem szs {a b:Nat}(h:a < b):(a < b)∧(a≤b)∧(∀ m,a < b+m)∧(∀ m,a≤b+m):=⟨h,by omega,fun m=>by omega,fun m=>by omega⟩
theorem cell_lt {w:World}{a:Addr}{v:Value}(h:w.cell? a = some v):a.block < w.heap.size:=by
 unfold World.cell? at h
 rcases Nat.lt_or_ge a.block w.heap.size with h' | h'
 ·exact h'
 ·rw[Array.getElem?_eq_none h'] at h;cases h
theorem cell_kept {w w1:World}(hb:Below w.heap.size w w1) {a:Addr}{v:Value}(h:w.cell? a = some v):w1.cell? a = some v:=(hb.cell (cell_lt h)).trans h
section
variable {P:Program} {ops:Array Oper} {md:Region.Mode} {C:World→Prop}
def anyHead (P:Program) (md:Region.Mode) (ops:Array Oper) (C:World→Prop) (n:Nat) (L:Array Bool→Act→Prop):Nat→Array Bool→Act→Prop
 | 0,listed,a=>L listed a
 | f+1,listed,a =>
  Region.ready md ops listed ≠ []∧∀ i∈Region.ready md ops listed,i < n∧qOp P ops C i (anyHead P md ops C n L f (listed.setIfInBounds i true)) a
theorem any_of_head {n g:Nat}{L:Array Bool→Act→Prop}{Q':Exit→Act→World→Prop}
  (hL:∀ listed a w,C w→L listed a→wpAny P md ops Q' g listed a w) :
  ∀ (f:Nat) (listed:Array Bool) (a:Act) (w:World),C w→anyHead P md ops C n L f listed a→wpAny P md ops Q' (f+g) listed a w
 | 0,listed,a,w,hw,h=>by rw[Nat.zero_add];exact hL _ _ _ hw h
 | f+1,listed,a,w,hw,h=>by
  rw[show f+1+g = (f+g)+1 by omega]
  exact ⟨fun h0=>absurd h0 h.1,fun i hi=>wpOp_of_qOp hw (fun a' w' hw' h'=>any_of_head hL f _ a' w' hw' h') (h.2 i hi).2⟩
theorem head_first {n i:Nat}{oi:Oper}{v:Value}{L:Array Bool→Act→Prop}(hi:ops[i]? = some oi)
  (hsel:∀ (j:Nat) (o:Oper) cs b,ops[j]? = some o→o.op ≠ .select cs b)
  (hs:Region.sinkB md ops n = true) (hc:Region.chainB md ops n = true) (hn:n < ops.size) (hin:i < n)
  (hdone:∀ listed a,L listed a→∀ j∈Region.ready md ops listed,n≤j) :
  ∀ (f:Nat) (listed:Array Bool) (a:Act),HeadInv md ops n listed →
   (∀ j oj,ops[j]? = some oj→j ≠ i→listed.getD j true = false→(∀ e∈oj.after,Region.binds md e = true→e.on ≠ i)→oi.apart ops oj = true) →
   i∈Region.ready md ops listed→YieldsIn P ops C oi v a →
   anyHead P md ops C n L f (listed.setIfInBounds i true) (a.put oi.dst v)→anyHead P md ops C n L (f+1) listed a:=by
 intro f
 induction f with
 | zero =>
  intro listed a inv _ hr hy H
  have hun:=(mem_ready.1 hr).1
  refine ⟨fun h=>(by rw[h] at hr;cases hr),fun j hj=>?_⟩
  have hjn:j < n:=by
   rcases Nat.lt_or_ge j n with h | h
   ·exact h
   ·exact absurd hj (tail_waits hs hc hn inv _ i rfl hin hun j h)
  refine ⟨hjn,?_⟩
  by_cases hji:j = i
  ·subst hji;exact hy.qOp hi H
  ·have:=hdone _ _ H j (ready_mono hj hji)
   omega
 | succ f ih =>
  intro listed a inv hfree hr hy H
  have hun:=(mem_ready.1 hr).1
  refine ⟨fun h=>(by rw[h] at hr;cases hr),fun j hj=>?_⟩
  have hjn:j < n:=by
   rcases Nat.lt_or_ge j n with h | h
   ·exact h
   ·exact absurd hj (tail_waits hs hc hn inv _ i rfl hin hun j h)
  refine ⟨hjn,?_⟩
  by_cases hji:j = i
  ·subst hji;exact hy.qOp hi H
  ·have h1:=(H.2 j (ready_mono hj hji)).2
   obtain ⟨hjun,oj,hoj,hall⟩:=mem_ready.1 hj
   have hnot:∀ e∈oj.after,Region.binds md e = true→e.on ≠ i:=fun e he hb heq=>by
    have h1:=hall e he hb
    rw[heq,getD_both hun] at h1
    cases h1
   have h2:=qOp_put hoj (hfree j oj hoj hji hjun hnot) (fun cs b=>hsel i oi cs b hi) (fun cs b=>hsel j oj cs b hoj) hy h1
   have hfree':∀ k ok,ops[k]? = some ok→k ≠ i→(listed.setIfInBounds j true).getD k true = false →
     (∀ e∈ok.after,Region.binds md e = true→e.on ≠ i)→oi.apart ops ok = true:=fun k ok hk hki hun hno=>by
    refine hfree k ok hk hki ?_ hno
    by_cases hjk:j = k
    ·subst hjk;exact hjun
    ·rw[getD_set_ne true hjk] at hun;exact hun
   refine qOp_mono (fun a' h3=>ih (listed.setIfInBounds j true) a' (inv.set hj hjn) hfree' (ready_mono hr (Ne.symm hji)) h3.1 ?_) h2
   rw[Array.setIfInBounds_comm _ _ hji]
   exact h3.2
theorem head_lex {n g:Nat}{Lq:Act→Prop}(hsel:Region.noSelect ops = true) (hs:Region.sinkB md ops n = true) (hc:Region.chainB md ops n = true) (hn:n < ops.size) :
  ∀ (l:List Oper) (k:Nat) (listed:Array Bool) (a:Act),(∀ j,j < l.length→l[j]? = ops[k+j]?)→k+l.length = n→HeadInv md ops n listed →
  Region.lexHead md ops g l.length k listed = true→wpQuiet P ops C Lq l a →
  anyHead P md ops C n (fun listed' a'=>Region.seqB md ops g n listed' = true∧Lq a') l.length listed a
 | [],k,listed,a,_,hk,_,hB,h=>by
  have:k = n:=by simpa using hk
  subst this
  exact ⟨by simpa [Region.lexHead] using hB,h⟩
 | o :: l,k,listed,a,hl,hk,inv,hB,h=>by
  have h0:ops[k]? = some o:=by simpa using (hl 0 (by simp)).symm
  simp only[List.length_cons,Region.lexHead,Bool.and_eq_true] at hB
  obtain ⟨⟨hr,hf⟩,hB'⟩:=hB
  have hkn:k < n:=by simp only[List.length_cons] at hk;omega
  have hr':k∈Region.ready md ops listed:=by simpa using hr
  have hst:qOp P ops C k (wpQuiet P ops C Lq l) a:=by unfold qOp;simp only[h0];exact h
  obtain ⟨v,hy,hK⟩:=yieldsIn_of_qOp h0 hst
  exact head_first h0 (Region.noSelect_spec hsel) hs hc hn hkn (fun listed' a' hL=>seqB_ready hL.1) l.length listed a inv (Region.free_spec h0 hf) hr' hy
   (head_lex hsel hs hc hn l (k+1) _ _ (fun j hj=>by have:=hl (j+1) (by simp;omega);simpa [Nat.add_assoc,Nat.add_comm 1 j] using this) (by simp only[List.length_cons] at hk;omega) (inv.set hr' hkn) hB' hK)
theorem region_head_tail {id:Nat}{Q:Exit→Act→World→Prop}{a:Act}{w:World}{l:List Oper}(C:World→Prop) (n:Nat) (hm:P.follows .mixedOrders = true)
  (hB:Region.lexTailB .any l.toArray n = true) (hC:C w.drew)
  (h:wpQuiet P l.toArray C (fun a'=>∀ w',C w'→wpList P l.toArray Q (l.drop n) a' w') (l.take n) a):(Code.region id l.toArray true).wp P Q a w:=by
 simp only[Region.lexTailB,Bool.and_eq_true,decide_eq_true_eq] at hB
 obtain ⟨⟨⟨⟨hsel,hn⟩,hs⟩,hc⟩,hlex⟩:=hB
 have hn':n < l.length:=by simpa using hn
 have htl:(l.take n).length = n:=by simp;omega
 have hdl:(l.drop n).length = l.toArray.size - n:=by simp
 have inv0:HeadInv .any l.toArray n (Array.replicate l.toArray.size false) :=
  ⟨by simp,fun j oj _ hl=>(by rw[getD_replicate_false] at hl;cases hl),fun t _ ht=>getD_in (by simpa using ht) (getD_replicate_false _ _)⟩
 have H:=head_lex (md:=.any) (C:=C) (g:=l.toArray.size - n) hsel hs hc hn (l.take n) 0 _ a (fun j hj=>by
  have hj':j < n:=by rw[htl] at hj;exact hj
  simp [hj']) (by simpa using htl) inv0 (by rw[htl];exact hlex) h
 refine wp_region_any hm ?_
 have:=any_of_head (Q':=Q) (g:=l.toArray.size - n) (fun listed a' w' hw' hL=>by
  have:=wpAny_of_seq (md:=.any) (Q':=Q) (l.drop n) n listed a' w' (fun j=>by simp [List.getElem?_drop]) (by rw[hdl];exact hL.1) (hL.2 w' hw')
  rwa [hdl] at this) _ _ _ _ hC H
 rw[htl,show n+(l.toArray.size - n) = l.toArray.size by omega] at this
 exact this
theorem region_family {ι:Type}(F:ι→World) {id:Nat}{Q:Exit→Act→World→Prop}{a:Act}{w:World}{l:List Oper}(n:Nat) (hm:P.follows .mixedOrders = true)
  (hB:Region.lexTailB .any l.toArray n = true) (hC:∃ i,w.drew = F i)
  (h:wpQuiet P l.toArray (fun w'=>∃ i,w' = F i) (fun a'=>∀ i,wpList P l.toArray Q (l.drop n) a' (F i)) (l.take n) a):(Code.region id l.toArray true).wp P Q a w :=
 region_head_tail (fun w'=>∃ i,w' = F i) n hm hB hC (by
  have e:(fun a'=>∀ w',(∃ i,w' = F i)→wpList P l.toArray Q (l.drop n) a' w') = (fun a'=>∀ i,wpList P l.toArray Q (l.drop n) a' (F i)):=by
   funext a';exact propext ⟨fun h i=>h _ ⟨i,rfl⟩,fun h w' ⟨i,hi⟩=>by rw[hi];exact h i⟩
  rw[e];exact h)
theorem region_drawn {id:Nat}{Q:Exit→Act→World→Prop}{a:Act}{w:World}{l:List Oper}(n:Nat) (hm:P.follows .mixedOrders = true)
  (hB:Region.lexTailB .any l.toArray n = true)
  (h:wpQuiet P l.toArray (fun w'=>∃ i,w' = w.drewN i) (fun a'=>∀ i,wpList P l.toArray Q (l.drop n) a' (w.drewN i)) (l.take n) a):(Code.region id l.toArray true).wp P Q a w :=
 region_family (fun i=>w.drewN i) n hm hB ⟨1,rfl⟩ h
theorem region_all {ι:Type}(F:ι→World) {id:Nat}{Q:Exit→Act→World→Prop}{a:Act}{w:World}{l:List Oper}(hm:P.follows .mixedOrders = true)
  (hB:Region.lexB .any l.toArray = true) (hC:∃ i,w.drew = F i)
  (h:wpQuiet P l.toArray (fun w'=>∃ i,w' = F i) (fun a'=>∀ i,Q .normal a' (F i)) l a):(Code.region id l.toArray true).wp P Q a w :=
 wp_region_quiet (C:=fun w'=>∃ i,w' = F i) hm hB hC (by
  have e:(fun a'=>∀ w',(∃ i,w' = F i)→Q .normal a' w') = (fun a'=>∀ i,Q .normal a' (F i)):=by
   funext a';exact propext ⟨fun h i=>h _ ⟨i,rfl⟩,fun h w' ⟨i,hi⟩=>by rw[hi];exact h i⟩
  rw[e];simpa using h)
end
end Go.Proofs.YtdpoppilnokniaaGreatDoor
namespace Go.Proofs.YtdpoppilnokniaaGreatDoor
open Go.RowKit
section
variable {P:Program} {ops:Array Oper} {md:Region.Mode} {C:World→Prop}
/-! The same, in an order of one's own: first some operations whose value hangs on no world, then those that are quiet in the class, then the rest in one forced order. -/
def Region.sinkL (md:Region.Mode) (ops:Array Oper) (t:Nat):List Nat→Bool
 | []=>true
 | i :: r=>(r.any (fun j=>Region.waitsFor md ops j i) || Region.waitsFor md ops t i) && Region.sinkL md ops t r
def Region.chainW (md:Region.Mode) (ops:Array Oper):List Nat→List Nat→Bool
 | _,[]=>true
 | prev,u :: r=>prev.any (fun t=>Region.waitsFor md ops u t) && Region.chainW md ops (u :: prev) r
def Region.chainL (md:Region.Mode) (ops:Array Oper) (t:Nat) (tl:List Nat):Bool:=Region.chainW md ops [t] tl
def Region.listAll (listed:Array Bool):List Nat→Array Bool
 | []=>listed
 | i :: r=>Region.listAll (listed.setIfInBounds i true) r
def Region.freeL (md:Region.Mode) (ops:Array Oper):List Nat→Array Bool→Bool
 | [],_=>true
 | i :: r,listed=>(Region.ready md ops listed).contains i && Region.free md ops listed i && Region.freeL md ops r (listed.setIfInBounds i true)
def Region.pureAt (ops:Array Oper) (k:Nat):Bool :=
 match (ops.getD k default).op with
 | .move _ | .extract ..=>true
 | _=>false
def Region.mixL (md:Region.Mode) (ops:Array Oper):List Nat→Array Bool→Bool
 | [],listed=>(Region.ready md ops listed).isEmpty
 | k :: r,listed=>(if Region.pureAt ops k then (Region.ready md ops listed).contains k && Region.free md ops listed k else decide (Region.ready md ops listed = [k])) && Region.mixL md ops r (listed.setIfInBounds k true)
def Region.unlisted (listed:Array Bool) (l:List Nat):Bool:=l.all fun t=>!listed.getD t true
def Region.orderB (md:Region.Mode) (ops:Array Oper) (pre hd:List Nat) (t:Nat) (tl:List Nat):Bool :=
 Region.noSelect ops && Region.sinkL md ops t hd && Region.chainL md ops t tl && ((List.range ops.size).all fun i=>pre.contains i || hd.contains i || (t :: tl).contains i) &&
 Region.freeL md ops pre (Array.replicate ops.size false) && Region.freeL md ops hd (Region.listAll (Array.replicate ops.size false) pre) &&
 Region.unlisted (Region.listAll (Array.replicate ops.size false) pre) (t :: tl) && (pre.all fun i=>(Region.listAll (Array.replicate ops.size false) pre).getD i false) &&
 !Region.pureAt ops t && Region.mixL md ops (t :: tl) (Region.listAll (Region.listAll (Array.replicate ops.size false) pre) hd) && decide (pre.length+(hd.length+(t :: tl).length) = ops.size)
structure HInv (md:Region.Mode) (ops:Array Oper) (pre tl:List Nat) (listed:Array Bool):Prop where
 size:listed.size = ops.size
 closed:∀ j oj,ops[j]? = some oj→listed.getD j false = true→∀ e∈oj.after,Region.binds md e = true→listed.getD e.on false = true
 tail:∀ t∈tl,listed.getD t true = false
 pres:∀ i∈pre,listed.getD i false = true
theorem closed_set {listed:Array Bool}{i:Nat}(hc:∀ j oj,ops[j]? = some oj→listed.getD j false = true→∀ e∈oj.after,Region.binds md e = true→listed.getD e.on false = true)
  (hi:i∈Region.ready md ops listed):∀ j oj,ops[j]? = some oj→(listed.setIfInBounds i true).getD j false = true→∀ e∈oj.after,Region.binds md e = true→(listed.setIfInBounds i true).getD e.on false = true:=by
 intro j oj hj hl e he hb
 obtain ⟨_,oi,hoi,hall⟩:=mem_ready.1 hi
 by_cases hij:i = j
 ·subst hij
  have:oj = oi:=Option.some.inj (hj.symm.trans hoi)
  subst this
  exact getD_set_true (hall e he hb)
 ·rw[getD_set_ne false hij] at hl
  exact getD_set_true (hc j oj hj hl e he hb)
theorem HInv.set {pre tl:List Nat}{i:Nat}{listed:Array Bool}(inv:HInv md ops pre tl listed) (hi:i∈Region.ready md ops listed) (hin:i ∉ tl):HInv md ops pre tl (listed.setIfInBounds i true) :=
 ⟨by simp [inv.size],closed_set inv.closed hi,fun t ht=>by
  have hne:i ≠ t:=fun e=>hin (e ▸ ht)
  rw[getD_set_ne true hne];exact inv.tail t ht,fun j hj=>getD_set_true (inv.pres j hj)⟩
theorem sink_waits {t:Nat}{listed:Array Bool}(hsz:listed.size = ops.size) (hc:∀ j oj,ops[j]? = some oj→listed.getD j false = true→∀ e∈oj.after,Region.binds md e = true→listed.getD e.on false = true) :
  ∀ (hd:List Nat),Region.sinkL md ops t hd = true→∀ i∈hd,listed.getD i true = false→t ∉ Region.ready md ops listed
 | [],_,i,hi,_=>absurd hi (by simp)
 | k :: r,hs,i,hi,hun=>by
  simp only[Region.sinkL,Bool.and_eq_true,Bool.or_eq_true,List.any_eq_true] at hs
  by_cases hr:∃ j∈r,listed.getD j true = false
  ·obtain ⟨j,hj,hjun⟩:=hr
   exact sink_waits hsz hc r hs.2 j hj hjun
  ·have hik:i = k:=by
    rcases List.mem_cons.1 hi with h | h
    ·exact h
    ·exact absurd ⟨i,h,hun⟩ hr
   subst hik
   intro hready
   rcases hs.1 with ⟨j,hj,hw⟩ | hw
   ·obtain ⟨oj,hoj,e,he,hb,hon⟩:=Region.waitsFor_spec hw
    have hlt:j < listed.size:=by rw[hsz];exact (Array.getElem?_eq_some_iff.1 hoj).1
    have hjl:listed.getD j false = true:=by
     have h1:listed.getD j true ≠ false:=fun h=>hr ⟨j,hj,h⟩
     simp [hlt] at h1 ⊢;exact h1
    have h2:=hc j oj hoj hjl e he hb
    rw[hon,getD_both hun] at h2
    cases h2
   ·obtain ⟨ot,hot,e,he,hb,hon⟩:=Region.waitsFor_spec hw
    obtain ⟨_,ot',hot',hall⟩:=mem_ready.1 hready
    have:ot' = ot:=Option.some.inj (hot'.symm.trans hot)
    subst this
    have h2:=hall e he hb
    rw[hon,getD_both hun] at h2
    cases h2
theorem chainW_waits {listed:Array Bool}:∀ (prev tl:List Nat),Region.chainW md ops prev tl = true→(∀ u∈prev,listed.getD u true = false)→(∀ u∈tl,listed.getD u true = false)→∀ u∈tl,u ∉ Region.ready md ops listed
 | _,[],_,_,_,u,hu=>absurd hu (by simp)
 | prev,k :: r,hch,hp,hun,u,hu=>by
  simp only[Region.chainW,Bool.and_eq_true,List.any_eq_true] at hch
  rcases List.mem_cons.1 hu with h | h
  ·subst h
   intro hready
   obtain ⟨t,ht,hw⟩:=hch.1
   obtain ⟨ot,hot,e,he,hb,hon⟩:=Region.waitsFor_spec hw
   obtain ⟨_,ot',hot',hall⟩:=mem_ready.1 hready
   have:ot' = ot:=Option.some.inj (hot'.symm.trans hot)
   subst this
   have h2:=hall e he hb
   rw[hon,getD_both (hp t ht)] at h2
   cases h2
  ·refine chainW_waits (k :: prev) r hch.2 (fun x hx=>?_) (fun x hx=>hun x (List.mem_cons_of_mem _ hx)) u h
   rcases List.mem_cons.1 hx with rfl | hx
   ·exact hun _ (List.mem_cons_self ..)
   ·exact hp x hx
theorem chain_waits {listed:Array Bool}(t:Nat) (tl:List Nat) (hch:Region.chainL md ops t tl = true) (hun:∀ u∈t :: tl,listed.getD u true = false):∀ u∈tl,u ∉ Region.ready md ops listed :=
 chainW_waits [t] tl hch (fun x hx=>by simp at hx;subst hx;exact hun _ (List.mem_cons_self ..)) (fun x hx=>hun x (List.mem_cons_of_mem _ hx))
theorem head_only {pre hd tl:List Nat}{t:Nat}{listed:Array Bool}(hs:Region.sinkL md ops t hd = true) (hch:Region.chainL md ops t tl = true)
  (hall:∀ i,i < ops.size→i∈pre∨i∈hd∨i∈t :: tl) (inv:HInv md ops pre (t :: tl) listed) {i:Nat} (hi:i∈hd) (hun:listed.getD i true = false) :
  ∀ j∈Region.ready md ops listed,j∈hd:=by
 intro j hj
 obtain ⟨hjun,oj,hoj,_⟩:=mem_ready.1 hj
 rcases hall j (Array.getElem?_eq_some_iff.1 hoj).1 with h | h | h
 ·have:=inv.pres j h
  rw[getD_both hjun] at this;cases this
 ·exact h
 ·rcases List.mem_cons.1 h with h | h
  ·subst h;exact absurd hj (sink_waits inv.size inv.closed hd hs i hi hun)
  ·exact absurd hj (chain_waits t tl hch inv.tail j h)
def anyHeadL (P:Program) (md:Region.Mode) (ops:Array Oper) (C:World→Prop) (hd:List Nat) (L:Array Bool→Act→Prop):Nat→Array Bool→Act→Prop
 | 0,listed,a=>L listed a
 | f+1,listed,a =>
  Region.ready md ops listed ≠ []∧∀ i∈Region.ready md ops listed,i∈hd∧qOp P ops C i (anyHeadL P md ops C hd L f (listed.setIfInBounds i true)) a
theorem any_of_headL {hd:List Nat}{g:Nat}{L:Array Bool→Act→Prop}{Q':Exit→Act→World→Prop}
  (hL:∀ listed a w,C w→L listed a→wpAny P md ops Q' g listed a w) :
  ∀ (f:Nat) (listed:Array Bool) (a:Act) (w:World),C w→anyHeadL P md ops C hd L f listed a→wpAny P md ops Q' (f+g) listed a w
 | 0,listed,a,w,hw,h=>by rw[Nat.zero_add];exact hL _ _ _ hw h
 | f+1,listed,a,w,hw,h=>by
  rw[show f+1+g = (f+g)+1 by omega]
  exact ⟨fun h0=>absurd h0 h.1,fun i hi=>wpOp_of_qOp hw (fun a' w' hw' h'=>any_of_headL hL f _ a' w' hw' h') (h.2 i hi).2⟩
theorem headL_first {pre hd tl:List Nat}{t i:Nat}{oi:Oper}{v:Value}{L:Array Bool→Act→Prop}(hi:ops[i]? = some oi)
  (hsel:∀ (j:Nat) (o:Oper) cs b,ops[j]? = some o→o.op ≠ .select cs b)
  (hs:Region.sinkL md ops t hd = true) (hch:Region.chainL md ops t tl = true) (hall:∀ i,i < ops.size→i∈pre∨i∈hd∨i∈t :: tl) (hdis:∀ i∈hd,i ∉ t :: tl) (hin:i∈hd)
  (hdone:∀ listed a,L listed a→∀ j∈Region.ready md ops listed,j∈t :: tl) :
  ∀ (f:Nat) (listed:Array Bool) (a:Act),HInv md ops pre (t :: tl) listed →
   (∀ j oj,ops[j]? = some oj→j ≠ i→listed.getD j true = false→(∀ e∈oj.after,Region.binds md e = true→e.on ≠ i)→oi.apart ops oj = true) →
   i∈Region.ready md ops listed→YieldsIn P ops C oi v a →
   anyHeadL P md ops C hd L f (listed.setIfInBounds i true) (a.put oi.dst v)→anyHeadL P md ops C hd L (f+1) listed a:=by
 intro f
 induction f with
 | zero =>
  intro listed a inv _ hr hy H
  have hun:=(mem_ready.1 hr).1
  refine ⟨fun h=>(by rw[h] at hr;cases hr),fun j hj=>?_⟩
  have hjn:=head_only hs hch hall inv hin hun j hj
  refine ⟨hjn,?_⟩
  by_cases hji:j = i
  ·subst hji;exact hy.qOp hi H
  ·exact absurd (hdone _ _ H j (ready_mono hj hji)) (hdis j hjn)
 | succ f ih =>
  intro listed a inv hfree hr hy H
  have hun:=(mem_ready.1 hr).1
  refine ⟨fun h=>(by rw[h] at hr;cases hr),fun j hj=>?_⟩
  have hjn:=head_only hs hch hall inv hin hun j hj
  refine ⟨hjn,?_⟩
  by_cases hji:j = i
  ·subst hji;exact hy.qOp hi H
  ·have h1:=(H.2 j (ready_mono hj hji)).2
   obtain ⟨hjun,oj,hoj,hall'⟩:=mem_ready.1 hj
   have hnot:∀ e∈oj.after,Region.binds md e = true→e.on ≠ i:=fun e he hb heq=>by
    have h1:=hall' e he hb
    rw[heq,getD_both hun] at h1
    cases h1
   have h2:=qOp_put hoj (hfree j oj hoj hji hjun hnot) (fun cs b=>hsel i oi cs b hi) (fun cs b=>hsel j oj cs b hoj) hy h1
   have hfree':∀ k ok,ops[k]? = some ok→k ≠ i→(listed.setIfInBounds j true).getD k true = false →
     (∀ e∈ok.after,Region.binds md e = true→e.on ≠ i)→oi.apart ops ok = true:=fun k ok hk hki hun hno=>by
    refine hfree k ok hk hki ?_ hno
    by_cases hjk:j = k
    ·subst hjk;exact hjun
    ·rw[getD_set_ne true hjk] at hun;exact hun
   refine qOp_mono (fun a' h3=>ih (listed.setIfInBounds j true) a' (inv.set hj (hdis j hjn)) hfree' (ready_mono hr (Ne.symm hji)) h3.1 ?_) h2
   rw[Array.setIfInBounds_comm _ _ hji]
   exact h3.2
theorem headL_lex {pre hd tl:List Nat}{t:Nat}{Lq:Act→Prop}(hpt:Region.pureAt ops t = false) (hsel:Region.noSelect ops = true) (hs:Region.sinkL md ops t hd = true) (hch:Region.chainL md ops t tl = true)
  (hall:∀ i,i < ops.size→i∈pre∨i∈hd∨i∈t :: tl) (hdis:∀ i∈hd,i ∉ t :: tl) :
  ∀ (r:List Nat) (listed:Array Bool) (a:Act),(∀ i∈r,i∈hd)→HInv md ops pre (t :: tl) listed →
  Region.freeL md ops r listed = true→Region.mixL md ops (t :: tl) (Region.listAll listed r) = true→wpQuiet P ops C Lq (r.map fun i=>ops.getD i default) a →
  anyHeadL P md ops C hd (fun listed' a'=>Region.mixL md ops (t :: tl) listed' = true∧Lq a') r.length listed a
 | [],listed,a,_,_,_,hB,h=>⟨hB,h⟩
 | k :: r,listed,a,hmem,inv,hF,hB,h=>by
  simp only[Region.freeL,Bool.and_eq_true] at hF
  obtain ⟨⟨hr,hf⟩,hF'⟩:=hF
  have hr':k∈Region.ready md ops listed:=by simpa using hr
  obtain ⟨_,o,h0,_⟩:=mem_ready.1 hr'
  have hget:ops.getD k default = o:=by simp [Array.getD_eq_getD_getElem?,h0]
  have hst:qOp P ops C k (wpQuiet P ops C Lq (r.map fun i=>ops.getD i default)) a:=by
   unfold qOp;simp only[h0]
   simp only[List.map_cons,hget] at h
   exact h
  obtain ⟨v,hy,hK⟩:=yieldsIn_of_qOp h0 hst
  have hkd:=hmem k (by simp)
  refine headL_first h0 (Region.noSelect_spec hsel) hs hch hall hdis hkd (fun listed' a' hL j hj=>?_) r.length listed a inv (Region.free_spec h0 hf) hr' hy
   (headL_lex hpt hsel hs hch hall hdis r _ _ (fun i hi=>hmem i (List.mem_cons_of_mem _ hi)) (inv.set hr' (hdis k hkd)) hF' hB hK)
  have h1:=hL.1
  simp only[Region.mixL,hpt,Bool.false_eq_true,if_false,Bool.and_eq_true,decide_eq_true_eq] at h1
  rw[h1.1] at hj
  simp at hj;simp [hj]
def onlyN (Q:Exit→Act→World→Prop):Exit→Act→World→Prop
 | .normal,a,w=>Q .normal a w
 | _,_,_=>False
theorem onlyN_intro {Q:Exit→Act→World→Prop}{a:Act}{w:World}(h:Q .normal a w):onlyN Q .normal a w:=h
theorem pure_wp {Q:Exit→Act→World→Prop}{k:Nat}{o:Oper}{a:Act}{w:World}{K:Act→World→Prop}(hp:Region.pureAt ops k = true) (h0:ops[k]? = some o) (h:o.wp P a w K (onlyN Q)) :
  ∃ v,(∀ w,(execOp a.eval o).run P w = .ok (.value v) w)∧K (a.put o.dst v) w:=by
 have hget:ops.getD k default = o:=by simp [Array.getD_eq_getD_getElem?,h0]
 unfold Region.pureAt at hp
 rw[hget] at hp
 split at hp
 ·rename_i x hx
  have hr:∀ w,(execOp a.eval o).run P w = .ok (.value (a.eval x)) w:=fun w=>by unfold execOp;rw[hx];rfl
  refine ⟨_,hr,?_⟩
  unfold Oper.wp at h
  rw[hr] at h
  exact h
 ·rename_i x ix hx
  have hx':(execOp a.eval o) = (do pure (.value (←Instr.extract (a.eval x) ix)):Sem Next):=by unfold execOp;rw[hx]
  unfold Oper.wp at h
  rw[hx'] at h ⊢
  unfold Instr.extract at h ⊢
  cases hv:a.eval x with
  | tuple vs =>
   rw[hv] at h
   dsimp only at h ⊢
   cases hg:vs[ix]? with
   | some v =>
    rw[hg] at h
    exact ⟨v,fun w=>rfl,h⟩
   | none=>rw[hg] at h;exact False.elim h
  | _=>rw[hv] at h;exact False.elim h
 ·cases hp
theorem any_of_mixL {Q:Exit→Act→World→Prop}(hsel:Region.noSelect ops = true):∀ (tl:List Nat) (listed:Array Bool) (a:Act) (w:World),
  Region.mixL md ops tl listed = true→wpList P ops (onlyN Q) (tl.map fun i=>ops.getD i default) a w→wpAny P md ops (onlyN Q) tl.length listed a w
 | [],_,_,_,hB,h=>⟨by simpa [Region.mixL] using hB,h⟩
 | k :: r,listed,a,w,hB,h=>by
  simp only[Region.mixL,Bool.and_eq_true] at hB
  obtain ⟨hB1,hB2⟩:=hB
  have hready:k∈Region.ready md ops listed:=by
   split at hB1
   ·simp only[Bool.and_eq_true] at hB1;simpa using hB1.1
   ·simp only[decide_eq_true_eq] at hB1;rw[hB1];simp
  obtain ⟨_,o,h0,_⟩:=mem_ready.1 hready
  have hget:ops.getD k default = o:=by simp [Array.getD_eq_getD_getElem?,h0]
  simp only[List.map_cons,hget] at h
  split at hB1
  ·rename_i hp
   simp only[Bool.and_eq_true] at hB1
   have hy:∃ v,Yields P ops o v a∧wpList P ops (onlyN Q) (r.map fun i=>ops.getD i default) (a.put o.dst v) w:=by
    unfold wpList at h
    split at h
    ·rename_i hw
     rcases h with h | ⟨_,hl⟩
     ·obtain ⟨v,hv,hk⟩:=pure_wp hp h0 h
      exact ⟨v,.inl ⟨hw,hv⟩,hk⟩
     ·exfalso;revert hl;simp [LetsOut,onlyN]
    ·rename_i hw
     exact ⟨undef,.inr ⟨by simpa using hw,rfl⟩,h⟩
   obtain ⟨v,hy,hk⟩:=hy
   exact wpAny_first h0 (Region.noSelect_spec hsel) (fun c a w hq=>hq) r.length listed a w (Region.free_spec h0 hB1.2) hready hy (any_of_mixL hsel r _ _ w hB2 hk)
  ·simp only[decide_eq_true_eq] at hB1
   refine ⟨fun h1=>(by rw[hB1] at h1;cases h1),fun i hi=>?_⟩
   rw[hB1] at hi
   have hik:i = k:=by simpa using hi
   subst hik
   have hw:wpOp P ops (onlyN Q) i (wpList P ops (onlyN Q) (r.map fun i=>ops.getD i default)) a w:=by unfold wpOp;simp only[h0];exact h
   exact wpOp_mono (fun a' w' h'=>any_of_mixL hsel r _ a' w' hB2 h') hw
def wpPure (P:Program) (ops:Array Oper) (Q:Act→Prop):List Oper→Act→Prop
 | [],a=>Q a
 | o :: rest,a=>∃ v,Yields P ops o v a∧wpPure P ops Q rest (a.put o.dst v)
theorem wpPure_nil {Q:Act→Prop}{a:Act}(h:Q a):wpPure P ops Q [] a:=h
theorem wpPure_cons {Q:Act→Prop}{a:Act}{o:Oper}{rest:List Oper}(v:Value) (hg:o.guard = none) (h:∀ w,(execOp a.eval o).run P w = .ok (.value v) w) (h2:wpPure P ops Q rest (a.put o.dst v)):wpPure P ops Q (o :: rest) a :=
 ⟨v,.inl ⟨by simp [Region.wanted,hg],h⟩,h2⟩
theorem any_of_pure {Q':Exit→Act→World→Prop}{Qp:Act→Prop}{g:Nat}(hsel:Region.noSelect ops = true) (hQ:∀ c a w,¬ Q' (.panic c) a w) :
  ∀ (pre:List Nat) (listed:Array Bool) (a:Act) (w:World),Region.freeL md ops pre listed = true→wpPure P ops Qp (pre.map fun i=>ops.getD i default) a →
  (∀ a,Qp a→wpAny P md ops Q' g (Region.listAll listed pre) a w)→wpAny P md ops Q' (pre.length+g) listed a w
 | [],listed,a,w,_,h,hL=>by simpa [Region.listAll] using hL a h
 | k :: r,listed,a,w,hF,h,hL=>by
  simp only[Region.freeL,Bool.and_eq_true] at hF
  obtain ⟨⟨hr,hf⟩,hF'⟩:=hF
  have hr':k∈Region.ready md ops listed:=by simpa using hr
  obtain ⟨_,o,h0,_⟩:=mem_ready.1 hr'
  have hget:ops.getD k default = o:=by simp [Array.getD_eq_getD_getElem?,h0]
  simp only[List.map_cons,hget,wpPure] at h
  obtain ⟨v,hy,hK⟩:=h
  rw[show (k :: r).length+g = (r.length+g)+1 by simp;omega]
  exact wpAny_first h0 (Region.noSelect_spec hsel) (fun c a w hq=>absurd hq (hQ _ _ _)) (r.length+g) listed a w (Region.free_spec h0 hf) hr' hy
   (any_of_pure hsel hQ r _ _ w hF' hK hL)
theorem freeL_closed:∀ (pre:List Nat) (listed:Array Bool),listed.size = ops.size→(∀ j oj,ops[j]? = some oj→listed.getD j false = true→∀ e∈oj.after,Region.binds md e = true→listed.getD e.on false = true) →
  Region.freeL md ops pre listed = true→(Region.listAll listed pre).size = ops.size∧(∀ j oj,ops[j]? = some oj→(Region.listAll listed pre).getD j false = true→∀ e∈oj.after,Region.binds md e = true→(Region.listAll listed pre).getD e.on false = true)
 | [],listed,hsz,hc,_=>⟨hsz,hc⟩
 | k :: r,listed,hsz,hc,hF=>by
  simp only[Region.freeL,Bool.and_eq_true] at hF
  exact freeL_closed r _ (by simp [hsz]) (closed_set hc (by simpa using hF.1.1)) hF.2
theorem region_order {ι:Type}(F:ι→World) {id:Nat}{Q:Exit→Act→World→Prop}{a:Act}{w:World}{l:List Oper}(pre hd:List Nat) (t:Nat) (tl:List Nat) (hm:P.follows .mixedOrders = true)
  (hB:Region.orderB .any l.toArray pre hd t tl = true) (hC:∃ i,w.drew = F i)
  (h:wpPure P l.toArray (fun a1=>wpQuiet P l.toArray (fun w'=>∃ i,w' = F i) (fun a'=>∀ i,wpList P l.toArray (onlyN Q) ((t :: tl).map fun i=>l.toArray.getD i default) a' (F i)) (hd.map fun i=>l.toArray.getD i default) a1)
   (pre.map fun i=>l.toArray.getD i default) a):(Code.region id l.toArray true).wp P Q a w:=by
 simp only[Region.orderB,Bool.and_eq_true,decide_eq_true_eq] at hB
 obtain ⟨⟨⟨⟨⟨⟨⟨⟨⟨⟨hsel,hs⟩,hch⟩,hall0⟩,hF1⟩,hF2⟩,hun⟩,hpre⟩,hpt0⟩,hseq⟩,hlen⟩:=hB
 have hpt:Region.pureAt l.toArray t = false:=by simpa using hpt0
 have hall:∀ i,i < l.toArray.size→i∈pre∨i∈hd∨i∈t :: tl:=fun i hi=>by
  have:=List.all_eq_true.1 hall0 i (List.mem_range.2 hi)
  simpa [or_assoc] using this
 obtain ⟨hsz,hcl⟩:=freeL_closed (md:=.any) pre (Array.replicate l.toArray.size false) (by simp) (fun j oj _ hl=>(by rw[getD_replicate_false] at hl;cases hl)) hF1
 have inv0:HInv .any l.toArray pre (t :: tl) (Region.listAll (Array.replicate l.toArray.size false) pre) :=
  ⟨hsz,hcl,fun u hu=>by have:=List.all_eq_true.1 hun u hu;simpa using this,fun u hu=>by have:=List.all_eq_true.1 hpre u hu;simpa using this⟩
 have hdis:∀ i∈hd,i ∉ t :: tl:=by
   -- the tail is unlisted where the head is listed whole
  intro i hi hit
  have h1:∀ (r:List Nat) (listed:Array Bool),listed.size = l.toArray.size→i∈r→i < l.toArray.size→(Region.listAll listed r).getD i false = true:=by
   intro r
   induction r with
   | nil=>intro listed _ hm;cases hm
   | cons k r ih =>
    intro listed hsz hm hlt
    simp only[Region.listAll]
    by_cases hr:i∈r
    ·exact ih _ (by simpa using hsz) hr hlt
    ·have hik:i = k:=by rcases List.mem_cons.1 hm with h | h;exact h;exact absurd h hr
     subst hik
     have keep:∀ (r:List Nat) (listed:Array Bool),listed.getD i false = true→(Region.listAll listed r).getD i false = true:=by
      intro r
      induction r with
      | nil=>intro listed h;exact h
      | cons k r ih=>intro listed h;exact ih _ (getD_set_true h)
     exact keep r _ (by simp [hsz];omega)
  have hilt:i < l.toArray.size:=by
   have:∀ (r:List Nat) (listed:Array Bool),Region.freeL .any l.toArray r listed = true→∀ i∈r,i < l.toArray.size:=by
    intro r
    induction r with
    | nil=>intro _ _ i hi;cases hi
    | cons k r ih =>
     intro listed hF i hi
     simp only[Region.freeL,Bool.and_eq_true] at hF
     rcases List.mem_cons.1 hi with h | h
     ·subst h
      have hr':i∈Region.ready .any l.toArray listed:=by simpa using hF.1.1
      obtain ⟨_,o,h0,_⟩:=mem_ready.1 hr'
      exact (Array.getElem?_eq_some_iff.1 h0).1
     ·exact ih _ hF.2 i h
   exact this hd _ hF2 i hi
  have h2:=h1 hd _ hsz hi hilt
   -- but the sequence takes it up later
  have h3:∀ (r:List Nat) (listed:Array Bool),Region.mixL .any l.toArray r listed = true→i∈r→listed.getD i false = false:=by
   intro r
   induction r with
   | nil=>intro _ _ hm;cases hm
   | cons k r ih =>
    intro listed hB hm
    simp only[Region.mixL,Bool.and_eq_true] at hB
    by_cases hik:i = k
    ·subst hik
     have hr':i∈Region.ready .any l.toArray listed:=by
      have hB1:=hB.1
      split at hB1
      ·simp only[Bool.and_eq_true] at hB1;simpa using hB1.1
      ·simp only[decide_eq_true_eq] at hB1;rw[hB1];simp
     exact getD_both (mem_ready.1 hr').1
    ·have hr:i∈r:=by rcases List.mem_cons.1 hm with h | h;exact absurd h hik;exact h
     have:=ih _ hB.2 hr
     rwa [getD_set_ne false (Ne.symm hik)] at this
  rw[h3 _ _ hseq hit] at h2
  cases h2
 let Qn:Exit→Act→World→Prop:=onlyN Q
 have key:wpAny P .any l.toArray Qn (pre.length+(hd.length+(t :: tl).length)) (Array.replicate l.toArray.size false) a w.drew:=by
  refine any_of_pure (Qp:=fun a1=>wpQuiet P l.toArray (fun w'=>∃ i,w' = F i) (fun a'=>∀ i,wpList P l.toArray Qn ((t :: tl).map fun i=>l.toArray.getD i default) a' (F i)) (hd.map fun i=>l.toArray.getD i default) a1) hsel (fun c a w hq=>hq) pre _ a _ hF1 h ?_
  intro a1 h1
  have H:=headL_lex (md:=.any) (C:=fun w'=>∃ i,w' = F i) hpt hsel hs hch hall hdis hd _ a1 (fun _ h=>h) inv0 hF2 hseq h1
  exact any_of_headL (C:=fun w'=>∃ i,w' = F i) (Q':=Qn) (g:=(t :: tl).length) (fun listed a' w' hw' hL=>by
   obtain ⟨i,rfl⟩:=hw'
   exact any_of_mixL hsel (t :: tl) listed a' (F i) hL.1 (hL.2 i)) _ _ _ _ hC H
 rw[hlen] at key
 have mono:∀ (f:Nat) (listed:Array Bool) (a:Act) (w:World),wpAny P .any l.toArray Qn f listed a w→wpAny P .any l.toArray Q f listed a w:=by
  have opm:∀ (i:Nat) (K K':Act→World→Prop) (a:Act) (w:World),(∀ a w,K a w→K' a w)→wpOp P l.toArray Qn i K a w→wpOp P l.toArray Q i K' a w:=by
   intro i K K' a w hk hh
   unfold wpOp at *
   split
   ·rename_i hn;simp only[hn] at hh;exact hk _ _ hh
   ·rename_i o ho
    simp only[ho] at hh
    split
    ·rename_i hw
     simp only[hw,if_true] at hh
     rcases hh with hh | ⟨_,hl⟩
     ·refine .inl ?_
      unfold Oper.wp at *
      generalize (execOp a.eval o).run P w = r at *
      cases r with
      | ok n w' =>
       cases n <;> simp only[Oper.upon] at hh ⊢ <;>
        first
         | exact hk _ _ hh
         | exact Calls.mono hh (fun e w'' he=>by cases e <;> first | exact hk _ _ he | exact absurd he id | exact absurd (he .normal default default) (by simp [Qn,onlyN]) | (exfalso;revert he;simp [LetsOut,Qn,onlyN]) )
         | exact Rows.mono hh (fun _ _ he=>hk _ _ he)
      | halt x w'=>cases x <;> simp only[Oper.upon] at hh ⊢ <;> first | exact hh | exact False.elim hh
     ·exfalso;revert hl;simp [LetsOut,Qn,onlyN]
    ·rename_i hw;simp only[hw] at hh;exact hk _ _ hh
  intro f
  induction f with
  | zero=>intro listed a w h;exact h
  | succ f ih=>intro listed a w h;exact ⟨h.1,fun i hi=>opm i _ _ a w (fun a w=>ih _ a w) (h.2 i hi)⟩
 exact wp_region_any hm (mono _ _ _ _ key)
end
end Go.Proofs.YtdpoppilnokniaaGreatDoor
namespace Go.Proofs.YtdpoppilnokniaaGreatDoor
open Go.RowKit
section
variable {P:Program} {ops:Array Oper} {md:Region.Mode} {B:World}
def growUpon (P:Program) (w:World) (v:Value):Result Next→Prop
 | .ok (.value u) w'=>w' = w∧u = v
 | .ok .skip w'=>w' = w∧v = undef
 | .ok (.enter f args) w'=>w' = w∧Calls P f args w (fun e w''=>e = .returned v∧Below w.heap.size w w'')
 | _=>False
def growAt (P:Program) (o:Oper) (a:Act) (w:World) (v:Value):Prop:=growUpon P w v ((execOp a.eval o).run P w)
def YieldsG (P:Program) (ops:Array Oper) (B:World) (o:Oper) (v:Value) (a:Act):Prop :=
 (Region.wanted o (yielded ops a.tmps) = true∧∀ w,Below B.heap.size B w→growAt P o a w v)∨(Region.wanted o (yielded ops a.tmps) = false∧v = undef)
def gOp (P:Program) (ops:Array Oper) (B:World) (i:Nat) (K:Act→Prop) (a:Act):Prop :=
 ∃ o,ops[i]? = some o∧∃ v,YieldsG P ops B o v a∧K (a.put o.dst v)
def wpGrow (P:Program) (ops:Array Oper) (B:World) (Q:Act→Prop):List Oper→Act→Prop
 | [],a=>Q a
 | o :: r,a=>∃ v,YieldsG P ops B o v a∧wpGrow P ops B Q r (a.put o.dst v)
def ptr (b:Nat):Value:=.pointer (some ⟨b,0,none⟩)
def anyG (P:Program) (md:Region.Mode) (ops:Array Oper) (B:World) (al:List (Nat×Tmp×Obj)) (hd:List Nat) (L:Array Bool→Act→Prop):Nat→Array Bool→Act→Prop
 | 0,listed,a=>L listed a
 | f+1,listed,a =>
  Region.ready md ops listed ≠ []∧∀ i∈Region.ready md ops listed,(i∈hd∧gOp P ops B i (anyG P md ops B al hd L f (listed.setIfInBounds i true)) a) ∨
   (∃ d o,(i,d,o)∈al∧∀ b,anyG P md ops B al hd L f (listed.setIfInBounds i true) (a.put (some d) (ptr b)))
structure GInv (B:World) (al:List (Nat×Tmp×Obj)) (listed:Array Bool) (a:Act) (w:World):Prop where
 below:Below B.heap.size B w
 wide:∀ k d o,(k,d,o)∈al→d < a.tmps.size
 laid:∀ k d o,(k,d,o)∈al→listed.getD k false = true→∃ b,a.tmps[d]? = some (ptr b)∧B.heap.size≤b∧w.heap[b]? = some o
 apart:∀ k d o k' d' o' b b',(k,d,o)∈al→(k',d',o')∈al→k ≠ k'→listed.getD k false = true→listed.getD k' false = true→a.tmps[d]? = some (ptr b)→a.tmps[d']? = some (ptr b')→b ≠ b'
theorem put_other {a:Act}{dst:Option Tmp}{v:Value}{d:Tmp}(h:dst ≠ some d):(a.put dst v).tmps[d]? = a.tmps[d]?:=by
 cases dst with
 | none=>rfl
 | some x =>
  have hne:x ≠ d:=fun e=>h (e ▸ rfl)
  simp [Act.put,Array.getElem?_setIfInBounds_ne hne]
theorem put_size {a:Act}{dst:Option Tmp}{v:Value}:(a.put dst v).tmps.size = a.tmps.size:=by cases dst <;> simp [Act.put]
theorem GInv.head {al:List (Nat×Tmp×Obj)}{listed:Array Bool}{a:Act}{w w':World}(h:GInv B al listed a w) {i:Nat}{dst:Option Tmp}{v:Value}
  (hi:∀ k d o,(k,d,o)∈al→k ≠ i) (hd:∀ k d o,(k,d,o)∈al→dst ≠ some d) (hb:Below w.heap.size w w'):GInv B al (listed.setIfInBounds i true) (a.put dst v) w':=by
 refine ⟨h.below.trans (hb.mono h.below.size),fun k d o hk=>by rw[put_size];exact h.wide k d o hk,fun k d o hk hl=>?_,fun k d o k' d' o' b b' hk hk' hne hl hl' ht ht'=>?_⟩
 ·rw[getD_set_ne false (Ne.symm (hi k d o hk))] at hl
  obtain ⟨b,h1,h2,h3⟩:=h.laid k d o hk hl
  exact ⟨b,by rw[put_other (hd k d o hk)];exact h1,h2,by rw[hb.block b (Array.getElem?_eq_some_iff.1 h3).1];exact h3⟩
 ·rw[getD_set_ne false (Ne.symm (hi k d o hk))] at hl
  rw[getD_set_ne false (Ne.symm (hi k' d' o' hk'))] at hl'
  rw[put_other (hd k d o hk)] at ht
  rw[put_other (hd k' d' o' hk')] at ht'
  exact h.apart k d o k' d' o' b b' hk hk' hne hl hl' ht ht'
theorem GInv.alloc {al:List (Nat×Tmp×Obj)}{listed:Array Bool}{a:Act}{w:World}(h:GInv B al listed a w) {i:Nat}{d:Tmp}{o:Obj}(hm:(i,d,o)∈al)
  (hone:∀ k d' o',(k,d',o')∈al→k = i→d' = d∧o' = o) (hdd:∀ k d' o',(k,d',o')∈al→k ≠ i→d' ≠ d) :
  GInv B al (listed.setIfInBounds i true) (a.put (some d) (ptr w.heap.size)) (w.alloc o):=by
 have hself:(a.put (some d) (ptr w.heap.size)).tmps[d]? = some (ptr w.heap.size):=by
  have:=h.wide i d o hm
  simp [Act.put,this]
 have hsz:=h.below.size
 have old:∀ k d' o',(k,d',o')∈al→k ≠ i→(a.put (some d) (ptr w.heap.size)).tmps[d']? = a.tmps[d']?:=fun k d' o' hk hne=>put_other (fun e=>hdd k d' o' hk hne (Option.some.inj e).symm)
 refine ⟨h.below.alloc hsz o,fun k d' o' hk=>by rw[put_size];exact h.wide k d' o' hk,fun k d' o' hk hl=>?_,fun k d1 o1 k' d2 o2 b b' hk hk' hne hl hl' ht ht'=>?_⟩
 ·by_cases hki:k = i
  ·obtain ⟨rfl,rfl⟩:=hone k d' o' hk hki
   exact ⟨w.heap.size,hself,hsz,heap_alloc_new w _⟩
  ·rw[getD_set_ne false (Ne.symm hki)] at hl
   obtain ⟨b,h1,h2,h3⟩:=h.laid k d' o' hk hl
   exact ⟨b,by rw[old k d' o' hk hki];exact h1,h2,(Below.heap_alloc w o b (Array.getElem?_eq_some_iff.1 h3).1).trans h3⟩
 ·have lt:∀ k d' o' b,(k,d',o')∈al→k ≠ i→(listed.setIfInBounds i true).getD k false = true→(a.put (some d) (ptr w.heap.size)).tmps[d']? = some (ptr b)→b < w.heap.size:=by
   intro k d' o' b hk hki hl ht
   rw[getD_set_ne false (Ne.symm hki)] at hl
   obtain ⟨b2,h1,h2,h3⟩:=h.laid k d' o' hk hl
   rw[old k d' o' hk hki,h1] at ht
   simp [ptr] at ht
   subst ht
   exact (Array.getElem?_eq_some_iff.1 h3).1
  by_cases hki:k = i
  ·obtain ⟨rfl,rfl⟩:=hone k d1 o1 hk hki
   rw[hself] at ht
   simp [ptr] at ht
   have:=lt k' d2 o2 b' hk' (fun e=>hne (hki.trans e.symm)) hl' ht'
   omega
  ·by_cases hki':k' = i
   ·obtain ⟨rfl,rfl⟩:=hone k' d2 o2 hk' hki'
    rw[hself] at ht'
    simp [ptr] at ht'
    have:=lt k d1 o1 b hk hki hl ht
    omega
   ·rw[getD_set_ne false (Ne.symm hki)] at hl
    rw[getD_set_ne false (Ne.symm hki')] at hl'
    rw[old k d1 o1 hk hki] at ht
    rw[old k' d2 o2 hk' hki'] at ht'
    exact h.apart k d1 o1 k' d2 o2 b b' hk hk' hne hl hl' ht ht'
def LaysAll (P:Program) (ops:Array Oper) (al:List (Nat×Tmp×Obj)):Prop :=
 ∀ k d o,(k,d,o)∈al→∃ op,ops[k]? = some op∧op.dst = some d∧op.guard = none∧∀ (a:Act) (w:World),(execOp a.eval op).run P w = .ok (.value (ptr w.heap.size)) (w.alloc o)
def Region.growB (ops:Array Oper) (al:List (Nat×Tmp×Obj)) (hd:List Nat):Bool :=
 (hd.all fun i=>al.all fun x=>x.1 != i && (ops.getD i default).dst != some x.2.1)
def aloneB:List (Nat×Tmp×Obj)→Bool
 | []=>true
 | x :: r=>(r.all fun y=>y.1 != x.1 && y.2.1 != x.2.1) && aloneB r
def allQ (Lq:Act→Prop):List (Nat×Tmp×Obj)→Act→Prop
 | [],a=>Lq a
 | (_,d,_) :: r,a=>∀ b,allQ Lq r (a.put (some d) (ptr b))
theorem tail_done {t:Nat}{tl:List Nat}(hpt:Region.pureAt ops t = false) {listed:Array Bool}(h1:Region.mixL md ops (t :: tl) listed = true):∀ j∈Region.ready md ops listed,j∈t :: tl:=by
 intro j hj
 simp only[Region.mixL,hpt,Bool.false_eq_true,if_false,Bool.and_eq_true,decide_eq_true_eq] at h1
 rw[h1.1] at hj
 simp at hj;simp [hj]
theorem any_only_mono {Q:Exit→Act→World→Prop}:∀ (f:Nat) (listed:Array Bool) (a:Act) (w:World),wpAny P md ops (onlyN Q) f listed a w→wpAny P md ops Q f listed a w:=by
 have opm:∀ (i:Nat) (K K':Act→World→Prop) (a:Act) (w:World),(∀ a w,K a w→K' a w)→wpOp P ops (onlyN Q) i K a w→wpOp P ops Q i K' a w:=by
  intro i K K' a w hk hh
  unfold wpOp at *
  split
  ·rename_i hn;simp only[hn] at hh;exact hk _ _ hh
  ·rename_i o ho
   simp only[ho] at hh
   split
   ·rename_i hw
    simp only[hw,if_true] at hh
    rcases hh with hh | ⟨_,hl⟩
    ·refine .inl ?_
     unfold Oper.wp at *
     generalize (execOp a.eval o).run P w = r at *
     cases r with
     | ok n w' =>
      cases n <;> simp only[Oper.upon] at hh ⊢ <;>
       first
        | exact hk _ _ hh
        | exact Calls.mono hh (fun e w'' he=>by cases e <;> first | exact hk _ _ he | exact absurd he id | exact absurd (he .normal default default) (by simp [onlyN]) | (exfalso;revert he;simp [LetsOut,onlyN]) )
        | exact Rows.mono hh (fun _ _ he=>hk _ _ he)
     | halt x w'=>cases x <;> simp only[Oper.upon] at hh ⊢ <;> first | exact hh | exact False.elim hh
    ·exfalso;revert hl;simp [LetsOut,onlyN]
   ·rename_i hw;simp only[hw] at hh;exact hk _ _ hh
 intro f
 induction f with
 | zero=>intro listed a w h;exact h
 | succ f ih=>intro listed a w h;exact ⟨h.1,fun i hi=>opm i _ _ a w (fun a w=>ih _ a w) (h.2 i hi)⟩
/-! One operation of a growing head at a time. -/
def tameOp (ρ:Operand→Value):Op→Bool
 | .move _ | .assign _ | .extract .. | .indexAddr .. | .fieldAddr .. | .load .. | .binOp .. | .unOp .. | .pick .. | .index .. | .field .. | .build .. | .slice .. | .convert ..=>true
 | .nilCheck x=>(match ρ x with | .pointer (some _)=>true | _=>false)
 | _=>false
theorem value_run (s:Sem Value) {w w':World}{f:FuncId}{args:Array Value}:(do pure (.value (←s)):Sem Next).run P w ≠ .ok (.enter f args) w':=by
 rw[Sem.run_bind]
 cases Sem.run P s w <;> simp [Result.andThen,Sem.run_pure]
theorem tame_run {o:Oper}{ρ:Operand→Value}(ht:tameOp ρ o.op = true) {w w':World}{f:FuncId}{args:Array Value}:(execOp ρ o).run P w ≠ .ok (.enter f args) w':=by
 unfold execOp
 cases ho:o.op <;> rw[ho] at ht <;> simp only[tameOp,Bool.false_eq_true] at ht <;> dsimp only <;> first | exact value_run _ | (intro h;cases h) | skip
 ·rw[Sem.run_bind]
  cases Sem.run P (asBool _) w <;> simp [Result.andThen,Sem.run_pure]
 ·split at ht
  ·rename_i h;rw[h];intro h;cases h
  ·cases ht
theorem grow_family (B:World):∃ (ι:Type) (_:Nonempty ι) (F:ι→World),(∀ i,Below B.heap.size B (F i))∧∀ w,Below B.heap.size B w→∃ i,w = F i :=
 ⟨{ w:World // Below B.heap.size B w },⟨⟨B,Below.refl _ _⟩⟩,Subtype.val,fun i=>i.2,fun w h=>⟨⟨w,h⟩,rfl⟩⟩
end
end Go.Proofs.YtdpoppilnokniaaGreatDoor
namespace Go.Proofs.YtdpoppilnokniaaGreatDoor
open Go.RowKit
section
variable {P:Program} {ops:Array Oper} {md:Region.Mode} {σ:Type}
structure Plan (σ:Type) where
 K:σ→World→Prop
 D:σ→World→Prop
 mstep:Nat→σ→σ→Prop
 mval:Nat→σ→Value
 mains:List Nat
 al:List (Nat×(Nat→Value)×Obj)
 /-- Stores into a block that the region has laid: the operation, and the one that laid the block. -/
 st:List (Nat×Nat):=[]
 B0:Nat
def Plan.kind (p:Plan σ) (i:Nat):Nat:=if (p.al.map (·.1)).contains i then 1 else if p.mains.contains i then 2 else if (p.st.map (·.1)).contains i then 3 else 0
def setAt (w:World) (b:Nat) (o:Obj):World:={ w with heap:=w.heap.setIfInBounds b o }
structure Plan.Ok (p:Plan σ):Prop where
 sub:∀ s w,p.K s w→p.D s w
 alloc:∀ s w i val o,(i,val,o)∈p.al→p.K s w→p.K s (w.alloc o)
 anti:∀ i s s' w,p.mstep i s s'→p.D s' w→p.D s w
 size:∀ s w,p.K s w→p.B0≤w.heap.size
 alone:(p.al.map (·.1)).Nodup
 lone:(p.st.map (·.1)).Nodup
 set:p.st = []∨∀ s w b o,p.B0≤b→p.K s w→p.K s (setAt w b o)
theorem alone_eq {α:Type}:∀ {l:List (Nat×α)},(l.map (·.1)).Nodup→∀ {i x y},(i,x)∈l→(i,y)∈l→x = y
 | [],_,_,_,_,h,_=>by cases h
 | (k,z) :: r,hn,i,x,y,h,h'=>by
  simp only[List.map_cons,List.nodup_cons] at hn
  rcases List.mem_cons.1 h with h1 | h1 <;> rcases List.mem_cons.1 h' with h2 | h2
  ·rw[←h1] at h2;cases h2;rfl
  ·cases h1;exact absurd (List.mem_map.2 ⟨_,h2,rfl⟩) hn.1
  ·cases h2;exact absurd (List.mem_map.2 ⟨_,h1,rfl⟩) hn.1
  ·exact alone_eq hn.2 h1 h2
def Kept (B0:Nat) (w w':World):Prop:=w.heap.size≤w'.heap.size∧∀ b,B0≤b→b < w.heap.size→w'.heap[b]? = w.heap[b]?
theorem Kept.refl (B0:Nat) (w:World):Kept B0 w w:=⟨Nat.le_refl _,fun _ _ _=>rfl⟩
theorem Kept.below {B0:Nat}{w w':World}(h:Below w.heap.size w w'):Kept B0 w w':=⟨h.size,fun b _ hb=>h.block b hb⟩
def laid (B0:Nat) (Bs:List (Nat×Nat×Obj)) (w:World):Prop:=(Bs.map (·.2.1)).Nodup∧∀ x∈Bs,B0≤x.2.1∧w.heap[x.2.1]? = some x.2.2
theorem laid_perm {B0:Nat}{Bs Bs':List (Nat×Nat×Obj)}(h:Bs.Perm Bs') {w:World}(hl:laid B0 Bs w):laid B0 Bs' w :=
 ⟨(h.map _).nodup_iff.1 hl.1,fun x hx=>hl.2 x (h.mem_iff.2 hx)⟩
theorem laid_kept {B0:Nat}{Bs:List (Nat×Nat×Obj)}{w w':World}(hk:Kept B0 w w') (hl:laid B0 Bs w):laid B0 Bs w' :=
 ⟨hl.1,fun x hx=>⟨(hl.2 x hx).1,by
  have h2:=(hl.2 x hx).2
  rw[hk.2 x.2.1 (hl.2 x hx).1 (Array.getElem?_eq_some_iff.1 h2).1];exact h2⟩⟩
theorem laid_alloc {B0:Nat}{Bs:List (Nat×Nat×Obj)}{w:World}{o:Obj}(i:Nat) (hB:B0≤w.heap.size) (hl:laid B0 Bs w):laid B0 ((i,w.heap.size,o) :: Bs) (w.alloc o):=by
 refine ⟨?_,fun x hx=>?_⟩
 ·simp only[List.map_cons,List.nodup_cons]
  refine ⟨fun hm=>?_,hl.1⟩
  obtain ⟨x,hx,he⟩:=List.mem_map.1 hm
  have:=(Array.getElem?_eq_some_iff.1 (hl.2 x hx).2).1
  omega
 ·rcases List.mem_cons.1 hx with rfl | hx
  ·exact ⟨hB,heap_alloc_new w _⟩
  ·exact ⟨(hl.2 x hx).1,(Below.heap_alloc w o x.2.1 (Array.getElem?_eq_some_iff.1 (hl.2 x hx).2).1).trans (hl.2 x hx).2⟩
theorem laid_fresh {B0:Nat}{Bs:List (Nat×Nat×Obj)}{w:World}(hl:laid B0 Bs w):∀ x∈Bs,x.2.1 ≠ w.heap.size:=fun x hx=>by
 have:=(Array.getElem?_eq_some_iff.1 (hl.2 x hx).2).1
 omega
def setB (Bs:List (Nat×Nat×Obj)) (k:Nat) (o:Obj):List (Nat×Nat×Obj):=Bs.map fun x=>if x.1 = k then (x.1,x.2.1,o) else x
theorem laid_set {B0:Nat}{Bs:List (Nat×Nat×Obj)}{w:World}{k b:Nat}{o o':Obj}(hm:(k,b,o)∈Bs) (hu:∀ x∈Bs,x.1 = k→x = (k,b,o)) (hl:laid B0 Bs w):laid B0 (setB Bs k o') (setAt w b o'):=by
 have hfst:(setB Bs k o').map (·.2.1) = Bs.map (·.2.1):=by
  unfold setB
  rw[List.map_map]
  exact List.map_congr_left fun x _=>by simp only[Function.comp];split <;> rfl
 refine ⟨by rw[hfst];exact hl.1,fun x hx=>?_⟩
 obtain ⟨y,hy,rfl⟩:=List.mem_map.1 hx
 have hlt:=(Array.getElem?_eq_some_iff.1 (hl.2 _ hm).2).1
 split
 ·rename_i hk
  obtain rfl:=hu y hy hk
  exact ⟨(hl.2 _ hm).1,by show (w.heap.setIfInBounds b o')[b]? = some o';exact Array.getElem?_setIfInBounds_self_of_lt hlt⟩
 ·rename_i hk
  refine ⟨(hl.2 y hy).1,?_⟩
  have hne:b ≠ y.2.1:=by
   intro e
   have hp:=List.pairwise_map.1 hl.1
     -- two members with one block are one
   have:∀ {l:List (Nat×Nat×Obj)},(l.map (·.2.1)).Nodup→∀ {x y},x∈l→y∈l→x.2.1 = y.2.1→x = y:=by
    intro l
    induction l with
    | nil=>intro _ _ _ h;cases h
    | cons z l ih =>
     intro hn x y h h' he
     simp only[List.map_cons,List.nodup_cons] at hn
     rcases List.mem_cons.1 h with h1 | h1 <;> rcases List.mem_cons.1 h' with h2 | h2
     ·rw[h1,h2]
     ·exact absurd (List.mem_map.2 ⟨y,h2,by rw[←he,h1]⟩) hn.1
     ·exact absurd (List.mem_map.2 ⟨x,h1,by rw[he,h2]⟩) hn.1
     ·exact ih hn.2 h1 h2 he
   have:=this hl.1 hm hy e
   rw[←this] at hk
   exact hk rfl
  show (w.heap.setIfInBounds b o')[y.2.1]? = _
  rw[Array.getElem?_setIfInBounds_ne hne]
  exact (hl.2 y hy).2
theorem setB_perm {Bs Bs':List (Nat×Nat×Obj)}(h:Bs.Perm Bs') (k:Nat) (o:Obj):(setB Bs k o).Perm (setB Bs' k o):=h.map _
theorem setB_cons {Bs:List (Nat×Nat×Obj)}{i b k:Nat}{o o':Obj}(h:i ≠ k):setB ((i,b,o) :: Bs) k o' = (i,b,o) :: setB Bs k o':=by simp [setB,h]
def storeUpon (w:World) (b:Nat) (o:Obj):Result Next→Prop
 | .ok .skip w'=>w' = setAt w b o
 | .ok (.value v) w'=>v = undef∧w' = setAt w b o
 | _=>False
def StoresA (P:Program) (o:Oper) (a:Act) (b:Nat) (obj obj':Obj):Prop:=∀ w:World,w.heap[b]? = some obj→storeUpon w b obj' ((execOp a.eval o).run P w)
theorem StoresA.one {P:Program}{o:Oper}{a:Act}{b:Nat}{obj o1 o2:Obj}(w0:World) (h1:StoresA P o a b obj o1) (h2:StoresA P o a b obj o2):o1 = o2:=by
 obtain ⟨w,hw⟩:∃ w:World,w = { w0 with heap:=Array.replicate (b+1) obj }:=⟨_,rfl⟩
 have hb:w.heap[b]? = some obj:=by subst hw;simp
 have hlt:=(Array.getElem?_eq_some_iff.1 hb).1
 have a1:=h1 w hb
 have a2:=h2 w hb
 have key:setAt w b o1 = setAt w b o2→o1 = o2:=fun e=>by
  have:=congrArg (fun w:World=>w.heap[b]?) e
  simpa [setAt,hlt] using this
 generalize Sem.run P (execOp a.eval o) w = r at *
 cases r with
 | ok n w' =>
  cases n <;> simp only[storeUpon] at a1 a2
  ·exact key (a1.2.symm.trans a2.2)
  ·exact key (a1.symm.trans a2)
 | halt x w'=>exact a1.elim
def valUpon (w:World) (v:Value):Result Next→Prop
 | .ok (.value u) w'=>w' = w∧u = v
 | .ok .skip w'=>w' = w∧v = undef
 | _=>False
theorem valUpon_one {w:World}{v u:Value}{r:Result Next}(h:valUpon w v r) (h':valUpon w u r):v = u:=by
 cases r with
 | ok n w' =>
  cases n <;> simp only[valUpon] at h h'
  ·exact h.2.symm.trans h'.2
  ·exact h.2.trans h'.2.symm
 | halt x w'=>exact h.elim
def QuietK (P:Program) (C:World→Prop) (o:Oper) (a:Act) (v:Value):Prop:=∀ w,C w→valUpon w v ((execOp a.eval o).run P w)
def LaysA (P:Program) (o:Oper) (a:Act) (val:Nat→Value) (obj:Obj):Prop:=∀ w:World,(execOp a.eval o).run P w = .ok (.value (val w.heap.size)) (w.alloc obj)
def stepUpon (P:Program) (B0:Nat) (w:World) (post:Value→World→Prop):Result Next→Prop
 | .ok (.value v) w'=>post v w'∧Kept B0 w w'
 | .ok .skip w'=>post undef w'∧Kept B0 w w'
 | .ok (.enter f args) w'=>Calls P f args w' fun e w''=>∃ v,e = .returned v∧post v w''∧Kept B0 w w''
 | _=>False
def StepK (P:Program) (p:Plan σ) (i:Nat) (o:Oper) (a:Act) (s:σ):Prop :=
 ∀ w,p.K s w→stepUpon P p.B0 w (fun v w'=>∃ s',p.mstep i s s'∧(o.dst = none∨v = p.mval i s')∧p.K s' w') ((execOp a.eval o).run P w)
def anyK (P:Program) (md:Region.Mode) (ops:Array Oper) (p:Plan σ) (L:Array Bool→Act→σ→List (Nat×Nat×Obj)→Prop):Nat→Array Bool→Act→σ→List (Nat×Nat×Obj)→Prop
 | 0,listed,a,s,Bs=>L listed a s Bs
 | f+1,listed,a,s,Bs=>Region.ready md ops listed ≠ []∧∀ i∈Region.ready md ops listed,
  if Region.wanted (ops.getD i default) (yielded ops a.tmps) then
   (p.kind i = 0∧∃ v,QuietK P (p.D s) (ops.getD i default) a v∧anyK P md ops p L f (listed.setIfInBounds i true) (a.put (ops.getD i default).dst v) s Bs) ∨
   (p.kind i = 1∧∃ val obj,(i,val,obj)∈p.al∧LaysA P (ops.getD i default) a val obj∧∀ b,(∀ x∈Bs,x.2.1 ≠ b)→anyK P md ops p L f (listed.setIfInBounds i true) (a.put (ops.getD i default).dst (val b)) s ((i,b,obj) :: Bs)) ∨
   (p.kind i = 2∧StepK P p i (ops.getD i default) a s∧∀ s',p.mstep i s s'→(∃ w,p.K s' w)→anyK P md ops p L f (listed.setIfInBounds i true) (a.put (ops.getD i default).dst (p.mval i s')) s' Bs) ∨
   (p.kind i = 3∧∃ k b obj obj',(i,k)∈p.st∧(k,b,obj)∈Bs∧(∀ x∈Bs,x.1 = k→x = (k,b,obj))∧StoresA P (ops.getD i default) a b obj obj'∧anyK P md ops p L f (listed.setIfInBounds i true) (a.put (ops.getD i default).dst undef) s (setB Bs k obj'))
  else anyK P md ops p L f (listed.setIfInBounds i true) (a.put (ops.getD i default).dst undef) s Bs
theorem getD_of {i:Nat}{o:Oper}(h:ops[i]? = some o):ops.getD i default = o:=by simp [Array.getD_eq_getD_getElem?,h]
theorem put_none_or {a:Act}{dst:Option Tmp}{v u:Value}(h:dst = none∨v = u):a.put dst v = a.put dst u:=by
 rcases h with h | h
 ·subst h;rfl
 ·rw[h]
theorem any_of_anyK {p:Plan σ}(hp:p.Ok) {g:Nat}{L:Array Bool→Act→σ→List (Nat×Nat×Obj)→Prop}{Q':Exit→Act→World→Prop}
  (hL:∀ listed a s Bs w,p.K s w→laid p.B0 Bs w→L listed a s Bs→wpAny P md ops Q' g listed a w) :
  ∀ (f:Nat) (listed:Array Bool) (a:Act) (s:σ) (Bs:List (Nat×Nat×Obj)) (w:World),p.K s w→laid p.B0 Bs w→anyK P md ops p L f listed a s Bs→wpAny P md ops Q' (f+g) listed a w
 | 0,listed,a,s,Bs,w,hk,hl,h=>by rw[Nat.zero_add];exact hL _ _ _ _ _ hk hl h
 | f+1,listed,a,s,Bs,w,hk,hl,h=>by
  rw[show f+1+g = (f+g)+1 by omega]
  refine ⟨fun h0=>absurd h0 h.1,fun i hi=>?_⟩
  obtain ⟨_,o,h0,_⟩:=mem_ready.1 hi
  have hget:ops.getD i default = o:=getD_of h0
  have h1:=h.2 i hi
  rw[hget] at h1
  unfold wpOp
  simp only[h0]
  split at h1
  ·rename_i hw
   simp only[hw,if_true]
   refine .inl ?_
   unfold Oper.wp
   rcases h1 with ⟨_,v,hq,hn⟩ | ⟨_,val,obj,hm,hlay,hn⟩ | ⟨_,hst,hn⟩ | ⟨_,k,b,obj,obj',hm,hmb,hu,hst,hn⟩
   ·have h3:=hq w (hp.sub _ _ hk)
    generalize (execOp a.eval o).run P w = r at *
    cases r with
    | ok n w' =>
     cases n <;> simp only[valUpon] at h3 <;> simp only[Oper.upon]
     case value u=>obtain ⟨rfl,rfl⟩:=h3;exact any_of_anyK hp hL f _ _ _ _ _ hk hl hn
     case skip=>obtain ⟨rfl,rfl⟩:=h3;exact any_of_anyK hp hL f _ _ _ _ _ hk hl hn
    | halt x w'=>simp only[valUpon] at h3
   ·rw[hlay w]
    simp only[Oper.upon]
    exact any_of_anyK hp hL f _ _ _ _ _ (hp.alloc _ _ _ _ _ hm hk) (laid_alloc i (hp.size _ _ hk) hl) (hn _ (laid_fresh hl))
   ·have h3:=hst w hk
    generalize (execOp a.eval o).run P w = r at *
    cases r with
    | ok n w' =>
     cases n <;> simp only[stepUpon] at h3 <;> simp only[Oper.upon]
     case value u=>obtain ⟨⟨s',h4,h5,h6⟩,h7⟩:=h3;rw[put_none_or h5];exact any_of_anyK hp hL f _ _ _ _ _ h6 (laid_kept h7 hl) (hn _ h4 ⟨_,h6⟩)
     case skip=>obtain ⟨⟨s',h4,h5,h6⟩,h7⟩:=h3;rw[put_none_or h5];exact any_of_anyK hp hL f _ _ _ _ _ h6 (laid_kept h7 hl) (hn _ h4 ⟨_,h6⟩)
     case enter fn args =>
      exact h3.mono fun e w'' ⟨v,he,⟨s',h4,h5,h6⟩,h7⟩=>by subst he;dsimp only;rw[put_none_or h5];exact any_of_anyK hp hL f _ _ _ _ _ h6 (laid_kept h7 hl) (hn _ h4 ⟨_,h6⟩)
    | halt x w'=>simp only[stepUpon] at h3
   ·have h3:=hst w (hl.2 _ hmb).2
    have hK:=(hp.set.resolve_left (by intro e;rw[e] at hm;cases hm)) s w b obj' (hl.2 _ hmb).1 hk
    generalize (execOp a.eval o).run P w = r at *
    cases r with
    | ok n w' =>
     cases n <;> simp only[storeUpon] at h3 <;> simp only[Oper.upon]
     case value u=>obtain ⟨rfl,rfl⟩:=h3;exact any_of_anyK hp hL f _ _ _ _ _ hK (laid_set hmb hu hl) hn
     case skip=>subst h3;exact any_of_anyK hp hL f _ _ _ _ _ hK (laid_set hmb hu hl) hn
    | halt x w'=>simp only[storeUpon] at h3
  ·rename_i hw
   simp only[hw]
   exact any_of_anyK hp hL f _ _ _ _ _ hk hl h1
theorem anyK_perm {p:Plan σ}{L:Array Bool→Act→σ→List (Nat×Nat×Obj)→Prop}(hL:∀ listed a s Bs Bs',List.Perm Bs Bs'→L listed a s Bs→L listed a s Bs') :
  ∀ (f:Nat) (listed:Array Bool) (a:Act) (s:σ) (Bs Bs':List (Nat×Nat×Obj)),List.Perm Bs Bs'→anyK P md ops p L f listed a s Bs→anyK P md ops p L f listed a s Bs'
 | 0,listed,a,s,Bs,Bs',hb,h=>hL _ _ _ _ _ hb h
 | f+1,listed,a,s,Bs,Bs',hb,h=>by
  refine ⟨h.1,fun i hi=>?_⟩
  have h1:=h.2 i hi
  split at h1
  ·rename_i hw
   rw[if_pos hw]
   rcases h1 with ⟨hk,v,hq,hn⟩ | ⟨hk,val,obj,hm,hlay,hn⟩ | ⟨hk,hst,hn⟩ | ⟨hk,k,b,obj,obj',hm,hmb,hu,hst,hn⟩
   ·exact .inl ⟨hk,v,hq,anyK_perm hL f _ _ _ _ _ hb hn⟩
   ·exact .inr (.inl ⟨hk,val,obj,hm,hlay,fun b hf=>anyK_perm hL f _ _ _ _ _ (hb.cons _) (hn b fun x hx=>hf x (hb.mem_iff.1 hx))⟩)
   ·exact .inr (.inr (.inl ⟨hk,hst,fun s' h4 h5=>anyK_perm hL f _ _ _ _ _ hb (hn s' h4 h5)⟩))
   ·exact .inr (.inr (.inr ⟨hk,k,b,obj,obj',hm,hb.mem_iff.1 hmb,fun x hx=>hu x (hb.mem_iff.2 hx),hst,anyK_perm hL f _ _ _ _ _ (setB_perm hb _ _) hn⟩))
  ·rename_i hw
   rw[if_neg hw]
   exact anyK_perm hL f _ _ _ _ _ hb h1
def Region.sinkT (md:Region.Mode) (ops:Array Oper) (hd:List Nat):List Nat→Bool
 | []=>true
 | t :: tl=>Region.sinkL md ops t hd && Region.chainL md ops t tl
theorem head_onlyT {pre hd tl:List Nat}{listed:Array Bool}(hs:Region.sinkT md ops hd tl = true)
  (hall:∀ i,i < ops.size→i∈pre∨i∈hd∨i∈tl) (inv:HInv md ops pre tl listed) {i:Nat} (hi:i∈hd) (hun:listed.getD i true = false) :
  ∀ j∈Region.ready md ops listed,j∈hd:=by
 cases tl with
 | nil =>
  intro j hj
  obtain ⟨hjun,oj,hoj,_⟩:=mem_ready.1 hj
  rcases hall j (Array.getElem?_eq_some_iff.1 hoj).1 with h | h | h
  ·have:=inv.pres j h;rw[getD_both hjun] at this;cases this
  ·exact h
  ·cases h
 | cons t tl =>
  simp only[Region.sinkT,Bool.and_eq_true] at hs
  exact head_only hs.1 hs.2 hall inv hi hun
theorem quietK_first {p:Plan σ}(hp:p.Ok) {pre hd tl:List Nat}{i:Nat}{oi:Oper}{v:Value}{L:Array Bool→Act→σ→List (Nat×Nat×Obj)→Prop}(hi:ops[i]? = some oi)
  (hsel:∀ (j:Nat) (o:Oper) cs b,ops[j]? = some o→o.op ≠ .select cs b)
  (hs:Region.sinkT md ops hd tl = true) (hall:∀ i,i < ops.size→i∈pre∨i∈hd∨i∈tl) (hdis:∀ i∈hd,i ∉ tl) (hin:i∈hd)
  (hdone:∀ listed a s Bs,L listed a s Bs→∀ j∈Region.ready md ops listed,j∈tl) :
  ∀ (f:Nat) (listed:Array Bool) (a:Act) (s:σ) (Bs:List (Nat×Nat×Obj)),HInv md ops pre tl listed →
   (∀ j oj,ops[j]? = some oj→j ≠ i→listed.getD j true = false→(∀ e∈oj.after,Region.binds md e = true→e.on ≠ i)→oi.apart ops oj = true) →
   i∈Region.ready md ops listed→((Region.wanted oi (yielded ops a.tmps) = true∧p.kind i = 0∧QuietK P (p.D s) oi a v)∨(Region.wanted oi (yielded ops a.tmps) = false∧v = undef)) →
   anyK P md ops p L f (listed.setIfInBounds i true) (a.put oi.dst v) s Bs→anyK P md ops p L (f+1) listed a s Bs:=by
 have self:∀ (f:Nat) (listed:Array Bool) (a:Act) (s:σ) (Bs:List (Nat×Nat×Obj)),((Region.wanted oi (yielded ops a.tmps) = true∧p.kind i = 0∧QuietK P (p.D s) oi a v)∨(Region.wanted oi (yielded ops a.tmps) = false∧v = undef)) →
   anyK P md ops p L f (listed.setIfInBounds i true) (a.put oi.dst v) s Bs →
   (if Region.wanted (ops.getD i default) (yielded ops a.tmps) then
   (p.kind i = 0∧∃ v,QuietK P (p.D s) (ops.getD i default) a v∧anyK P md ops p L f (listed.setIfInBounds i true) (a.put (ops.getD i default).dst v) s Bs) ∨
   (p.kind i = 1∧∃ val obj,(i,val,obj)∈p.al∧LaysA P (ops.getD i default) a val obj∧∀ b,(∀ x∈Bs,x.2.1 ≠ b)→anyK P md ops p L f (listed.setIfInBounds i true) (a.put (ops.getD i default).dst (val b)) s ((i,b,obj) :: Bs)) ∨
   (p.kind i = 2∧StepK P p i (ops.getD i default) a s∧∀ s',p.mstep i s s'→(∃ w,p.K s' w)→anyK P md ops p L f (listed.setIfInBounds i true) (a.put (ops.getD i default).dst (p.mval i s')) s' Bs) ∨
   (p.kind i = 3∧∃ k b obj obj',(i,k)∈p.st∧(k,b,obj)∈Bs∧(∀ x∈Bs,x.1 = k→x = (k,b,obj))∧StoresA P (ops.getD i default) a b obj obj'∧anyK P md ops p L f (listed.setIfInBounds i true) (a.put (ops.getD i default).dst undef) s (setB Bs k obj'))
  else anyK P md ops p L f (listed.setIfInBounds i true) (a.put (ops.getD i default).dst undef) s Bs):=by
  intro f listed a s Bs hy H
  rw[getD_of hi]
  rcases hy with ⟨h1,h2,h3⟩ | ⟨h1,h2⟩
  ·rw[if_pos h1];exact .inl ⟨h2,v,h3,H⟩
  ·rw[if_neg (by rw[h1];exact Bool.false_ne_true),←h2];exact H
 intro f
 induction f with
 | zero =>
  intro listed a s Bs inv _ hr hy H
  have hun:=(mem_ready.1 hr).1
  refine ⟨fun h=>(by rw[h] at hr;cases hr),fun j hj=>?_⟩
  have hjn:=head_onlyT hs hall inv hin hun j hj
  by_cases hji:j = i
  ·subst hji;exact self _ _ _ _ _ hy H
  ·exact absurd (hdone _ _ _ _ H j (ready_mono hj hji)) (hdis j hjn)
 | succ f ih =>
  intro listed a s Bs inv hfree hr hy H
  have hun:=(mem_ready.1 hr).1
  refine ⟨fun h=>(by rw[h] at hr;cases hr),fun j hj=>?_⟩
  have hjn:=head_onlyT hs hall inv hin hun j hj
  by_cases hji:j = i
  ·subst hji;exact self _ _ _ _ _ hy H
  ·have h1:=H.2 j (ready_mono hj hji)
   obtain ⟨hjun,oj,hoj,hall'⟩:=mem_ready.1 hj
   have hget:ops.getD j default = oj:=getD_of hoj
   rw[hget] at h1 ⊢
   have hnot:∀ e∈oj.after,Region.binds md e = true→e.on ≠ i:=fun e he hb heq=>by
    have h1:=hall' e he hb
    rw[heq,getD_both hun] at h1
    cases h1
   have hfree':∀ k ok,ops[k]? = some ok→k ≠ i→(listed.setIfInBounds j true).getD k true = false →
     (∀ e∈ok.after,Region.binds md e = true→e.on ≠ i)→oi.apart ops ok = true:=fun k ok hk hki hun hno=>by
    refine hfree k ok hk hki ?_ hno
    by_cases hjk:j = k
    ·subst hjk;exact hjun
    ·rw[getD_set_ne true hjk] at hun;exact hun
   obtain ⟨g1,g2,g3⟩:=Oper.apart_spec (hfree j oj hoj hji hjun hnot)
   have hexj:execOp (a.put oi.dst v).eval oj = execOp a.eval oj:=execOp_put oj (fun cs b=>hsel j oj cs b hoj) a oi.dst v g1
   have hwj:Region.wanted oj (yielded ops (a.put oi.dst v).tmps) = Region.wanted oj (yielded ops a.tmps):=wanted_put oj a oi.dst v g1
   have keep:∀ u s',(p.D s' = p.D s∨∃ k,p.mstep k s s')→((Region.wanted oi (yielded ops (a.put oj.dst u).tmps) = true∧p.kind i = 0∧QuietK P (p.D s') oi (a.put oj.dst u) v)∨(Region.wanted oi (yielded ops (a.put oj.dst u).tmps) = false∧v = undef)):=by
    intro u s' hss
    rw[wanted_put oi a oj.dst u g3]
    unfold QuietK
    rw[execOp_put oi (fun cs b=>hsel i oi cs b hi) a oj.dst u g3]
    rcases hy with ⟨h1,h2,h3⟩ | h
    ·refine .inl ⟨h1,h2,fun w hw=>h3 w ?_⟩
     rcases hss with h | ⟨k,hk⟩
     ·rw[←h];exact hw
     ·exact hp.anti _ _ _ _ hk hw
    ·exact .inr h
   have next:∀ u s' Bs',(p.D s' = p.D s∨∃ k,p.mstep k s s')→anyK P md ops p L f ((listed.setIfInBounds i true).setIfInBounds j true) ((a.put oi.dst v).put oj.dst u) s' Bs' →
     anyK P md ops p L (f+1) (listed.setIfInBounds j true) (a.put oj.dst u) s' Bs':=fun u s' Bs' hss h=>by
    refine ih _ _ _ _ (inv.set hj (hdis j hjn)) hfree' (ready_mono hr (Ne.symm hji)) (keep u s' hss) ?_
    rw[Array.setIfInBounds_comm _ _ hji,←Act.put_comm a v u g2]
    exact h
   rw[hwj] at h1
   split at h1
   ·rename_i hw
    rw[if_pos hw]
    rcases h1 with ⟨hk,u,hq,hn⟩ | ⟨hk,val,obj,hm,hlay,hn⟩ | ⟨hk,hst,hn⟩ | ⟨hk,k,b,obj,obj',hm,hmb,hu,hst,hn⟩
    ·exact .inl ⟨hk,u,by unfold QuietK at *;rw[hexj] at hq;exact hq,next _ _ _ (.inl rfl) hn⟩
    ·exact .inr (.inl ⟨hk,val,obj,hm,by unfold LaysA at *;rw[hexj] at hlay;exact hlay,fun b hf=>next _ _ _ (.inl rfl) (hn b hf)⟩)
    ·exact .inr (.inr (.inl ⟨hk,by unfold StepK at *;rw[hexj] at hst;exact hst,fun s' h4 h5=>next _ _ _ (.inr ⟨_,h4⟩) (hn s' h4 h5)⟩))
    ·exact .inr (.inr (.inr ⟨hk,k,b,obj,obj',hm,hmb,hu,by unfold StoresA at *;rw[hexj] at hst;exact hst,next _ _ _ (.inl rfl) hn⟩))
   ·rename_i hw
    rw[if_neg hw]
    exact next _ _ _ (.inl rfl) h1
theorem fresh_of (Bs:List (Nat×Nat×Obj)):∃ b,∀ x∈Bs,x.2.1 ≠ b:=by
 have:∀ Bs:List (Nat×Nat×Obj),∃ m,∀ x∈Bs,x.2.1 < m:=by
  intro Bs
  induction Bs with
  | nil=>exact ⟨0,fun x hx=>by cases hx⟩
  | cons y l ih =>
   obtain ⟨m,hm⟩:=ih
   refine ⟨m+y.2.1+1,fun x hx=>?_⟩
   rcases List.mem_cons.1 hx with rfl | h
   ·omega
   ·have:=hm x h;omega
 obtain ⟨m,hm⟩:=this Bs
 exact ⟨m,fun x hx=>by have:=hm x hx;omega⟩
theorem allocK_first {p:Plan σ}(hp:p.Ok) {pre hd tl:List Nat}{i:Nat}{oi:Oper}{val:Nat→Value}{obj:Obj}{L:Array Bool→Act→σ→List (Nat×Nat×Obj)→Prop}(hi:ops[i]? = some oi) (hki:p.kind i = 1) (hm:(i,val,obj)∈p.al)
  (hLp:∀ listed a s Bs Bs',List.Perm Bs Bs'→L listed a s Bs→L listed a s Bs') (hwt:∀ j k,(j,k)∈p.st→Region.waitsFor md ops j k = true)
  (hsel:∀ (j:Nat) (o:Oper) cs b,ops[j]? = some o→o.op ≠ .select cs b)
  (hs:Region.sinkT md ops hd tl = true) (hall:∀ i,i < ops.size→i∈pre∨i∈hd∨i∈tl) (hdis:∀ i∈hd,i ∉ tl) (hin:i∈hd)
  (hdone:∀ listed a s Bs,L listed a s Bs→∀ j∈Region.ready md ops listed,j∈tl) :
  ∀ (f:Nat) (listed:Array Bool) (a:Act) (s:σ) (Bs:List (Nat×Nat×Obj)),HInv md ops pre tl listed→(∃ w,p.K s w) →
   (∀ j oj,ops[j]? = some oj→j ≠ i→listed.getD j true = false→(∀ e∈oj.after,Region.binds md e = true→e.on ≠ i)→oi.apart ops oj = true) →
   i∈Region.ready md ops listed→Region.wanted oi (yielded ops a.tmps) = true→LaysA P oi a val obj →
   (∀ b,(∀ x∈Bs,x.2.1 ≠ b)→anyK P md ops p L f (listed.setIfInBounds i true) (a.put oi.dst (val b)) s ((i,b,obj) :: Bs))→anyK P md ops p L (f+1) listed a s Bs:=by
 intro f
 induction f with
 | zero =>
  intro listed a s Bs inv _ _ hr hw hlay H
  have hun:=(mem_ready.1 hr).1
  refine ⟨fun h=>(by rw[h] at hr;cases hr),fun j hj=>?_⟩
  have hjn:=head_onlyT hs hall inv hin hun j hj
  by_cases hji:j = i
  ·subst hji;rw[getD_of hi,if_pos hw];exact .inr (.inl ⟨hki,val,obj,hm,hlay,H⟩)
  ·obtain ⟨b,hb⟩:=fresh_of Bs
   exact absurd (hdone _ _ _ _ (H b hb) j (ready_mono hj hji)) (hdis j hjn)
 | succ f ih =>
  intro listed a s Bs inv hne hfree hr hw hlay H
  have hun:=(mem_ready.1 hr).1
  refine ⟨fun h=>(by rw[h] at hr;cases hr),fun j hj=>?_⟩
  have hjn:=head_onlyT hs hall inv hin hun j hj
  by_cases hji:j = i
  ·subst hji;rw[getD_of hi,if_pos hw];exact .inr (.inl ⟨hki,val,obj,hm,hlay,H⟩)
  ·have h1:=fun b hb=>(H b hb).2 j (ready_mono hj hji)
   obtain ⟨hjun,oj,hoj,hall'⟩:=mem_ready.1 hj
   have hget:ops.getD j default = oj:=getD_of hoj
   rw[hget] at h1 ⊢
   have hnot:∀ e∈oj.after,Region.binds md e = true→e.on ≠ i:=fun e he hb heq=>by
    have h1:=hall' e he hb
    rw[heq,getD_both hun] at h1
    cases h1
   have hki':∀ k,(j,k)∈p.st→k ≠ i:=fun k hk hki=>by
    obtain ⟨oj',hoj',e,he,hb,hon⟩:=Region.waitsFor_spec (hwt j k hk)
    rw[hoj] at hoj';cases hoj'
    exact hnot e he hb (hon.trans hki)
   have hfree':∀ k ok,ops[k]? = some ok→k ≠ i→(listed.setIfInBounds j true).getD k true = false →
     (∀ e∈ok.after,Region.binds md e = true→e.on ≠ i)→oi.apart ops ok = true:=fun k ok hk hki hun hno=>by
    refine hfree k ok hk hki ?_ hno
    by_cases hjk:j = k
    ·subst hjk;exact hjun
    ·rw[getD_set_ne true hjk] at hun;exact hun
   obtain ⟨g1,g2,g3⟩:=Oper.apart_spec (hfree j oj hoj hji hjun hnot)
   have hexj:∀ b,execOp (a.put oi.dst (val b)).eval oj = execOp a.eval oj:=fun b=>execOp_put oj (fun cs b=>hsel j oj cs b hoj) a oi.dst _ g1
   have hwj:∀ b,Region.wanted oj (yielded ops (a.put oi.dst (val b)).tmps) = Region.wanted oj (yielded ops a.tmps):=fun b=>wanted_put oj a oi.dst _ g1
   have next:∀ u s' Bs',(∃ w,p.K s' w)→(∀ b,(∀ x∈Bs',x.2.1 ≠ b)→anyK P md ops p L f ((listed.setIfInBounds i true).setIfInBounds j true) ((a.put oi.dst (val b)).put oj.dst u) s' ((i,b,obj) :: Bs')) →
     anyK P md ops p L (f+1) (listed.setIfInBounds j true) (a.put oj.dst u) s' Bs':=fun u s' Bs' hss h=>by
    refine ih _ _ _ _ (inv.set hj (hdis j hjn)) hss hfree' (ready_mono hr (Ne.symm hji)) (by rw[wanted_put oi a oj.dst u g3];exact hw) (by unfold LaysA at *;rw[execOp_put oi (fun cs b=>hsel i oi cs b hi) a oj.dst u g3];exact hlay) fun b hb=>?_
    rw[Array.setIfInBounds_comm _ _ hji,←Act.put_comm a _ u g2]
    exact h b hb
   obtain ⟨bf,hbf⟩:=fresh_of Bs
   by_cases hwo:Region.wanted oj (yielded ops a.tmps) = true
   ·rw[if_pos hwo]
    have h2:=fun b hb=>(by have:=h1 b hb;rw[hwj,if_pos hwo] at this;exact this :
     (p.kind j = 0∧∃ v,QuietK P (p.D s) oj (a.put oi.dst (val b)) v∧anyK P md ops p L f ((listed.setIfInBounds i true).setIfInBounds j true) ((a.put oi.dst (val b)).put oj.dst v) s ((i,b,obj) :: Bs)) ∨
     (p.kind j = 1∧∃ val' obj',(j,val',obj')∈p.al∧LaysA P oj (a.put oi.dst (val b)) val' obj'∧∀ b',(∀ x∈(i,b,obj) :: Bs,x.2.1 ≠ b')→anyK P md ops p L f ((listed.setIfInBounds i true).setIfInBounds j true) ((a.put oi.dst (val b)).put oj.dst (val' b')) s ((j,b',obj') :: (i,b,obj) :: Bs)) ∨
     (p.kind j = 2∧StepK P p j oj (a.put oi.dst (val b)) s∧∀ s',p.mstep j s s'→(∃ w,p.K s' w)→anyK P md ops p L f ((listed.setIfInBounds i true).setIfInBounds j true) ((a.put oi.dst (val b)).put oj.dst (p.mval j s')) s' ((i,b,obj) :: Bs)) ∨
     (p.kind j = 3∧∃ k b' o1 o2,(j,k)∈p.st∧(k,b',o1)∈(i,b,obj) :: Bs∧(∀ x∈(i,b,obj) :: Bs,x.1 = k→x = (k,b',o1))∧StoresA P oj (a.put oi.dst (val b)) b' o1 o2∧anyK P md ops p L f ((listed.setIfInBounds i true).setIfInBounds j true) ((a.put oi.dst (val b)).put oj.dst undef) s (setB ((i,b,obj) :: Bs) k o2)))
    rcases h2 bf hbf with ⟨hk,u,hq,_⟩ | ⟨hk,val',obj',hm',hlay',_⟩ | ⟨hk,hst,_⟩ | ⟨hk,k,b',o1,o2,hm',hmb,hu,hst,_⟩
    ·refine .inl ⟨hk,u,by unfold QuietK at *;rw[hexj] at hq;exact hq,next _ _ _ hne fun b hb=>?_⟩
     rcases h2 b hb with ⟨_,u',hq',hn⟩ | ⟨hk',_⟩ | ⟨hk',_⟩ | ⟨hk',_⟩
     ·obtain ⟨w,hw⟩:=hne
      have:=valUpon_one (by unfold QuietK at hq;rw[hexj] at hq;exact hq w (hp.sub _ _ hw)) (by unfold QuietK at hq';rw[hexj] at hq';exact hq' w (hp.sub _ _ hw))
      rw[this];exact hn
     ·rw[hk] at hk';cases hk'
     ·rw[hk] at hk';cases hk'
     ·rw[hk] at hk';cases hk'
    ·refine .inr (.inl ⟨hk,val',obj',hm',by unfold LaysA at *;rw[hexj] at hlay';exact hlay',fun b' hb'=>next _ _ _ hne fun b hb=>?_⟩)
     have hbb:b ≠ b':=fun e=>hb (j,b',obj') (by simp) e.symm
     rcases h2 b (fun x hx=>hb x (List.mem_cons_of_mem _ hx)) with ⟨hk',_⟩ | ⟨_,val2,obj2,hm2,_,hn⟩ | ⟨hk',_⟩ | ⟨hk',_⟩
     ·rw[hk] at hk';cases hk'
     ·have he:=alone_eq hp.alone hm' hm2
      cases he
      refine anyK_perm hLp _ _ _ _ _ _ (List.Perm.swap _ _ _) (hn b' fun x hx=>?_)
      rcases List.mem_cons.1 hx with rfl | hx
      ·exact hbb
      ·exact hb' x hx
     ·rw[hk] at hk';cases hk'
     ·rw[hk] at hk';cases hk'
    ·refine .inr (.inr (.inl ⟨hk,by unfold StepK at *;rw[hexj] at hst;exact hst,fun s' h4 h5=>next _ _ _ h5 fun b hb=>?_⟩))
     rcases h2 b hb with ⟨hk',_⟩ | ⟨hk',_⟩ | ⟨_,_,hn⟩ | ⟨hk',_⟩
     ·rw[hk] at hk';cases hk'
     ·rw[hk] at hk';cases hk'
     ·exact hn s' h4 h5
     ·rw[hk] at hk';cases hk'
    ·have hki:=hki' k hm'
     have down:∀ b x,x∈(i,b,obj) :: Bs→x.1 = k→x∈Bs:=fun b x hx hxk=>by
      rcases List.mem_cons.1 hx with rfl | h
      ·exact absurd hxk (Ne.symm hki)
      ·exact h
     refine .inr (.inr (.inr ⟨hk,k,b',o1,o2,hm',down _ _ hmb rfl,fun x hx=>hu x (List.mem_cons_of_mem _ hx),by unfold StoresA at *;rw[hexj] at hst;exact hst,next _ _ _ hne fun b hb=>?_⟩))
     have hb0:∀ x∈Bs,x.2.1 ≠ b:=fun x hx=>by
      have:=hb (if x.1 = k then (x.1,x.2.1,o2) else x) (List.mem_map.2 ⟨x,hx,rfl⟩)
      split at this <;> exact this
     rcases h2 b hb0 with ⟨hk',_⟩ | ⟨hk',_⟩ | ⟨hk',_⟩ | ⟨_,k2,b2,o3,o4,hm2,hmb2,hu2,hst2,hn⟩
     ·rw[hk] at hk';cases hk'
     ·rw[hk] at hk';cases hk'
     ·rw[hk] at hk';cases hk'
     ·obtain rfl:=alone_eq hp.lone hm' hm2
      have e:=hu2 (k,b',o1) (List.mem_cons_of_mem _ (down _ _ hmb rfl)) rfl
      cases e
      obtain ⟨w0,_⟩:=hne
      obtain rfl:=StoresA.one w0 (by unfold StoresA at hst;rw[hexj] at hst;exact hst) (by unfold StoresA at hst2;rw[hexj] at hst2;exact hst2)
      rw[setB_cons (Ne.symm hki)] at hn
      exact hn
   ·rw[if_neg hwo]
    exact next _ _ _ hne fun b hb=>by have:=h1 b hb;rw[hwj,if_neg hwo] at this;exact this
def wpChain (P:Program) (ops:Array Oper) (p:Plan σ) (Fin:Act→σ→List (Nat×Nat×Obj)→Prop):List (Nat×Oper)→Act→σ→List (Nat×Nat×Obj)→Prop
 | [],a,s,Bs=>Fin a s Bs
 | (i,o) :: r,a,s,Bs =>
  (Region.wanted o (yielded ops a.tmps) = true ∧
   ((p.kind i = 0∧∃ v,QuietK P (p.D s) o a v∧wpChain P ops p Fin r (a.put o.dst v) s Bs) ∨
   (p.kind i = 1∧∃ val obj,(i,val,obj)∈p.al∧LaysA P o a val obj∧∀ b,(∀ x∈Bs,x.2.1 ≠ b)→wpChain P ops p Fin r (a.put o.dst (val b)) s ((i,b,obj) :: Bs)) ∨
   (p.kind i = 2∧StepK P p i o a s∧∀ s',p.mstep i s s'→wpChain P ops p Fin r (a.put o.dst (p.mval i s')) s' Bs) ∨
   (p.kind i = 3∧∃ k b obj obj',(i,k)∈p.st∧(k,b,obj)∈Bs∧(∀ x∈Bs,x.1 = k→x = (k,b,obj))∧StoresA P o a b obj obj'∧wpChain P ops p Fin r (a.put o.dst undef) s (setB Bs k obj')))) ∨
  (Region.wanted o (yielded ops a.tmps) = false∧wpChain P ops p Fin r (a.put o.dst undef) s Bs)
def Region.headK (md:Region.Mode) (ops:Array Oper) (kind:Nat→Nat):List Nat→Array Bool→Bool
 | [],_=>true
 | i :: r,listed=>(if 2≤kind i then decide (Region.ready md ops listed = [i]) else (Region.ready md ops listed).contains i) && Region.free md ops listed i && Region.headK md ops kind r (listed.setIfInBounds i true)
theorem chainK_lex {p:Plan σ}(hp:p.Ok) {pre hd tl:List Nat}{Fin:Act→σ→List (Nat×Nat×Obj)→Prop}(hFp:∀ a s Bs Bs',List.Perm Bs Bs'→Fin a s Bs→Fin a s Bs') (hsel:Region.noSelect ops = true) (hs:Region.sinkT md ops hd tl = true)
  (hall:∀ i,i < ops.size→i∈pre∨i∈hd∨i∈tl) (hdis:∀ i∈hd,i ∉ tl) (hpt:∀ t r,tl = t :: r→Region.pureAt ops t = false) (hwt:∀ j k,(j,k)∈p.st→Region.waitsFor md ops j k = true) :
  ∀ (r:List Nat) (listed:Array Bool) (a:Act) (s:σ) (Bs:List (Nat×Nat×Obj)),(∀ i∈r,i∈hd)→HInv md ops pre tl listed→(∃ w,p.K s w) →
  Region.headK md ops p.kind r listed = true→Region.mixL md ops tl (Region.listAll listed r) = true→wpChain P ops p Fin (r.map fun i=>(i,ops.getD i default)) a s Bs →
  anyK P md ops p (fun listed' a' s' Bs'=>Region.mixL md ops tl listed' = true∧Fin a' s' Bs') r.length listed a s Bs
 | [],listed,a,s,Bs,_,_,_,_,hB,h=>⟨hB,h⟩
 | k :: r,listed,a,s,Bs,hmem,inv,hne,hF,hB,h=>by
  simp only[Region.headK,Bool.and_eq_true] at hF
  obtain ⟨⟨hr,hf⟩,hF'⟩:=hF
  have hr':k∈Region.ready md ops listed:=by
   split at hr
   ·simp only[decide_eq_true_eq] at hr;rw[hr];simp
   ·simpa using hr
  obtain ⟨_,o,h0,_⟩:=mem_ready.1 hr'
  have hget:ops.getD k default = o:=getD_of h0
  have hkd:=hmem k (by simp)
  have hdone:∀ listed' a' s' Bs',(Region.mixL md ops tl listed' = true∧Fin a' s' Bs')→∀ j∈Region.ready md ops listed',j∈tl:=fun listed' a' s' Bs' hL=>by
   cases tl with
   | nil=>intro j hj;have h1:=hL.1;simp only[Region.mixL,List.isEmpty_iff] at h1;rw[h1] at hj;cases hj
   | cons t tl=>exact tail_done (hpt t tl rfl) hL.1
  have hLp:∀ listed a s Bs Bs',List.Perm Bs Bs'→(Region.mixL md ops tl listed = true∧Fin a s Bs)→(Region.mixL md ops tl listed = true∧Fin a s Bs'):=fun _ _ _ _ _ hb hL=>⟨hL.1,hFp _ _ _ _ hb hL.2⟩
  have rec':∀ a' s' Bs',(∃ w,p.K s' w)→wpChain P ops p Fin (r.map fun i=>(i,ops.getD i default)) a' s' Bs'→anyK P md ops p (fun listed' a' s' Bs'=>Region.mixL md ops tl listed' = true∧Fin a' s' Bs') r.length (listed.setIfInBounds k true) a' s' Bs':=fun a' s' Bs' hne' h' =>
   chainK_lex hp hFp hsel hs hall hdis hpt hwt r _ _ _ _ (fun i hi=>hmem i (List.mem_cons_of_mem _ hi)) (inv.set hr' (hdis k hkd)) hne' hF' hB h'
  simp only[List.map_cons,wpChain,hget] at h
  rcases h with ⟨hw,⟨hk,v,hq,hn⟩ | ⟨hk,val,obj,hm,hlay,hn⟩ | ⟨hk,hst,hn⟩ | ⟨hk,k',b,obj,obj',hm,hmb,hu,hst,hn⟩⟩ | ⟨hw,hn⟩
  ·exact quietK_first hp h0 (Region.noSelect_spec hsel) hs hall hdis hkd hdone r.length listed a s Bs inv (Region.free_spec h0 hf) hr' (.inl ⟨hw,hk,hq⟩) (rec' _ _ _ hne hn)
  ·exact allocK_first hp h0 hk hm hLp hwt (Region.noSelect_spec hsel) hs hall hdis hkd hdone r.length listed a s Bs inv hne (Region.free_spec h0 hf) hr' hw hlay (fun b hb=>rec' _ _ _ hne (hn b hb))
  ·rw[if_pos (by omega),decide_eq_true_eq] at hr
   refine ⟨fun h=>(by rw[h] at hr';cases hr'),fun i hi=>?_⟩
   rw[hr] at hi
   obtain rfl:i = k:=by simpa using hi
   rw[hget,if_pos hw]
   exact .inr (.inr (.inl ⟨hk,hst,fun s' h4 h5=>rec' _ _ _ h5 (hn s' h4)⟩))
  ·rw[if_pos (by omega),decide_eq_true_eq] at hr
   refine ⟨fun h=>(by rw[h] at hr';cases hr'),fun i hi=>?_⟩
   rw[hr] at hi
   obtain rfl:i = k:=by simpa using hi
   rw[hget,if_pos hw]
   exact .inr (.inr (.inr ⟨hk,k',b,obj,obj',hm,hmb,hu,hst,rec' _ _ _ hne hn⟩))
  ·exact quietK_first hp h0 (Region.noSelect_spec hsel) hs hall hdis hkd hdone r.length listed a s Bs inv (Region.free_spec h0 hf) hr' (.inr ⟨hw,rfl⟩) (rec' _ _ _ hne hn)
def Region.chainB2 (md:Region.Mode) (ops:Array Oper) (kind:Nat→Nat) (pre hd tl:List Nat):Bool :=
 Region.noSelect ops && Region.sinkT md ops hd tl && ((List.range ops.size).all fun i=>pre.contains i || hd.contains i || tl.contains i) &&
 Region.freeL md ops pre (Array.replicate ops.size false) && Region.headK md ops kind hd (Region.listAll (Array.replicate ops.size false) pre) &&
 Region.unlisted (Region.listAll (Array.replicate ops.size false) pre) tl && (pre.all fun i=>(Region.listAll (Array.replicate ops.size false) pre).getD i false) &&
 (match tl with | []=>true | t :: _=>!Region.pureAt ops t) && Region.mixL md ops tl (Region.listAll (Region.listAll (Array.replicate ops.size false) pre) hd) && decide (pre.length+(hd.length+tl.length) = ops.size) && (hd.all fun i=>!tl.contains i)
theorem region_chain {id:Nat}{Q:Exit→Act→World→Prop}{a:Act}{w:World}{l:List Oper}(p:Plan σ) (s0:σ) (pre hd tl:List Nat) (hm:P.follows .mixedOrders = true)
  (hB:Region.chainB2 .any l.toArray p.kind pre hd tl = true) (hW:(p.st.all fun x=>Region.waitsFor .any l.toArray x.1 x.2) = true) (hp:p.Ok) (h0:p.K s0 w.drew)
  (h:wpPure P l.toArray (fun a1=>wpChain P l.toArray p (fun a2 s Bs=>∀ w',p.K s w'→laid p.B0 Bs w'→wpList P l.toArray (onlyN Q) (tl.map fun i=>l.toArray.getD i default) a2 w') (hd.map fun i=>(i,l.toArray.getD i default)) a1 s0 []) (pre.map fun i=>l.toArray.getD i default) a) :
  (Code.region id l.toArray true).wp P Q a w:=by
 simp only[Region.chainB2,Bool.and_eq_true,decide_eq_true_eq] at hB
 obtain ⟨⟨⟨⟨⟨⟨⟨⟨⟨⟨hsel,hs⟩,hall0⟩,hF1⟩,hF2⟩,hun⟩,hpre⟩,hpt0⟩,hseq⟩,hlen⟩,hdis0⟩:=hB
 have hall:∀ i,i < l.toArray.size→i∈pre∨i∈hd∨i∈tl:=fun i hi=>by
  have:=List.all_eq_true.1 hall0 i (List.mem_range.2 hi)
  simpa [or_assoc] using this
 have hpt:∀ t r,tl = t :: r→Region.pureAt l.toArray t = false:=fun t r e=>by subst e;simpa using hpt0
 have hdis:∀ i∈hd,i ∉ tl:=fun i hi=>by have:=List.all_eq_true.1 hdis0 i hi;simpa using this
 obtain ⟨hsz,hcl⟩:=freeL_closed (md:=.any) pre (Array.replicate l.toArray.size false) (by simp) (fun j oj _ hl=>(by rw[getD_replicate_false] at hl;cases hl)) hF1
 have inv0:HInv .any l.toArray pre tl (Region.listAll (Array.replicate l.toArray.size false) pre) :=
  ⟨hsz,hcl,fun u hu=>by have:=List.all_eq_true.1 hun u hu;simpa using this,fun u hu=>by have:=List.all_eq_true.1 hpre u hu;simpa using this⟩
 have key:wpAny P .any l.toArray (onlyN Q) (pre.length+(hd.length+tl.length)) (Array.replicate l.toArray.size false) a w.drew:=by
  refine any_of_pure hsel (fun c a w hq=>hq) pre _ a _ hF1 h ?_
  intro a1 h1
  have H:=chainK_lex (md:=.any) hp (fun a s Bs Bs' hb hf w' hk hl=>hf w' hk (laid_perm hb.symm hl)) hsel hs hall hdis hpt (fun j k hjk=>List.all_eq_true.1 hW (j,k) hjk) hd _ a1 s0 [] (fun _ h=>h) inv0 ⟨_,h0⟩ hF2 hseq h1
  exact any_of_anyK (Q':=onlyN Q) hp (fun listed a' s' Bs' w' hk hl hL=>any_of_mixL hsel tl listed a' w' hL.1 (hL.2 w' hk hl)) _ _ _ _ _ _ h0 ⟨by simp,fun x hx=>by cases hx⟩ H
 rw[hlen] at key
 exact wp_region_any hm (any_only_mono _ _ _ _ key)
/-! One operation of the chain at a time. -/
variable {p:Plan σ} {Fin:Act→σ→List (Nat×Nat×Obj)→Prop} {a:Act} {s:σ} {Bs:List (Nat×Nat×Obj)} {i:Nat} {o:Oper} {r:List (Nat×Oper)}
theorem wpChain_nil (h:Fin a s Bs):wpChain P ops p Fin [] a s Bs:=h
theorem wpChain_skip (hw:Region.wanted o (yielded ops a.tmps) = false) (h:wpChain P ops p Fin r (a.put o.dst undef) s Bs):wpChain P ops p Fin ((i,o) :: r) a s Bs:=.inr ⟨hw,h⟩
theorem val_of_quiet {a:Act}{v:Value}{C:World→Prop}{w:World}(ht:tameOp a.eval o.op = true) (h:o.quietAt P a C w v):valUpon w v ((execOp a.eval o).run P w):=by
 unfold Oper.quietAt at h
 have hn:=fun f args w'=>tame_run (P:=P) (o:=o) ht (ρ:=a.eval) (w:=w) (w':=w') (f:=f) (args:=args)
 generalize Sem.run P (execOp a.eval o) w = r at *
 cases r with
 | ok n w' =>
  cases n <;> first | exact h | exact absurd rfl (hn _ _ _)
 | halt x w'=>exact h
theorem wpChain_quiet {ι:Type}{F:ι→World}(hF:∀ w,p.D s w→∃ i,w = F i) (hk:p.kind i = 0) (ht:tameOp a.eval o.op = true) (hw:Region.wanted o (yielded ops a.tmps) = true)
  (h:∀ K:Act→Prop,(∀ a,wpChain P ops p Fin r a s Bs→K a)→o.quiet P a (fun w'=>∃ i,w' = F i) K):wpChain P ops p Fin ((i,o) :: r) a s Bs:=by
 obtain ⟨v,h1,h2⟩:=h _ (fun _ h=>h)
 exact .inl ⟨hw,.inl ⟨hk,v,fun w hd=>val_of_quiet ht (h1 w (hF w hd)),h2⟩⟩
theorem wpChain_pure (v:Value) (hk:p.kind i = 0) (hw:Region.wanted o (yielded ops a.tmps) = true) (hr:∀ w,p.D s w→(execOp a.eval o).run P w = .ok (.value v) w)
  (h:wpChain P ops p Fin r (a.put o.dst v) s Bs):wpChain P ops p Fin ((i,o) :: r) a s Bs:=by
 exact .inl ⟨hw,.inl ⟨hk,v,fun w hd=>by rw[hr w hd];exact ⟨rfl,rfl⟩,h⟩⟩
theorem wpChain_alloc (val:Nat→Value) (obj:Obj) (hk:p.kind i = 1) (hm:(i,val,obj)∈p.al) (hw:Region.wanted o (yielded ops a.tmps) = true)
  (hl:∀ w:World,(execOp a.eval o).run P w = .ok (.value (val w.heap.size)) (w.alloc obj)) (h:∀ b,(∀ x∈Bs,x.2.1 ≠ b)→wpChain P ops p Fin r (a.put o.dst (val b)) s ((i,b,obj) :: Bs)):wpChain P ops p Fin ((i,o) :: r) a s Bs:=by
 exact .inl ⟨hw,.inr (.inl ⟨hk,val,obj,hm,hl,h⟩)⟩
theorem wpChain_call (f:FuncId) (args:Array Value) (hk:p.kind i = 2) (hw:Region.wanted o (yielded ops a.tmps) = true) (hr:∀ w,(execOp a.eval o).run P w = .ok (.enter f args) w)
  (hc:∀ w,p.K s w→Calls P f args w fun e w'=>∃ v s',e = .returned v∧p.mstep i s s'∧(o.dst = none∨v = p.mval i s')∧p.K s' w'∧Kept p.B0 w w')
  (h:∀ s',p.mstep i s s'→wpChain P ops p Fin r (a.put o.dst (p.mval i s')) s' Bs):wpChain P ops p Fin ((i,o) :: r) a s Bs:=by
 exact .inl ⟨hw,.inr (.inr (.inl ⟨hk,fun w hkw=>by rw[hr w];exact (hc w hkw).mono fun e w' ⟨v,s',he,h1,h2,h3,h4⟩=>⟨v,he,⟨s',h1,h2,h3⟩,h4⟩,h⟩))⟩
theorem wpChain_store (k b:Nat) (obj obj':Obj) (hk:p.kind i = 3) (hm:(i,k)∈p.st) (hmb:(k,b,obj)∈Bs) (hu:∀ x∈Bs,x.1 = k→x = (k,b,obj)) (hw:Region.wanted o (yielded ops a.tmps) = true)
  (hs:∀ w:World,w.heap[b]? = some obj→storeUpon w b obj' ((execOp a.eval o).run P w)) (h:wpChain P ops p Fin r (a.put o.dst undef) s (setB Bs k obj')):wpChain P ops p Fin ((i,o) :: r) a s Bs:=by
 exact .inl ⟨hw,.inr (.inr (.inr ⟨hk,k,b,obj,obj',hm,hmb,hu,hs,h⟩))⟩
/-! The plan of a region all of whose loud operations leave what was there as it was. -/
def gPlan (w0:World) (val:Nat→Value) (mains:List Nat) (al:List (Nat×(Nat→Value)×Obj)) (st:List (Nat×Nat)):Plan Unit :=
 {K:=fun _ w=>Below w0.heap.size w0 w,D:=fun _ w=>Below w0.heap.size w0 w,mstep:=fun _ _ _=>True,mval:=fun i _=>val i,mains:=mains,al:=al,st:=st,B0:=w0.heap.size }
theorem below_setAt {w0 w:World}{b:Nat}{o:Obj}(hb:w0.heap.size≤b) (h:Below w0.heap.size w0 w):Below w0.heap.size w0 (setAt w b o) :=
 ⟨h.os,h.tape,h.output,by simp [setAt];exact h.size,fun k hk=>by
  show (w.heap.setIfInBounds b o)[k]? = _
  rw[Array.getElem?_setIfInBounds_ne (by omega)]
  exact h.block k hk⟩
theorem gPlan_ok {w0:World}{val:Nat→Value}{mains:List Nat}{al:List (Nat×(Nat→Value)×Obj)}{st:List (Nat×Nat)}(h1:(al.map (·.1)).Nodup) (h2:(st.map (·.1)).Nodup):(gPlan w0 val mains al st).Ok :=
 ⟨fun _ _ h=>h,fun _ _ _ _ o _ h=>Below.alloc h h.size o,fun _ _ _ _ _ h=>h,fun _ _ h=>h.size,h1,h2,.inr fun _ _ _ _ hb h=>below_setAt hb h⟩
theorem gPlan_start (w0:World) (val:Nat→Value) (mains:List Nat) (al:List (Nat×(Nat→Value)×Obj)) (st:List (Nat×Nat)):(gPlan w0 val mains al st).K () w0.drew:=(Below.refl _ _).drew
theorem wpChain_gcall {w0:World}{val:Nat→Value}{mains:List Nat}{al:List (Nat×(Nat→Value)×Obj)}{st:List (Nat×Nat)}{Fin:Act→Unit→List (Nat×Nat×Obj)→Prop}
  (f:FuncId) (args:Array Value) (hk:(gPlan w0 val mains al st).kind i = 2) (hw:Region.wanted o (yielded ops a.tmps) = true) (hr:∀ w,(execOp a.eval o).run P w = .ok (.enter f args) w)
  (hc:∀ w,Below w0.heap.size w0 w→Calls P f args w fun e w'=>e = .returned (val i)∧Below w.heap.size w w')
  (h:wpChain P ops (gPlan w0 val mains al st) Fin r (a.put o.dst (val i)) () Bs):wpChain P ops (gPlan w0 val mains al st) Fin ((i,o) :: r) a () Bs :=
 wpChain_call f args hk hw hr (fun w hb=>(hc w hb).mono fun _ _ ⟨he,hb'⟩=>⟨_,(),he,trivial,.inr rfl,hb.trans (hb'.mono hb.size),Kept.below hb'⟩) (fun _ _=>h)
/-! A block known whole. -/
theorem setCell_at {w:World}{b i:Nat}{cs:Array Value}{e:TypeId}{m:Nat×Nat}{v:Value}(h:w.heap[b]? = some (.cells cs e m)):w.setCell ⟨b,i,none⟩ v = setAt w b (.cells (cs.setIfInBounds i v) e m):=by
 have hlt:=(Array.getElem?_eq_some_iff.1 h).1
 have he:=(Array.getElem?_eq_some_iff.1 h).2
 unfold World.setCell setAt
 congr 1
 apply Array.ext_getElem?
 intro j
 simp only[Array.getElem?_modify,Array.getElem?_setIfInBounds]
 by_cases hj:b = j
 ·subst hj;simp [he,hlt]
 ·simp [hj]
theorem setAt_same {w:World}{b:Nat}{o:Obj}(h:b < w.heap.size):(setAt w b o).heap[b]? = some o:=by
 show (w.heap.setIfInBounds b o)[b]? = some o
 exact Array.getElem?_setIfInBounds_self_of_lt h
theorem setAt_size {w:World}{b:Nat}{o:Obj}:(setAt w b o).heap.size = w.heap.size:=by simp [setAt]
theorem setAt_setAt {w:World}{b:Nat}{o o':Obj}:setAt (setAt w b o) b o' = setAt w b o':=by simp [setAt]
theorem setAt_setCell {w:World}{b i:Nat}{cs:Array Value}{e:TypeId}{m:Nat×Nat}{v:Value}(h:b < w.heap.size):(setAt w b (.cells cs e m)).setCell ⟨b,i,none⟩ v = setAt w b (.cells (cs.setIfInBounds i v) e m):=by
 rw[setCell_at (setAt_same h),setAt_setAt]
theorem cell_at {w:World}{b:Nat}{cs:Array Value}{e:TypeId}{m:Nat×Nat}(h:w.heap[b]? = some (.cells cs e m)) (i:Nat):w.cell? ⟨b,i,none⟩ = cs[i]?:=by simp [World.cell?,h]
theorem free_at {w:World}{b:Nat}{cs:Array Value}{e:TypeId}(h:w.heap[b]? = some (.cells cs e (0,0))) (i:Nat):w.frozen? ⟨b,i,none⟩ = false:=by simp [World.frozen?,h]
theorem block_lt {w:World}{b:Nat}{o:Obj}(h:w.heap[b]? = some o):b < w.heap.size:=(Array.getElem?_eq_some_iff.1 h).1
end
end Go.Proofs.YtdpoppilnokniaaGreatDoor
namespace Go.Proofs.YtdpoppilnokniaaGreatDoor
open Go.RowKit
section
variable {P:Program} {ops:Array Oper} {md:Region.Mode} {σ:Type}
structure PlanO (σ:Type) where
 K:σ→World→Prop
 D:σ→World→Prop
 mstep:Nat→σ→σ→Prop
 mval:Nat→σ→Value
 mains:List Nat
 al:List (Nat×(Nat→Value)×Obj)
 /-- Stores into a block that the region has laid: the operation, and the one that laid the block. -/
 st:List (Nat×Nat):=[]
 B0:Nat
 /-- The blocks that the state owns: a call of the chain may write into them. -/
 own:σ→Nat→Prop
 /-- The laid blocks that a call of the chain reads. -/
 uses:Nat→List Nat
def PlanO.kind (p:PlanO σ) (i:Nat):Nat:=if (p.al.map (·.1)).contains i then 1 else if p.mains.contains i then 2 else if (p.st.map (·.1)).contains i then 3 else 0
structure PlanO.Ok (p:PlanO σ):Prop where
 sub:∀ s w,p.K s w→p.D s w
 alloc:∀ s w i val o,(i,val,o)∈p.al→p.K s w→p.K s (w.alloc o)
 anti:∀ i s s' w,p.mstep i s s'→p.D s' w→p.D s w
 size:∀ s w,p.K s w→p.B0≤w.heap.size
 alone:(p.al.map (·.1)).Nodup
 lone:(p.st.map (·.1)).Nodup
 set:p.st = []∨∀ s w b o,p.B0≤b→¬ p.own s b→p.K s w→p.K s (setAt w b o)
 lt:∀ s w b,p.K s w→p.own s b→b < w.heap.size
def laidO (p:PlanO σ) (s:σ) (Bs:List (Nat×Nat×Obj)) (w:World):Prop:=laid p.B0 Bs w∧∀ x∈Bs,¬ p.own s x.2.1
theorem laidO_perm {p:PlanO σ}{s:σ}{Bs Bs':List (Nat×Nat×Obj)}(h:Bs.Perm Bs') {w:World}(hl:laidO p s Bs w):laidO p s Bs' w :=
 ⟨laid_perm h hl.1,fun x hx=>hl.2 x (h.mem_iff.2 hx)⟩
theorem laidO_alloc {p:PlanO σ}(hp:p.Ok) {s:σ}{Bs:List (Nat×Nat×Obj)}{w:World}{o:Obj}(i:Nat) (hk:p.K s w) (hl:laidO p s Bs w):laidO p s ((i,w.heap.size,o) :: Bs) (w.alloc o):=by
 refine ⟨laid_alloc i (hp.size _ _ hk) hl.1,fun x hx=>?_⟩
 rcases List.mem_cons.1 hx with rfl | hx
 ·exact fun h=>Nat.lt_irrefl _ (hp.lt _ _ _ hk h)
 ·exact hl.2 x hx
def KeptO (p:PlanO σ) (s s':σ) (w w':World):Prop:=w.heap.size≤w'.heap.size∧(∀ b,p.own s' b→p.own s b∨w.heap.size≤b)∧∀ b,p.B0≤b→b < w.heap.size→¬ p.own s b→w'.heap[b]? = w.heap[b]?
theorem laidO_kept {p:PlanO σ}{s s':σ}{Bs:List (Nat×Nat×Obj)}{w w':World}(hk:KeptO p s s' w w') (hl:laidO p s Bs w):laidO p s' Bs w':=by
 have hlt:∀ x∈Bs,x.2.1 < w.heap.size:=fun x hx=>(Array.getElem?_eq_some_iff.1 (hl.1.2 x hx).2).1
 refine ⟨⟨hl.1.1,fun x hx=>⟨(hl.1.2 x hx).1,?_⟩⟩,fun x hx h=>?_⟩
 ·rw[hk.2.2 x.2.1 (hl.1.2 x hx).1 (hlt x hx) (hl.2 x hx)];exact (hl.1.2 x hx).2
 ·rcases hk.2.1 _ h with h | h
  ·exact hl.2 x hx h
  ·have:=hlt x hx;omega
theorem laidO_set {p:PlanO σ}{s:σ}{Bs:List (Nat×Nat×Obj)}{w:World}{k b:Nat}{o o':Obj}(hm:(k,b,o)∈Bs) (hu:∀ x∈Bs,x.1 = k→x = (k,b,o)) (hl:laidO p s Bs w):laidO p s (setB Bs k o') (setAt w b o'):=by
 refine ⟨laid_set hm hu hl.1,fun x hx=>?_⟩
 obtain ⟨y,hy,rfl⟩:=List.mem_map.1 hx
 split <;> exact hl.2 y hy
def usedBy (p:PlanO σ) (i:Nat) (Bs:List (Nat×Nat×Obj)):List (Nat×Nat×Obj):=Bs.filter fun x=>(p.uses i).contains x.1
theorem usedBy_perm {p:PlanO σ}{i:Nat}{Bs Bs':List (Nat×Nat×Obj)}(h:Bs.Perm Bs'):(usedBy p i Bs).Perm (usedBy p i Bs'):=h.filter _
theorem usedBy_cons {p:PlanO σ}{i k b:Nat}{o:Obj}{Bs:List (Nat×Nat×Obj)}(h:k ∉ p.uses i):usedBy p i ((k,b,o) :: Bs) = usedBy p i Bs:=by simp [usedBy,h]
theorem laidO_used {p:PlanO σ}{s:σ}{Bs:List (Nat×Nat×Obj)}{w:World}(i:Nat) (hl:laidO p s Bs w):∀ x∈usedBy p i Bs,w.heap[x.2.1]? = some x.2.2∧¬ p.own s x.2.1∧p.B0≤x.2.1:=fun x hx=>by
 have hx:=(List.mem_filter.1 hx).1
 exact ⟨(hl.1.2 x hx).2,hl.2 x hx,(hl.1.2 x hx).1⟩
def stepUponO (P:Program) (post:Value→World→Prop):Result Next→Prop
 | .ok (.value v) w'=>post v w'
 | .ok .skip w'=>post undef w'
 | .ok (.enter f args) w'=>Calls P f args w' fun e w''=>∃ v,e = .returned v∧post v w''
 | _=>False
def StepO (P:Program) (p:PlanO σ) (i:Nat) (o:Oper) (a:Act) (s:σ) (Us:List (Nat×Nat×Obj)):Prop :=
 ∀ w,p.K s w→(∀ x∈Us,w.heap[x.2.1]? = some x.2.2∧¬ p.own s x.2.1∧p.B0≤x.2.1)→stepUponO P (fun v w'=>∃ s',p.mstep i s s'∧(o.dst = none∨v = p.mval i s')∧p.K s' w'∧KeptO p s s' w w') ((execOp a.eval o).run P w)
def anyO (P:Program) (md:Region.Mode) (ops:Array Oper) (p:PlanO σ) (L:Array Bool→Act→σ→List (Nat×Nat×Obj)→Prop):Nat→Array Bool→Act→σ→List (Nat×Nat×Obj)→Prop
 | 0,listed,a,s,Bs=>L listed a s Bs
 | f+1,listed,a,s,Bs=>Region.ready md ops listed ≠ []∧∀ i∈Region.ready md ops listed,
  if Region.wanted (ops.getD i default) (yielded ops a.tmps) then
   (p.kind i = 0∧∃ v,QuietK P (p.D s) (ops.getD i default) a v∧anyO P md ops p L f (listed.setIfInBounds i true) (a.put (ops.getD i default).dst v) s Bs) ∨
   (p.kind i = 1∧∃ val obj,(i,val,obj)∈p.al∧LaysA P (ops.getD i default) a val obj∧∀ b,(∀ x∈Bs,x.2.1 ≠ b)→anyO P md ops p L f (listed.setIfInBounds i true) (a.put (ops.getD i default).dst (val b)) s ((i,b,obj) :: Bs)) ∨
   (p.kind i = 2∧StepO P p i (ops.getD i default) a s (usedBy p i Bs)∧∀ s',p.mstep i s s'→(∃ w,p.K s' w)→anyO P md ops p L f (listed.setIfInBounds i true) (a.put (ops.getD i default).dst (p.mval i s')) s' Bs) ∨
   (p.kind i = 3∧∃ k b obj obj',(i,k)∈p.st∧(k,b,obj)∈Bs∧(∀ x∈Bs,x.1 = k→x = (k,b,obj))∧StoresA P (ops.getD i default) a b obj obj'∧anyO P md ops p L f (listed.setIfInBounds i true) (a.put (ops.getD i default).dst undef) s (setB Bs k obj'))
  else anyO P md ops p L f (listed.setIfInBounds i true) (a.put (ops.getD i default).dst undef) s Bs
theorem any_of_anyO {p:PlanO σ}(hp:p.Ok) {g:Nat}{L:Array Bool→Act→σ→List (Nat×Nat×Obj)→Prop}{Q':Exit→Act→World→Prop}
  (hL:∀ listed a s Bs w,p.K s w→laidO p s Bs w→L listed a s Bs→wpAny P md ops Q' g listed a w) :
  ∀ (f:Nat) (listed:Array Bool) (a:Act) (s:σ) (Bs:List (Nat×Nat×Obj)) (w:World),p.K s w→laidO p s Bs w→anyO P md ops p L f listed a s Bs→wpAny P md ops Q' (f+g) listed a w
 | 0,listed,a,s,Bs,w,hk,hl,h=>by rw[Nat.zero_add];exact hL _ _ _ _ _ hk hl h
 | f+1,listed,a,s,Bs,w,hk,hl,h=>by
  rw[show f+1+g = (f+g)+1 by omega]
  refine ⟨fun h0=>absurd h0 h.1,fun i hi=>?_⟩
  obtain ⟨_,o,h0,_⟩:=mem_ready.1 hi
  have hget:ops.getD i default = o:=getD_of h0
  have h1:=h.2 i hi
  rw[hget] at h1
  unfold wpOp
  simp only[h0]
  split at h1
  ·rename_i hw
   simp only[hw,if_true]
   refine .inl ?_
   unfold Oper.wp
   rcases h1 with ⟨_,v,hq,hn⟩ | ⟨_,val,obj,hm,hlay,hn⟩ | ⟨_,hst,hn⟩ | ⟨_,k,b,obj,obj',hm,hmb,hu,hst,hn⟩
   ·have h3:=hq w (hp.sub _ _ hk)
    generalize (execOp a.eval o).run P w = r at *
    cases r with
    | ok n w' =>
     cases n <;> simp only[valUpon] at h3 <;> simp only[Oper.upon]
     case value u=>obtain ⟨rfl,rfl⟩:=h3;exact any_of_anyO hp hL f _ _ _ _ _ hk hl hn
     case skip=>obtain ⟨rfl,rfl⟩:=h3;exact any_of_anyO hp hL f _ _ _ _ _ hk hl hn
    | halt x w'=>simp only[valUpon] at h3
   ·rw[hlay w]
    simp only[Oper.upon]
    exact any_of_anyO hp hL f _ _ _ _ _ (hp.alloc _ _ _ _ _ hm hk) (laidO_alloc hp i hk hl) (hn _ (laid_fresh hl.1))
   ·have h3:=hst w hk (laidO_used i hl)
    generalize (execOp a.eval o).run P w = r at *
    cases r with
    | ok n w' =>
     cases n <;> simp only[stepUponO] at h3 <;> simp only[Oper.upon]
     case value u=>obtain ⟨s',h4,h5,h6,h7⟩:=h3;rw[put_none_or h5];exact any_of_anyO hp hL f _ _ _ _ _ h6 (laidO_kept h7 hl) (hn _ h4 ⟨_,h6⟩)
     case skip=>obtain ⟨s',h4,h5,h6,h7⟩:=h3;rw[put_none_or h5];exact any_of_anyO hp hL f _ _ _ _ _ h6 (laidO_kept h7 hl) (hn _ h4 ⟨_,h6⟩)
     case enter fn args =>
      exact h3.mono fun e w'' ⟨v,he,s',h4,h5,h6,h7⟩=>by subst he;dsimp only;rw[put_none_or h5];exact any_of_anyO hp hL f _ _ _ _ _ h6 (laidO_kept h7 hl) (hn _ h4 ⟨_,h6⟩)
    | halt x w'=>simp only[stepUponO] at h3
   ·have h3:=hst w (hl.1.2 _ hmb).2
    have hK:=(hp.set.resolve_left (by intro e;rw[e] at hm;cases hm)) s w b obj' (hl.1.2 _ hmb).1 (hl.2 _ hmb) hk
    generalize (execOp a.eval o).run P w = r at *
    cases r with
    | ok n w' =>
     cases n <;> simp only[storeUpon] at h3 <;> simp only[Oper.upon]
     case value u=>obtain ⟨rfl,rfl⟩:=h3;exact any_of_anyO hp hL f _ _ _ _ _ hK (laidO_set hmb hu hl) hn
     case skip=>subst h3;exact any_of_anyO hp hL f _ _ _ _ _ hK (laidO_set hmb hu hl) hn
    | halt x w'=>simp only[storeUpon] at h3
  ·rename_i hw
   simp only[hw]
   exact any_of_anyO hp hL f _ _ _ _ _ hk hl h1
theorem anyO_perm {p:PlanO σ}{L:Array Bool→Act→σ→List (Nat×Nat×Obj)→Prop}(hL:∀ listed a s Bs Bs',List.Perm Bs Bs'→L listed a s Bs→L listed a s Bs') :
  ∀ (f:Nat) (listed:Array Bool) (a:Act) (s:σ) (Bs Bs':List (Nat×Nat×Obj)),List.Perm Bs Bs'→anyO P md ops p L f listed a s Bs→anyO P md ops p L f listed a s Bs'
 | 0,listed,a,s,Bs,Bs',hb,h=>hL _ _ _ _ _ hb h
 | f+1,listed,a,s,Bs,Bs',hb,h=>by
  refine ⟨h.1,fun i hi=>?_⟩
  have h1:=h.2 i hi
  split at h1
  ·rename_i hw
   rw[if_pos hw]
   rcases h1 with ⟨hk,v,hq,hn⟩ | ⟨hk,val,obj,hm,hlay,hn⟩ | ⟨hk,hst,hn⟩ | ⟨hk,k,b,obj,obj',hm,hmb,hu,hst,hn⟩
   ·exact .inl ⟨hk,v,hq,anyO_perm hL f _ _ _ _ _ hb hn⟩
   ·exact .inr (.inl ⟨hk,val,obj,hm,hlay,fun b hf=>anyO_perm hL f _ _ _ _ _ (hb.cons _) (hn b fun x hx=>hf x (hb.mem_iff.1 hx))⟩)
   ·exact .inr (.inr (.inl ⟨hk,fun w hkw hx=>hst w hkw fun x hx'=>hx x ((usedBy_perm hb).mem_iff.1 hx'),fun s' h4 h5=>anyO_perm hL f _ _ _ _ _ hb (hn s' h4 h5)⟩))
   ·exact .inr (.inr (.inr ⟨hk,k,b,obj,obj',hm,hb.mem_iff.1 hmb,fun x hx=>hu x (hb.mem_iff.2 hx),hst,anyO_perm hL f _ _ _ _ _ (setB_perm hb _ _) hn⟩))
  ·rename_i hw
   rw[if_neg hw]
   exact anyO_perm hL f _ _ _ _ _ hb h1
theorem quietO_first {p:PlanO σ}(hp:p.Ok) {pre hd tl:List Nat}{i:Nat}{oi:Oper}{v:Value}{L:Array Bool→Act→σ→List (Nat×Nat×Obj)→Prop}(hi:ops[i]? = some oi)
  (hsel:∀ (j:Nat) (o:Oper) cs b,ops[j]? = some o→o.op ≠ .select cs b)
  (hs:Region.sinkT md ops hd tl = true) (hall:∀ i,i < ops.size→i∈pre∨i∈hd∨i∈tl) (hdis:∀ i∈hd,i ∉ tl) (hin:i∈hd)
  (hdone:∀ listed a s Bs,L listed a s Bs→∀ j∈Region.ready md ops listed,j∈tl) :
  ∀ (f:Nat) (listed:Array Bool) (a:Act) (s:σ) (Bs:List (Nat×Nat×Obj)),HInv md ops pre tl listed →
   (∀ j oj,ops[j]? = some oj→j ≠ i→listed.getD j true = false→(∀ e∈oj.after,Region.binds md e = true→e.on ≠ i)→oi.apart ops oj = true) →
   i∈Region.ready md ops listed→((Region.wanted oi (yielded ops a.tmps) = true∧p.kind i = 0∧QuietK P (p.D s) oi a v)∨(Region.wanted oi (yielded ops a.tmps) = false∧v = undef)) →
   anyO P md ops p L f (listed.setIfInBounds i true) (a.put oi.dst v) s Bs→anyO P md ops p L (f+1) listed a s Bs:=by
 have self:∀ (f:Nat) (listed:Array Bool) (a:Act) (s:σ) (Bs:List (Nat×Nat×Obj)),((Region.wanted oi (yielded ops a.tmps) = true∧p.kind i = 0∧QuietK P (p.D s) oi a v)∨(Region.wanted oi (yielded ops a.tmps) = false∧v = undef)) →
   anyO P md ops p L f (listed.setIfInBounds i true) (a.put oi.dst v) s Bs →
   (if Region.wanted (ops.getD i default) (yielded ops a.tmps) then
   (p.kind i = 0∧∃ v,QuietK P (p.D s) (ops.getD i default) a v∧anyO P md ops p L f (listed.setIfInBounds i true) (a.put (ops.getD i default).dst v) s Bs) ∨
   (p.kind i = 1∧∃ val obj,(i,val,obj)∈p.al∧LaysA P (ops.getD i default) a val obj∧∀ b,(∀ x∈Bs,x.2.1 ≠ b)→anyO P md ops p L f (listed.setIfInBounds i true) (a.put (ops.getD i default).dst (val b)) s ((i,b,obj) :: Bs)) ∨
   (p.kind i = 2∧StepO P p i (ops.getD i default) a s (usedBy p i Bs)∧∀ s',p.mstep i s s'→(∃ w,p.K s' w)→anyO P md ops p L f (listed.setIfInBounds i true) (a.put (ops.getD i default).dst (p.mval i s')) s' Bs) ∨
   (p.kind i = 3∧∃ k b obj obj',(i,k)∈p.st∧(k,b,obj)∈Bs∧(∀ x∈Bs,x.1 = k→x = (k,b,obj))∧StoresA P (ops.getD i default) a b obj obj'∧anyO P md ops p L f (listed.setIfInBounds i true) (a.put (ops.getD i default).dst undef) s (setB Bs k obj'))
  else anyO P md ops p L f (listed.setIfInBounds i true) (a.put (ops.getD i default).dst undef) s Bs):=by
  intro f listed a s Bs hy H
  rw[getD_of hi]
  rcases hy with ⟨h1,h2,h3⟩ | ⟨h1,h2⟩
  ·rw[if_pos h1];exact .inl ⟨h2,v,h3,H⟩
  ·rw[if_neg (by rw[h1];exact Bool.false_ne_true),←h2];exact H
 intro f
 induction f with
 | zero =>
  intro listed a s Bs inv _ hr hy H
  have hun:=(mem_ready.1 hr).1
  refine ⟨fun h=>(by rw[h] at hr;cases hr),fun j hj=>?_⟩
  have hjn:=head_onlyT hs hall inv hin hun j hj
  by_cases hji:j = i
  ·subst hji;exact self _ _ _ _ _ hy H
  ·exact absurd (hdone _ _ _ _ H j (ready_mono hj hji)) (hdis j hjn)
 | succ f ih =>
  intro listed a s Bs inv hfree hr hy H
  have hun:=(mem_ready.1 hr).1
  refine ⟨fun h=>(by rw[h] at hr;cases hr),fun j hj=>?_⟩
  have hjn:=head_onlyT hs hall inv hin hun j hj
  by_cases hji:j = i
  ·subst hji;exact self _ _ _ _ _ hy H
  ·have h1:=H.2 j (ready_mono hj hji)
   obtain ⟨hjun,oj,hoj,hall'⟩:=mem_ready.1 hj
   have hget:ops.getD j default = oj:=getD_of hoj
   rw[hget] at h1 ⊢
   have hnot:∀ e∈oj.after,Region.binds md e = true→e.on ≠ i:=fun e he hb heq=>by
    have h1:=hall' e he hb
    rw[heq,getD_both hun] at h1
    cases h1
   have hfree':∀ k ok,ops[k]? = some ok→k ≠ i→(listed.setIfInBounds j true).getD k true = false →
     (∀ e∈ok.after,Region.binds md e = true→e.on ≠ i)→oi.apart ops ok = true:=fun k ok hk hki hun hno=>by
    refine hfree k ok hk hki ?_ hno
    by_cases hjk:j = k
    ·subst hjk;exact hjun
    ·rw[getD_set_ne true hjk] at hun;exact hun
   obtain ⟨g1,g2,g3⟩:=Oper.apart_spec (hfree j oj hoj hji hjun hnot)
   have hexj:execOp (a.put oi.dst v).eval oj = execOp a.eval oj:=execOp_put oj (fun cs b=>hsel j oj cs b hoj) a oi.dst v g1
   have hwj:Region.wanted oj (yielded ops (a.put oi.dst v).tmps) = Region.wanted oj (yielded ops a.tmps):=wanted_put oj a oi.dst v g1
   have keep:∀ u s',(p.D s' = p.D s∨∃ k,p.mstep k s s')→((Region.wanted oi (yielded ops (a.put oj.dst u).tmps) = true∧p.kind i = 0∧QuietK P (p.D s') oi (a.put oj.dst u) v)∨(Region.wanted oi (yielded ops (a.put oj.dst u).tmps) = false∧v = undef)):=by
    intro u s' hss
    rw[wanted_put oi a oj.dst u g3]
    unfold QuietK
    rw[execOp_put oi (fun cs b=>hsel i oi cs b hi) a oj.dst u g3]
    rcases hy with ⟨h1,h2,h3⟩ | h
    ·refine .inl ⟨h1,h2,fun w hw=>h3 w ?_⟩
     rcases hss with h | ⟨k,hk⟩
     ·rw[←h];exact hw
     ·exact hp.anti _ _ _ _ hk hw
    ·exact .inr h
   have next:∀ u s' Bs',(p.D s' = p.D s∨∃ k,p.mstep k s s')→anyO P md ops p L f ((listed.setIfInBounds i true).setIfInBounds j true) ((a.put oi.dst v).put oj.dst u) s' Bs' →
     anyO P md ops p L (f+1) (listed.setIfInBounds j true) (a.put oj.dst u) s' Bs':=fun u s' Bs' hss h=>by
    refine ih _ _ _ _ (inv.set hj (hdis j hjn)) hfree' (ready_mono hr (Ne.symm hji)) (keep u s' hss) ?_
    rw[Array.setIfInBounds_comm _ _ hji,←Act.put_comm a v u g2]
    exact h
   rw[hwj] at h1
   split at h1
   ·rename_i hw
    rw[if_pos hw]
    rcases h1 with ⟨hk,u,hq,hn⟩ | ⟨hk,val,obj,hm,hlay,hn⟩ | ⟨hk,hst,hn⟩ | ⟨hk,k,b,obj,obj',hm,hmb,hu,hst,hn⟩
    ·exact .inl ⟨hk,u,by unfold QuietK at *;rw[hexj] at hq;exact hq,next _ _ _ (.inl rfl) hn⟩
    ·exact .inr (.inl ⟨hk,val,obj,hm,by unfold LaysA at *;rw[hexj] at hlay;exact hlay,fun b hf=>next _ _ _ (.inl rfl) (hn b hf)⟩)
    ·exact .inr (.inr (.inl ⟨hk,by unfold StepO at *;rw[hexj] at hst;exact hst,fun s' h4 h5=>next _ _ _ (.inr ⟨_,h4⟩) (hn s' h4 h5)⟩))
    ·exact .inr (.inr (.inr ⟨hk,k,b,obj,obj',hm,hmb,hu,by unfold StoresA at *;rw[hexj] at hst;exact hst,next _ _ _ (.inl rfl) hn⟩))
   ·rename_i hw
    rw[if_neg hw]
    exact next _ _ _ (.inl rfl) h1
theorem allocO_first {p:PlanO σ}(hp:p.Ok) {pre hd tl:List Nat}{i:Nat}{oi:Oper}{val:Nat→Value}{obj:Obj}{L:Array Bool→Act→σ→List (Nat×Nat×Obj)→Prop}(hi:ops[i]? = some oi) (hki:p.kind i = 1) (hm:(i,val,obj)∈p.al)
  (hLp:∀ listed a s Bs Bs',List.Perm Bs Bs'→L listed a s Bs→L listed a s Bs') (hwt:∀ j k,(j,k)∈p.st→Region.waitsFor md ops j k = true) (hut:∀ j k,k∈p.uses j→Region.waitsFor md ops j k = true)
  (hsel:∀ (j:Nat) (o:Oper) cs b,ops[j]? = some o→o.op ≠ .select cs b)
  (hs:Region.sinkT md ops hd tl = true) (hall:∀ i,i < ops.size→i∈pre∨i∈hd∨i∈tl) (hdis:∀ i∈hd,i ∉ tl) (hin:i∈hd)
  (hdone:∀ listed a s Bs,L listed a s Bs→∀ j∈Region.ready md ops listed,j∈tl) :
  ∀ (f:Nat) (listed:Array Bool) (a:Act) (s:σ) (Bs:List (Nat×Nat×Obj)),HInv md ops pre tl listed→(∃ w,p.K s w) →
   (∀ j oj,ops[j]? = some oj→j ≠ i→listed.getD j true = false→(∀ e∈oj.after,Region.binds md e = true→e.on ≠ i)→oi.apart ops oj = true) →
   i∈Region.ready md ops listed→Region.wanted oi (yielded ops a.tmps) = true→LaysA P oi a val obj →
   (∀ b,(∀ x∈Bs,x.2.1 ≠ b)→anyO P md ops p L f (listed.setIfInBounds i true) (a.put oi.dst (val b)) s ((i,b,obj) :: Bs))→anyO P md ops p L (f+1) listed a s Bs:=by
 intro f
 induction f with
 | zero =>
  intro listed a s Bs inv _ _ hr hw hlay H
  have hun:=(mem_ready.1 hr).1
  refine ⟨fun h=>(by rw[h] at hr;cases hr),fun j hj=>?_⟩
  have hjn:=head_onlyT hs hall inv hin hun j hj
  by_cases hji:j = i
  ·subst hji;rw[getD_of hi,if_pos hw];exact .inr (.inl ⟨hki,val,obj,hm,hlay,H⟩)
  ·obtain ⟨b,hb⟩:=fresh_of Bs
   exact absurd (hdone _ _ _ _ (H b hb) j (ready_mono hj hji)) (hdis j hjn)
 | succ f ih =>
  intro listed a s Bs inv hne hfree hr hw hlay H
  have hun:=(mem_ready.1 hr).1
  refine ⟨fun h=>(by rw[h] at hr;cases hr),fun j hj=>?_⟩
  have hjn:=head_onlyT hs hall inv hin hun j hj
  by_cases hji:j = i
  ·subst hji;rw[getD_of hi,if_pos hw];exact .inr (.inl ⟨hki,val,obj,hm,hlay,H⟩)
  ·have h1:=fun b hb=>(H b hb).2 j (ready_mono hj hji)
   obtain ⟨hjun,oj,hoj,hall'⟩:=mem_ready.1 hj
   have hget:ops.getD j default = oj:=getD_of hoj
   rw[hget] at h1 ⊢
   have hnot:∀ e∈oj.after,Region.binds md e = true→e.on ≠ i:=fun e he hb heq=>by
    have h1:=hall' e he hb
    rw[heq,getD_both hun] at h1
    cases h1
   have hki':∀ k,(j,k)∈p.st→k ≠ i:=fun k hk hki=>by
    obtain ⟨oj',hoj',e,he,hb,hon⟩:=Region.waitsFor_spec (hwt j k hk)
    rw[hoj] at hoj';cases hoj'
    exact hnot e he hb (hon.trans hki)
   have hus:i ∉ p.uses j:=fun hk=>by
    obtain ⟨oj',hoj',e,he,hb,hon⟩:=Region.waitsFor_spec (hut j i hk)
    rw[hoj] at hoj';cases hoj'
    exact hnot e he hb hon
   have hfree':∀ k ok,ops[k]? = some ok→k ≠ i→(listed.setIfInBounds j true).getD k true = false →
     (∀ e∈ok.after,Region.binds md e = true→e.on ≠ i)→oi.apart ops ok = true:=fun k ok hk hki hun hno=>by
    refine hfree k ok hk hki ?_ hno
    by_cases hjk:j = k
    ·subst hjk;exact hjun
    ·rw[getD_set_ne true hjk] at hun;exact hun
   obtain ⟨g1,g2,g3⟩:=Oper.apart_spec (hfree j oj hoj hji hjun hnot)
   have hexj:∀ b,execOp (a.put oi.dst (val b)).eval oj = execOp a.eval oj:=fun b=>execOp_put oj (fun cs b=>hsel j oj cs b hoj) a oi.dst _ g1
   have hwj:∀ b,Region.wanted oj (yielded ops (a.put oi.dst (val b)).tmps) = Region.wanted oj (yielded ops a.tmps):=fun b=>wanted_put oj a oi.dst _ g1
   have next:∀ u s' Bs',(∃ w,p.K s' w)→(∀ b,(∀ x∈Bs',x.2.1 ≠ b)→anyO P md ops p L f ((listed.setIfInBounds i true).setIfInBounds j true) ((a.put oi.dst (val b)).put oj.dst u) s' ((i,b,obj) :: Bs')) →
     anyO P md ops p L (f+1) (listed.setIfInBounds j true) (a.put oj.dst u) s' Bs':=fun u s' Bs' hss h=>by
    refine ih _ _ _ _ (inv.set hj (hdis j hjn)) hss hfree' (ready_mono hr (Ne.symm hji)) (by rw[wanted_put oi a oj.dst u g3];exact hw) (by unfold LaysA at *;rw[execOp_put oi (fun cs b=>hsel i oi cs b hi) a oj.dst u g3];exact hlay) fun b hb=>?_
    rw[Array.setIfInBounds_comm _ _ hji,←Act.put_comm a _ u g2]
    exact h b hb
   obtain ⟨bf,hbf⟩:=fresh_of Bs
   by_cases hwo:Region.wanted oj (yielded ops a.tmps) = true
   ·rw[if_pos hwo]
    have h2:=fun b hb=>(by have:=h1 b hb;rw[hwj,if_pos hwo] at this;exact this :
     (p.kind j = 0∧∃ v,QuietK P (p.D s) oj (a.put oi.dst (val b)) v∧anyO P md ops p L f ((listed.setIfInBounds i true).setIfInBounds j true) ((a.put oi.dst (val b)).put oj.dst v) s ((i,b,obj) :: Bs)) ∨
     (p.kind j = 1∧∃ val' obj',(j,val',obj')∈p.al∧LaysA P oj (a.put oi.dst (val b)) val' obj'∧∀ b',(∀ x∈(i,b,obj) :: Bs,x.2.1 ≠ b')→anyO P md ops p L f ((listed.setIfInBounds i true).setIfInBounds j true) ((a.put oi.dst (val b)).put oj.dst (val' b')) s ((j,b',obj') :: (i,b,obj) :: Bs)) ∨
     (p.kind j = 2∧StepO P p j oj (a.put oi.dst (val b)) s (usedBy p j ((i,b,obj) :: Bs))∧∀ s',p.mstep j s s'→(∃ w,p.K s' w)→anyO P md ops p L f ((listed.setIfInBounds i true).setIfInBounds j true) ((a.put oi.dst (val b)).put oj.dst (p.mval j s')) s' ((i,b,obj) :: Bs)) ∨
     (p.kind j = 3∧∃ k b' o1 o2,(j,k)∈p.st∧(k,b',o1)∈(i,b,obj) :: Bs∧(∀ x∈(i,b,obj) :: Bs,x.1 = k→x = (k,b',o1))∧StoresA P oj (a.put oi.dst (val b)) b' o1 o2∧anyO P md ops p L f ((listed.setIfInBounds i true).setIfInBounds j true) ((a.put oi.dst (val b)).put oj.dst undef) s (setB ((i,b,obj) :: Bs) k o2)))
    rcases h2 bf hbf with ⟨hk,u,hq,_⟩ | ⟨hk,val',obj',hm',hlay',_⟩ | ⟨hk,hst,_⟩ | ⟨hk,k,b',o1,o2,hm',hmb,hu,hst,_⟩
    ·refine .inl ⟨hk,u,by unfold QuietK at *;rw[hexj] at hq;exact hq,next _ _ _ hne fun b hb=>?_⟩
     rcases h2 b hb with ⟨_,u',hq',hn⟩ | ⟨hk',_⟩ | ⟨hk',_⟩ | ⟨hk',_⟩
     ·obtain ⟨w,hw⟩:=hne
      have:=valUpon_one (by unfold QuietK at hq;rw[hexj] at hq;exact hq w (hp.sub _ _ hw)) (by unfold QuietK at hq';rw[hexj] at hq';exact hq' w (hp.sub _ _ hw))
      rw[this];exact hn
     ·rw[hk] at hk';cases hk'
     ·rw[hk] at hk';cases hk'
     ·rw[hk] at hk';cases hk'
    ·refine .inr (.inl ⟨hk,val',obj',hm',by unfold LaysA at *;rw[hexj] at hlay';exact hlay',fun b' hb'=>next _ _ _ hne fun b hb=>?_⟩)
     have hbb:b ≠ b':=fun e=>hb (j,b',obj') (by simp) e.symm
     rcases h2 b (fun x hx=>hb x (List.mem_cons_of_mem _ hx)) with ⟨hk',_⟩ | ⟨_,val2,obj2,hm2,_,hn⟩ | ⟨hk',_⟩ | ⟨hk',_⟩
     ·rw[hk] at hk';cases hk'
     ·have he:=alone_eq hp.alone hm' hm2
      cases he
      refine anyO_perm hLp _ _ _ _ _ _ (List.Perm.swap _ _ _) (hn b' fun x hx=>?_)
      rcases List.mem_cons.1 hx with rfl | hx
      ·exact hbb
      ·exact hb' x hx
     ·rw[hk] at hk';cases hk'
     ·rw[hk] at hk';cases hk'
    ·refine .inr (.inr (.inl ⟨hk,by unfold StepO at *;rw[hexj,usedBy_cons hus] at hst;exact hst,fun s' h4 h5=>next _ _ _ h5 fun b hb=>?_⟩))
     rcases h2 b hb with ⟨hk',_⟩ | ⟨hk',_⟩ | ⟨_,_,hn⟩ | ⟨hk',_⟩
     ·rw[hk] at hk';cases hk'
     ·rw[hk] at hk';cases hk'
     ·exact hn s' h4 h5
     ·rw[hk] at hk';cases hk'
    ·have hki:=hki' k hm'
     have down:∀ b x,x∈(i,b,obj) :: Bs→x.1 = k→x∈Bs:=fun b x hx hxk=>by
      rcases List.mem_cons.1 hx with rfl | h
      ·exact absurd hxk (Ne.symm hki)
      ·exact h
     refine .inr (.inr (.inr ⟨hk,k,b',o1,o2,hm',down _ _ hmb rfl,fun x hx=>hu x (List.mem_cons_of_mem _ hx),by unfold StoresA at *;rw[hexj] at hst;exact hst,next _ _ _ hne fun b hb=>?_⟩))
     have hb0:∀ x∈Bs,x.2.1 ≠ b:=fun x hx=>by
      have:=hb (if x.1 = k then (x.1,x.2.1,o2) else x) (List.mem_map.2 ⟨x,hx,rfl⟩)
      split at this <;> exact this
     rcases h2 b hb0 with ⟨hk',_⟩ | ⟨hk',_⟩ | ⟨hk',_⟩ | ⟨_,k2,b2,o3,o4,hm2,hmb2,hu2,hst2,hn⟩
     ·rw[hk] at hk';cases hk'
     ·rw[hk] at hk';cases hk'
     ·rw[hk] at hk';cases hk'
     ·obtain rfl:=alone_eq hp.lone hm' hm2
      have e:=hu2 (k,b',o1) (List.mem_cons_of_mem _ (down _ _ hmb rfl)) rfl
      cases e
      obtain ⟨w0,_⟩:=hne
      obtain rfl:=StoresA.one w0 (by unfold StoresA at hst;rw[hexj] at hst;exact hst) (by unfold StoresA at hst2;rw[hexj] at hst2;exact hst2)
      rw[setB_cons (Ne.symm hki)] at hn
      exact hn
   ·rw[if_neg hwo]
    exact next _ _ _ hne fun b hb=>by have:=h1 b hb;rw[hwj,if_neg hwo] at this;exact this
def wpChainO (P:Program) (ops:Array Oper) (p:PlanO σ) (Fin:Act→σ→List (Nat×Nat×Obj)→Prop):List (Nat×Oper)→Act→σ→List (Nat×Nat×Obj)→Prop
 | [],a,s,Bs=>Fin a s Bs
 | (i,o) :: r,a,s,Bs =>
  (Region.wanted o (yielded ops a.tmps) = true ∧
   ((p.kind i = 0∧∃ v,QuietK P (p.D s) o a v∧wpChainO P ops p Fin r (a.put o.dst v) s Bs) ∨
   (p.kind i = 1∧∃ val obj,(i,val,obj)∈p.al∧LaysA P o a val obj∧∀ b,(∀ x∈Bs,x.2.1 ≠ b)→wpChainO P ops p Fin r (a.put o.dst (val b)) s ((i,b,obj) :: Bs)) ∨
   (p.kind i = 2∧StepO P p i o a s (usedBy p i Bs)∧∀ s',p.mstep i s s'→wpChainO P ops p Fin r (a.put o.dst (p.mval i s')) s' Bs) ∨
   (p.kind i = 3∧∃ k b obj obj',(i,k)∈p.st∧(k,b,obj)∈Bs∧(∀ x∈Bs,x.1 = k→x = (k,b,obj))∧StoresA P o a b obj obj'∧wpChainO P ops p Fin r (a.put o.dst undef) s (setB Bs k obj')))) ∨
  (Region.wanted o (yielded ops a.tmps) = false∧wpChainO P ops p Fin r (a.put o.dst undef) s Bs)
theorem chainO_lex {p:PlanO σ}(hp:p.Ok) {pre hd tl:List Nat}{Fin:Act→σ→List (Nat×Nat×Obj)→Prop}(hFp:∀ a s Bs Bs',List.Perm Bs Bs'→Fin a s Bs→Fin a s Bs') (hsel:Region.noSelect ops = true) (hs:Region.sinkT md ops hd tl = true)
  (hall:∀ i,i < ops.size→i∈pre∨i∈hd∨i∈tl) (hdis:∀ i∈hd,i ∉ tl) (hpt:∀ t r,tl = t :: r→Region.pureAt ops t = false) (hwt:∀ j k,(j,k)∈p.st→Region.waitsFor md ops j k = true) (hut:∀ j k,k∈p.uses j→Region.waitsFor md ops j k = true) :
  ∀ (r:List Nat) (listed:Array Bool) (a:Act) (s:σ) (Bs:List (Nat×Nat×Obj)),(∀ i∈r,i∈hd)→HInv md ops pre tl listed→(∃ w,p.K s w) →
  Region.headK md ops p.kind r listed = true→Region.mixL md ops tl (Region.listAll listed r) = true→wpChainO P ops p Fin (r.map fun i=>(i,ops.getD i default)) a s Bs →
  anyO P md ops p (fun listed' a' s' Bs'=>Region.mixL md ops tl listed' = true∧Fin a' s' Bs') r.length listed a s Bs
 | [],listed,a,s,Bs,_,_,_,_,hB,h=>⟨hB,h⟩
 | k :: r,listed,a,s,Bs,hmem,inv,hne,hF,hB,h=>by
  simp only[Region.headK,Bool.and_eq_true] at hF
  obtain ⟨⟨hr,hf⟩,hF'⟩:=hF
  have hr':k∈Region.ready md ops listed:=by
   split at hr
   ·simp only[decide_eq_true_eq] at hr;rw[hr];simp
   ·simpa using hr
  obtain ⟨_,o,h0,_⟩:=mem_ready.1 hr'
  have hget:ops.getD k default = o:=getD_of h0
  have hkd:=hmem k (by simp)
  have hdone:∀ listed' a' s' Bs',(Region.mixL md ops tl listed' = true∧Fin a' s' Bs')→∀ j∈Region.ready md ops listed',j∈tl:=fun listed' a' s' Bs' hL=>by
   cases tl with
   | nil=>intro j hj;have h1:=hL.1;simp only[Region.mixL,List.isEmpty_iff] at h1;rw[h1] at hj;cases hj
   | cons t tl=>exact tail_done (hpt t tl rfl) hL.1
  have hLp:∀ listed a s Bs Bs',List.Perm Bs Bs'→(Region.mixL md ops tl listed = true∧Fin a s Bs)→(Region.mixL md ops tl listed = true∧Fin a s Bs'):=fun _ _ _ _ _ hb hL=>⟨hL.1,hFp _ _ _ _ hb hL.2⟩
  have rec':∀ a' s' Bs',(∃ w,p.K s' w)→wpChainO P ops p Fin (r.map fun i=>(i,ops.getD i default)) a' s' Bs'→anyO P md ops p (fun listed' a' s' Bs'=>Region.mixL md ops tl listed' = true∧Fin a' s' Bs') r.length (listed.setIfInBounds k true) a' s' Bs':=fun a' s' Bs' hne' h' =>
   chainO_lex hp hFp hsel hs hall hdis hpt hwt hut r _ _ _ _ (fun i hi=>hmem i (List.mem_cons_of_mem _ hi)) (inv.set hr' (hdis k hkd)) hne' hF' hB h'
  simp only[List.map_cons,wpChainO,hget] at h
  rcases h with ⟨hw,⟨hk,v,hq,hn⟩ | ⟨hk,val,obj,hm,hlay,hn⟩ | ⟨hk,hst,hn⟩ | ⟨hk,k',b,obj,obj',hm,hmb,hu,hst,hn⟩⟩ | ⟨hw,hn⟩
  ·exact quietO_first hp h0 (Region.noSelect_spec hsel) hs hall hdis hkd hdone r.length listed a s Bs inv (Region.free_spec h0 hf) hr' (.inl ⟨hw,hk,hq⟩) (rec' _ _ _ hne hn)
  ·exact allocO_first hp h0 hk hm hLp hwt hut (Region.noSelect_spec hsel) hs hall hdis hkd hdone r.length listed a s Bs inv hne (Region.free_spec h0 hf) hr' hw hlay (fun b hb=>rec' _ _ _ hne (hn b hb))
  ·rw[if_pos (by omega),decide_eq_true_eq] at hr
   refine ⟨fun h=>(by rw[h] at hr';cases hr'),fun i hi=>?_⟩
   rw[hr] at hi
   obtain rfl:i = k:=by simpa using hi
   rw[hget,if_pos hw]
   exact .inr (.inr (.inl ⟨hk,hst,fun s' h4 h5=>rec' _ _ _ h5 (hn s' h4)⟩))
  ·rw[if_pos (by omega),decide_eq_true_eq] at hr
   refine ⟨fun h=>(by rw[h] at hr';cases hr'),fun i hi=>?_⟩
   rw[hr] at hi
   obtain rfl:i = k:=by simpa using hi
   rw[hget,if_pos hw]
   exact .inr (.inr (.inr ⟨hk,k',b,obj,obj',hm,hmb,hu,hst,rec' _ _ _ hne hn⟩))
  ·exact quietO_first hp h0 (Region.noSelect_spec hsel) hs hall hdis hkd hdone r.length listed a s Bs inv (Region.free_spec h0 hf) hr' (.inr ⟨hw,rfl⟩) (rec' _ _ _ hne hn)
theorem region_chainO {id:Nat}{Q:Exit→Act→World→Prop}{a:Act}{w:World}{l:List Oper}(p:PlanO σ) (s0:σ) (pre hd tl:List Nat) (hm:P.follows .mixedOrders = true)
  (hB:Region.chainB2 .any l.toArray p.kind pre hd tl = true) (hW:(p.st.all fun x=>Region.waitsFor .any l.toArray x.1 x.2) = true) (hU:∀ j k,k∈p.uses j→Region.waitsFor .any l.toArray j k = true) (hp:p.Ok) (h0:p.K s0 w.drew)
  (h:wpPure P l.toArray (fun a1=>wpChainO P l.toArray p (fun a2 s Bs=>∀ w',p.K s w'→laidO p s Bs w'→wpList P l.toArray (onlyN Q) (tl.map fun i=>l.toArray.getD i default) a2 w') (hd.map fun i=>(i,l.toArray.getD i default)) a1 s0 []) (pre.map fun i=>l.toArray.getD i default) a) :
  (Code.region id l.toArray true).wp P Q a w:=by
 simp only[Region.chainB2,Bool.and_eq_true,decide_eq_true_eq] at hB
 obtain ⟨⟨⟨⟨⟨⟨⟨⟨⟨⟨hsel,hs⟩,hall0⟩,hF1⟩,hF2⟩,hun⟩,hpre⟩,hpt0⟩,hseq⟩,hlen⟩,hdis0⟩:=hB
 have hall:∀ i,i < l.toArray.size→i∈pre∨i∈hd∨i∈tl:=fun i hi=>by
  have:=List.all_eq_true.1 hall0 i (List.mem_range.2 hi)
  simpa [or_assoc] using this
 have hpt:∀ t r,tl = t :: r→Region.pureAt l.toArray t = false:=fun t r e=>by subst e;simpa using hpt0
 have hdis:∀ i∈hd,i ∉ tl:=fun i hi=>by have:=List.all_eq_true.1 hdis0 i hi;simpa using this
 obtain ⟨hsz,hcl⟩:=freeL_closed (md:=.any) pre (Array.replicate l.toArray.size false) (by simp) (fun j oj _ hl=>(by rw[getD_replicate_false] at hl;cases hl)) hF1
 have inv0:HInv .any l.toArray pre tl (Region.listAll (Array.replicate l.toArray.size false) pre) :=
  ⟨hsz,hcl,fun u hu=>by have:=List.all_eq_true.1 hun u hu;simpa using this,fun u hu=>by have:=List.all_eq_true.1 hpre u hu;simpa using this⟩
 have key:wpAny P .any l.toArray (onlyN Q) (pre.length+(hd.length+tl.length)) (Array.replicate l.toArray.size false) a w.drew:=by
  refine any_of_pure hsel (fun c a w hq=>hq) pre _ a _ hF1 h ?_
  intro a1 h1
  have H:=chainO_lex (md:=.any) hp (fun a s Bs Bs' hb hf w' hk hl=>hf w' hk (laidO_perm hb.symm hl)) hsel hs hall hdis hpt (fun j k hjk=>List.all_eq_true.1 hW (j,k) hjk) hU hd _ a1 s0 [] (fun _ h=>h) inv0 ⟨_,h0⟩ hF2 hseq h1
  exact any_of_anyO (Q':=onlyN Q) hp (fun listed a' s' Bs' w' hk hl hL=>any_of_mixL hsel tl listed a' w' hL.1 (hL.2 w' hk hl)) _ _ _ _ _ _ h0 ⟨⟨by simp,fun x hx=>by cases hx⟩,fun x hx=>by cases hx⟩ H
 rw[hlen] at key
 exact wp_region_any hm (any_only_mono _ _ _ _ key)
/-! One operation of the chain at a time. -/
variable {p:PlanO σ} {Fin:Act→σ→List (Nat×Nat×Obj)→Prop} {a:Act} {s:σ} {Bs:List (Nat×Nat×Obj)} {i:Nat} {o:Oper} {r:List (Nat×Oper)}
theorem wpChainO_nil (h:Fin a s Bs):wpChainO P ops p Fin [] a s Bs:=h
theorem wpChainO_skip (hw:Region.wanted o (yielded ops a.tmps) = false) (h:wpChainO P ops p Fin r (a.put o.dst undef) s Bs):wpChainO P ops p Fin ((i,o) :: r) a s Bs:=.inr ⟨hw,h⟩
theorem wpChainO_quiet {ι:Type}{F:ι→World}(hF:∀ w,p.D s w→∃ i,w = F i) (hk:p.kind i = 0) (ht:tameOp a.eval o.op = true) (hw:Region.wanted o (yielded ops a.tmps) = true)
  (h:∀ K:Act→Prop,(∀ a,wpChainO P ops p Fin r a s Bs→K a)→o.quiet P a (fun w'=>∃ i,w' = F i) K):wpChainO P ops p Fin ((i,o) :: r) a s Bs:=by
 obtain ⟨v,h1,h2⟩:=h _ (fun _ h=>h)
 exact .inl ⟨hw,.inl ⟨hk,v,fun w hd=>val_of_quiet ht (h1 w (hF w hd)),h2⟩⟩
theorem wpChainO_pure (v:Value) (hk:p.kind i = 0) (hw:Region.wanted o (yielded ops a.tmps) = true) (hr:∀ w,p.D s w→(execOp a.eval o).run P w = .ok (.value v) w)
  (h:wpChainO P ops p Fin r (a.put o.dst v) s Bs):wpChainO P ops p Fin ((i,o) :: r) a s Bs:=by
 exact .inl ⟨hw,.inl ⟨hk,v,fun w hd=>by rw[hr w hd];exact ⟨rfl,rfl⟩,h⟩⟩
theorem wpChainO_alloc (val:Nat→Value) (obj:Obj) (hk:p.kind i = 1) (hm:(i,val,obj)∈p.al) (hw:Region.wanted o (yielded ops a.tmps) = true)
  (hl:∀ w:World,(execOp a.eval o).run P w = .ok (.value (val w.heap.size)) (w.alloc obj)) (h:∀ b,(∀ x∈Bs,x.2.1 ≠ b)→wpChainO P ops p Fin r (a.put o.dst (val b)) s ((i,b,obj) :: Bs)):wpChainO P ops p Fin ((i,o) :: r) a s Bs:=by
 exact .inl ⟨hw,.inr (.inl ⟨hk,val,obj,hm,hl,h⟩)⟩
theorem append_run_value {o:Oper}{a:Act}{w:World}{x1 x2:Operand}{t:TypeId}(ho:o.op = .call { callee:=.builtin .append,args:=#[x1,x2],argTypes:=#[t,t] }) :
  (∃ v w',(execOp a.eval o).run P w = .ok (.value v) w')∨∃ h w',(execOp a.eval o).run P w = .halt h w':=by
 have h:∃ f:Sem Value,(execOp a.eval o).run P w = (do pure (.value (←f)):Sem Next).run P w:=⟨Builtin.append_ #[t,t] o.type #[a.eval x1,a.eval x2],by
  simp [execOp,ho,resolve,invoke,builtin,Result.andThen]⟩
 obtain ⟨f,hf⟩:=h
 rw[hf,Sem.run_bind]
 cases Sem.run P f w with
 | ok v w'=>exact .inl ⟨v,w',rfl⟩
 | halt h w'=>exact .inr ⟨h,w',rfl⟩
theorem stepO_append {ops:Array Oper}{o:Oper}{a:Act}{w:World}{x1 x2:Operand}{ty:TypeId}{t:Tmp}{post:Value→World→Prop}(ho:o.op = .call { callee:=.builtin .append,args:=#[x1,x2],argTypes:=#[ty,ty] })
  (hd:o.dst = some t) (ht:t < a.tmps.size) (hw:Region.wanted o (yielded ops a.tmps) = true)
  (h:wpList P ops (fun e a' w'=>e = .normal∧∃ v,a'.tmps[t]? = some v∧post v w') [o] a w):stepUponO P post ((execOp a.eval o).run P w):=by
 simp only[wpList,hw,if_true] at h
 rcases h with h | ⟨_,a',w',h,_⟩
 ·unfold Oper.wp at h
  rcases append_run_value (P:=P) (a:=a) (w:=w) ho with ⟨v,w',hr⟩ | ⟨x,w',hr⟩
  ·rw[hr] at h ⊢
   obtain ⟨_,u,hu,hp⟩:=h
   have:(a.put o.dst v).tmps[t]? = some v:=by simp [Act.put,hd,ht]
   rw[this] at hu
   cases hu;exact hp
  ·rw[hr] at h
   cases x <;> simp [Oper.upon] at h
 ·cases h
theorem wpChainO_main (hk:p.kind i = 2) (hw:Region.wanted o (yielded ops a.tmps) = true) (hs:StepO P p i o a s (usedBy p i Bs))
  (h:∀ s',p.mstep i s s'→wpChainO P ops p Fin r (a.put o.dst (p.mval i s')) s' Bs):wpChainO P ops p Fin ((i,o) :: r) a s Bs:=.inl ⟨hw,.inr (.inr (.inl ⟨hk,hs,h⟩))⟩
theorem wpChainO_store (k b:Nat) (obj obj':Obj) (hk:p.kind i = 3) (hm:(i,k)∈p.st) (hmb:(k,b,obj)∈Bs) (hu:∀ x∈Bs,x.1 = k→x = (k,b,obj)) (hw:Region.wanted o (yielded ops a.tmps) = true)
  (hs:∀ w:World,w.heap[b]? = some obj→storeUpon w b obj' ((execOp a.eval o).run P w)) (h:wpChainO P ops p Fin r (a.put o.dst undef) s (setB Bs k obj')):wpChainO P ops p Fin ((i,o) :: r) a s Bs:=by
 exact .inl ⟨hw,.inr (.inr (.inr ⟨hk,k,b,obj,obj',hm,hmb,hu,hs,h⟩))⟩
end
end Go.Proofs.YtdpoppilnokniaaGreatDoor
namespace Go.Proofs.YtdpoppilnokniaaGreatDoor
open Go.RowKit
set_option linter.unusedVariables false
def Grew (w w':World):Prop:=Below w.heap.size w w'∧w.drawn≤w'.drawn
theorem Grew.refl (w:World):Grew w w:=⟨Below.refl _ _,Nat.le_refl _⟩
theorem Grew.trans {a b c:World}(h:Grew a b) (k:Grew b c):Grew a c:=⟨h.1.trans (k.1.mono h.1.size),Nat.le_trans h.2 k.2⟩
theorem Grew.alloc {a b:World}(h:Grew a b) (o:Obj):Grew a (b.alloc o):=⟨h.1.alloc h.1.size o,h.2⟩
theorem Grew.drew {a b:World}(h:Grew a b):Grew a b.drew:=⟨h.1.drew,Nat.le_succ_of_le h.2⟩
theorem Grew.drewN {a b:World}(h:Grew a b) (n:Nat):Grew a (b.drewN n):=⟨⟨h.1.os,h.1.tape,h.1.output,h.1.size,h.1.block⟩,Nat.le_trans h.2 (Nat.le_add_right _ _)⟩
theorem Grew.setAt {a b:World}(h:Grew a b) {k:Nat}(hk:a.heap.size≤k) (o:Obj):Grew a (setAt b k o):=⟨below_setAt hk h.1,h.2⟩
theorem Grew.setCell {a b:World}(h:Grew a b) {p:Addr}(hk:a.heap.size≤p.block) (v:Value):Grew a (b.setCell p v):=⟨h.1.setCell hk v,h.2⟩
theorem Grew.form {w w':World}(h:Grew w w'):∃ q os,w' = Go.Sort.grow (w.drewN q) os:=by
 refine ⟨w'.drawn - w.drawn,w'.heap.extract w.heap.size w'.heap.size,?_⟩
 obtain ⟨hb,hd⟩:=h
 have h1:=hb.os
 have h2:=hb.tape
 have h3:=hb.output
 have h4:w'.heap = w.heap ++ w'.heap.extract w.heap.size w'.heap.size:=by
  apply Array.ext_getElem?
  intro i
  by_cases hi:i < w.heap.size
  ·rw[Array.getElem?_append_left hi]
   exact hb.block i hi
  ·rw[Array.getElem?_append_right (by omega),Array.getElem?_extract]
   have hs:=hb.size
   by_cases hi2:i < w'.heap.size
   ·rw[if_pos (by omega)]
    congr 1;omega
   ·rw[if_neg (by omega),Array.getElem?_eq_none (by omega)]
 obtain ⟨hp,tp,dr,os,out⟩:=w'
 obtain ⟨hp0,tp0,dr0,os0,out0⟩:=w
 simp only[Go.Sort.grow,World.drewN] at *
 subst h1 h2 h3
 rw[←h4]
 congr 1
 omega
def dPlan (w0:World) (val:Nat→Value) (mains:List Nat) (al:List (Nat×(Nat→Value)×Obj)) (st:List (Nat×Nat)):Plan Unit :=
 {K:=fun _ w=>Grew w0 w,D:=fun _ w=>Grew w0 w,mstep:=fun _ _ _=>True,mval:=fun i _=>val i,mains:=mains,al:=al,st:=st,B0:=w0.heap.size }
section
variable {w0:World} {val:Nat→Value} {mains:List Nat} {al:List (Nat×(Nat→Value)×Obj)} {st:List (Nat×Nat)}
theorem dPlan_ok (h1:(al.map (·.1)).Nodup) (h2:(st.map (·.1)).Nodup):(dPlan w0 val mains al st).Ok :=
 ⟨fun _ _ h=>h,fun _ _ _ _ o _ h=>Grew.alloc h o,fun _ _ _ _ _ h=>h,fun _ _ h=>h.1.size,h1,h2,.inr fun _ _ _ _ hb h=>Grew.setAt h hb _⟩
theorem dPlan_start (w0:World) (val:Nat→Value) (mains:List Nat) (al:List (Nat×(Nat→Value)×Obj)) (st:List (Nat×Nat)):(dPlan w0 val mains al st).K () w0.drew:=(Grew.refl _).drew
theorem dfamily (B:World):∃ (ι:Type) (_:Nonempty ι) (F:ι→World),(∀ i,Below B.heap.size B (F i))∧∀ w,Grew B w→∃ i,w = F i :=
 ⟨{ w:World // Grew B w },⟨⟨B,Grew.refl _⟩⟩,Subtype.val,fun i=>i.2.1,fun w h=>⟨⟨w,h⟩,rfl⟩⟩
variable {P:Program} {ops:Array Oper} {a:Act} {i:Nat} {o:Oper} {r:List (Nat×Oper)} {Bs:List (Nat×Nat×Obj)} {Fin:Act→Unit→List (Nat×Nat×Obj)→Prop}
theorem wpChain_dcall (f:FuncId) (args:Array Value) (hk:(dPlan w0 val mains al st).kind i = 2) (hw:Region.wanted o (yielded ops a.tmps) = true) (hr:∀ w,(execOp a.eval o).run P w = .ok (.enter f args) w)
  (hc:∀ w,Grew w0 w→Calls P f args w fun e w'=>e = .returned (val i)∧Grew w w')
  (h:wpChain P ops (dPlan w0 val mains al st) Fin r (a.put o.dst (val i)) () Bs):wpChain P ops (dPlan w0 val mains al st) Fin ((i,o) :: r) a () Bs :=
 wpChain_call f args hk hw hr (fun w hb=>(hc w hb).mono fun _ _ ⟨he,hb'⟩=>⟨_,(),he,trivial,.inr rfl,hb.trans hb',Kept.below hb'.1⟩) (fun _ _=>h)
end
end Go.Proofs.YtdpoppilnokniaaGreatDoor
namespace Go.Proofs.YtdpoppilnokniaaGreatDoor
open Go.RowKit
section
variable {P:Program} {ops:Array Oper}
def vPlan (w0:World) (Good:List Value→World→Prop) (Shape:List Value→Prop) (mains:List Nat) (al:List (Nat×(Nat→Value)×Obj)) (uses:Nat→List Nat):PlanO (List Value) :=
 {K:=fun s w=>Below w0.heap.size w0 w∧Good s w,D:=fun _ w=>Below w0.heap.size w0 w,mstep:=fun _ s s'=>(∃ v,s' = v :: s)∧Shape s',mval:=fun _ s=>s.headD undef,mains:=mains,al:=al,st:=[],B0:=w0.heap.size,
  own:=fun _ _=>False,uses:=uses }
variable {w0:World} {Good:List Value→World→Prop} {Shape:List Value→Prop} {mains:List Nat} {al:List (Nat×(Nat→Value)×Obj)} {uses:Nat→List Nat}
theorem vPlan_ok (hG:∀ s w w',Good s w→Below w.heap.size w w'→Good s w') (h1:(al.map (·.1)).Nodup):(vPlan w0 Good Shape mains al uses).Ok :=
 ⟨fun _ _ h=>h.1,fun s w _ _ o _ h=>⟨Below.alloc h.1 h.1.size o,hG s w _ h.2 ((Below.refl w.heap.size w).alloc (Nat.le_refl _) o)⟩,fun _ _ _ _ _ h=>h,fun _ _ h=>h.1.size,h1,(by simp [vPlan]),.inl rfl,fun _ _ _ _ h=>h.elim⟩
theorem vPlan_start (h:Good [] w0.drew):(vPlan w0 Good Shape mains al uses).K [] w0.drew:=⟨(Below.refl _ _).drew,h⟩
variable {a:Act} {i:Nat} {o:Oper} {r:List (Nat×Oper)} {s:List Value} {Bs:List (Nat×Nat×Obj)} {Fin:Act→List Value→List (Nat×Nat×Obj)→Prop}
theorem wpChainO_vcall (f:FuncId) (args:Array Value) (hk:(vPlan w0 Good Shape mains al uses).kind i = 2) (hw:Region.wanted o (yielded ops a.tmps) = true) (hr:∀ w,(execOp a.eval o).run P w = .ok (.enter f args) w)
  (hc:∀ w,Below w0.heap.size w0 w→Good s w→(∀ x∈usedBy (vPlan w0 Good Shape mains al uses) i Bs,w.heap[x.2.1]? = some x.2.2)→Calls P f args w fun e w'=>∃ v,e = .returned v∧Shape (v :: s)∧Good (v :: s) w'∧Below w.heap.size w w')
  (h:∀ v,Shape (v :: s)→wpChainO P ops (vPlan w0 Good Shape mains al uses) Fin r (a.put o.dst v) (v :: s) Bs):wpChainO P ops (vPlan w0 Good Shape mains al uses) Fin ((i,o) :: r) a s Bs:=by
 refine wpChainO_main hk hw (fun w hkw hU=>?_) (fun s' hs'=>?_)
 ·rw[hr w]
  refine (hc w hkw.1 hkw.2 (fun x hx=>(hU x hx).1)).mono ?_
  rintro e w' ⟨v,he,h1,h2,h3⟩
  exact ⟨v,he,v :: s,⟨⟨v,rfl⟩,h1⟩,.inr rfl,⟨hkw.1.trans (h3.mono hkw.1.size),h2⟩,h3.size,fun _ hb=>hb.elim,fun b _ hlt _=>h3.block b hlt⟩
 ·obtain ⟨⟨v,rfl⟩,hsh⟩:=hs'
  exact h v hsh
end
end Go.Proofs.YtdpoppilnokniaaGreatDoor
