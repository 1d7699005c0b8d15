/- Theorems of this seat. -/
import Derived.Test.YtdpoppilnokniaaGreatDoorWBA
import Derived.Test.YtdpoppilnokniaaGreatDoorWBB
namespace Go.Proofs.YtdpoppilnokniaaGreatDoor
set_option linter.unusedVariables false
open Go.RowKit
section
variable {P:Program} {ops:Array Oper}
def sPlan (w0:World) (Shape:List Value→Prop) (mains:List Nat) (al:List (Nat×(Nat→Value)×Obj)) (st:List (Nat×Nat)):PlanO (List Value) :=
 {K:=fun _ w=>Below w0.heap.size w0 w,D:=fun _ w=>Below w0.heap.size w0 w,mstep:=fun _ s s'=>(∃ v,s' = v :: s)∧Shape s',mval:=fun _ s=>s.headD undef,mains:=mains,al:=al,st:=st,B0:=w0.heap.size,
  own:=fun _ _=>False,uses:=fun _=>[] }
variable {w0:World} {Shape:List Value→Prop} {mains:List Nat} {al:List (Nat×(Nat→Value)×Obj)} {st:List (Nat×Nat)}
theorem sPlan_ok (h1:(al.map (·.1)).Nodup) (h2:(st.map (·.1)).Nodup):(sPlan w0 Shape mains al st).Ok :=
 ⟨fun _ _ h=>h,fun s w _ _ o _ h=>Below.alloc h h.size o,fun _ _ _ _ _ h=>h,fun _ _ h=>h.size,h1,h2,.inr fun s w b o hb ho h=>below_setAt hb h,fun _ _ _ _ h=>h.elim⟩
theorem sPlan_start:(sPlan w0 Shape mains al st).K [] w0.drew:=(Below.refl _ _).drew
variable {a:Act} {i:Nat} {o:Oper} {r:List (Nat×Oper)} {s:List Value} {Bs:List (Nat×Nat×Obj)} {Fin:Act→List Value→List (Nat×Nat×Obj)→Prop}
theorem wpChainO_scall (f:FuncId) (args:Array Value) (hk:(sPlan w0 Shape mains al st).kind i = 2) (hw:Region.wanted o (yielded ops a.tmps) = true) (hr:∀ w,(execOp a.eval o).run P w = .ok (.enter f args) w)
  (hc:∀ w,Below w0.heap.size w0 w→Calls P f args w fun e w'=>∃ v,e = .returned v∧Shape (v :: s)∧Below w.heap.size w w')
  (h:∀ v,Shape (v :: s)→wpChainO P ops (sPlan w0 Shape mains al st) Fin r (a.put o.dst v) (v :: s) Bs):wpChainO P ops (sPlan w0 Shape mains al st) Fin ((i,o) :: r) a s Bs:=by
 refine wpChainO_main hk hw (fun w hkw hU=>?_) (fun s' hs'=>?_)
 ·rw[hr w]
  refine (hc w hkw).mono ?_
  rintro e w' ⟨v,he,h1,h3⟩
  have hkw':Below w0.heap.size w0 w:=hkw
  exact ⟨v,he,v :: s,⟨⟨v,rfl⟩,h1⟩,.inr rfl,hkw'.trans (h3.mono hkw'.size),h3.size,fun _ hb=>hb.elim,fun b _ hlt _=>h3.block b hlt⟩
 ·obtain ⟨⟨v,rfl⟩,hsh⟩:=hs'
  exact h v hsh
end
end Go.Proofs.YtdpoppilnokniaaGreatDoor
namespace Go.Proofs.YtdpoppilnokniaaGreatDoor
set_option linter.unusedVariables false
open Go.RowKit
structure ApRow where
 w0:World
 base:Nat
 e:TypeId
 sz:Nat
 v:Value
 n:Nat
 f:Nat→List Value
 news:List Value
def apPlan (q:ApRow) (i:Nat) (al:List (Nat×(Nat→Value)×Obj)) (us:List Nat):PlanO (Option (Nat×Nat)) :=
 {K:=fun s w=>match s with
   | none=>Below q.w0.heap.size q.w0 w
   | some (g,c)=>Off (fun b=>q.v.ownBlock = some b) q.w0 w∧g < w.heap.size∧Row w q.base q.e q.sz (.slice (some ⟨g,0,none⟩) (q.n+1) c) (q.n+1) (upd q.f q.n q.news),
  D:=fun _ w=>Off (fun b=>q.v.ownBlock = some b) q.w0 w,
  mstep:=fun _ s s'=>s = none∧∃ g c,s' = some (g,c)∧(q.v.ownBlock = some g∨q.w0.heap.size≤g)∧q.base≤g∧q.n+1≤c∧c≤9223372036854775807,
  mval:=fun _ s=>match s with | none=>undef | some (g,c)=>.slice (some ⟨g,0,none⟩) (q.n+1) c,
  mains:=[i],al:=al,st:=[],B0:=q.w0.heap.size,
  own:=fun s b=>match s with | none=>False | some (g,_)=>b = g∧q.w0.heap.size≤g,
  uses:=fun j=>if j = i then us else [] }
variable {P:Program} {ops:Array Oper} {q:ApRow} {i:Nat} {al:List (Nat×(Nat→Value)×Obj)} {us:List Nat}
theorem apPlan_ok (h1:(al.map (·.1)).Nodup):(apPlan q i al us).Ok :=
 ⟨fun s w h=>by
  rcases s with _ | ⟨g,c⟩
  ·exact Off.of_below h
  ·exact h.1,
 fun s w _ _ o _ h=>by
  rcases s with _ | ⟨g,c⟩
  ·have h:Below q.w0.heap.size q.w0 w:=h
   exact Below.alloc h h.size o
  ·have hb:=(Below.refl w.heap.size w).alloc (Nat.le_refl _) o
   exact ⟨h.1.alloc o,Nat.lt_of_lt_of_le h.2.1 hb.size,h.2.2.off ((Off.refl (fun _=>False) w).alloc o) (fun _ _ h=>h)⟩,
 fun _ _ _ _ _ h=>h,
 fun s w h=>by
  rcases s with _ | ⟨g,c⟩
  ·exact Below.size h
  ·exact h.1.size,
 h1,by simp [apPlan],.inl rfl,
 fun s w b h ho=>by
  rcases s with _ | ⟨g,c⟩
  ·exact ho.elim
  ·obtain ⟨rfl,_⟩:=ho;exact h.2.1⟩
theorem apUses (h:(us.all fun k=>Region.waitsFor .any ops i k) = true):∀ j k,k∈(apPlan q i al us).uses j→Region.waitsFor .any ops j k = true:=fun j k hk=>by
 have hk:k∈(if j = i then us else []):=hk
 by_cases e:j = i
 ·subst e;rw[if_pos rfl] at hk;exact List.all_eq_true.1 h k hk
 ·rw[if_neg e] at hk;cases hk
theorem apPlan_start:(apPlan q i al us).K none q.w0.drew:=(Below.refl _ _).drew
theorem apfamily (w0:World) (v:Value):∃ (ι:Type) (_:Nonempty ι) (F:ι→World),(∀ i,Off (fun b=>v.ownBlock = some b) w0 (F i))∧∀ w,Off (fun b=>v.ownBlock = some b) w0 w→∃ i,w = F i :=
 ⟨{ w:World // Off (fun b=>v.ownBlock = some b) w0 w },⟨⟨w0,Off.refl _ _⟩⟩,Subtype.val,fun i=>i.2,fun w h=>⟨⟨w,h⟩,rfl⟩⟩
variable {a:Act} {o:Oper} {r:List (Nat×Oper)} {Bs:List (Nat×Nat×Obj)} {Fin:Act→Option (Nat×Nat)→List (Nat×Nat×Obj)→Prop}
theorem wpChainO_append {x1 x2:Operand}{ty:TypeId}{t:Tmp}(hk:(apPlan q i al us).kind i = 2) (ho:o.op = .call { callee:=.builtin .append,args:=#[x1,x2],argTypes:=#[ty,ty] })
  (hgd:o.guard = none) (hd:o.dst = some t) (htt:t < a.tmps.size) (hw:Region.wanted o (yielded ops a.tmps) = true)
  (z:Value) (bytes:Nat) (ht:P.underlying ty = some (.slice q.e)) (hi:(P.info? q.e).map (fun i=>(i.zero,i.size,i.bytes)) = some (some z,q.sz,bytes)) (hzs:z.cells.size = q.sz) (hsz:0 < q.sz)
  (hs:a.eval x1 = q.v) (hf:∀ j,(q.f j).length = q.sz) (hrow:Row q.w0 q.base q.e q.sz q.v q.n q.f) (hbase:q.base≤q.w0.heap.size)
  (j b1:Nat) (ob:TypeId) (hx:a.eval x2 = .slice (some ⟨b1,0,none⟩) 1 1) (hl:q.news.length = q.sz) (hm:(j,b1,Obj.cells q.news.toArray ob (0,0))∈Bs) (hus:us.contains j = true) (h1:∀ u∈q.news,u.oneCell' = true)
  (hbytes:(q.n+1) * bytes≤140737488355328) (h63:q.n+1≤maxLen)
  (h:∀ g c,(q.v.ownBlock = some g∨q.w0.heap.size≤g)→q.base≤g→q.n+1≤c→c≤9223372036854775807→wpChainO P ops (apPlan q i al us) Fin r (a.put o.dst (.slice (some ⟨g,0,none⟩) (q.n+1) c)) (some (g,c)) Bs) :
  wpChainO P ops (apPlan q i al us) Fin ((i,o) :: r) a none Bs:=by
 obtain ⟨ti,hi0,hz0,hz1,hz2⟩:=info_parts hi
 refine wpChainO_main hk hw (fun w hkw hU=>?_) (fun s' hs'=>?_)
 ·have hkw:Below q.w0.heap.size q.w0 w:=hkw
  have hrow':Row w q.base q.e q.sz q.v q.n q.f:=Row.off (X:=fun _=>False) hrow (Off.of_below hkw) (fun _ _ h=>h)
  have hown:∀ b,q.v.ownBlock = some b→b < q.w0.heap.size:=fun b hb=>(World.ownsRow.lt hrow b hb).2
  have hmem:(j,b1,Obj.cells q.news.toArray ob (0,0))∈usedBy (apPlan q i al us) i Bs:=List.mem_filter.2 ⟨hm,by show (if i = i then us else []).contains j = true;rw[if_pos rfl];exact hus⟩
  refine stepO_append ho hd htt hw ?_
  refine wpList_append_row w hgd x1 x2 ty ho q.base q.e ti z q.sz bytes ht hi0 hz0 hz1 hz2 hzs hsz q.v q.n q.f hs hrow' hf b1 1 q.news hx hl ob (0,0) (hU _ hmem).1 h1 hbytes h63 (Nat.le_trans hbase hkw.size) ?_
  intro g cap w' k1 k2 k3 k4 k5 hr hg
  have hoff:Off (fun b=>q.v.ownBlock = some b) w w':=(Off.of_grown hg).mono (fun i _ hh=>hh.symm)
  refine ⟨rfl,.slice (some ⟨g,0,none⟩) (q.n+1) cap,by simp [Act.put,hd,htt],some (g,cap),⟨rfl,g,cap,rfl,k5.imp_right (fun h=>Nat.le_trans hkw.size h),k3,k1,k2⟩,.inr rfl,⟨(Off.of_below hkw).trans hoff (fun _ _ h=>h),k4,hr⟩,hg.size,fun b hb=>?_,fun b hb0 hlt _=>hg.block b hlt (fun e=>by have:=hown b e.symm;have hb0:q.w0.heap.size≤b:=hb0;omega)⟩
  obtain ⟨rfl,hb⟩:=hb
  rcases k5 with h5 | h5
  ·have:=hown b h5;omega
  ·exact .inr h5
 ·obtain ⟨_,g,c,rfl,h2,h3,h4,h5⟩:=hs'
  exact h g c h2 h3 h4 h5
end Go.Proofs.YtdpoppilnokniaaGreatDoor
namespace Go.Proofs.YtdpoppilnokniaaGreatDoor
set_option linter.unusedVariables false
open Go.RowKit
structure BiRow where
 w0:World
 base:Nat
 e:TypeId
 sz:Nat
 v:Value
 n:Nat
 f:Nat→List Value
 o1:Obj
 news:Nat→List Value
 e2:TypeId
inductive BiSt where
 | s0
 | s1 (b1:Nat)
 | s2 (b1 b2:Nat)
 | s3 (b1 b2 g c:Nat)
def biK (q:BiRow):BiSt→World→Prop
 | .s0,w=>Below q.w0.heap.size q.w0 w
 | .s1 b1,w=>Below q.w0.heap.size q.w0 w∧q.w0.heap.size≤b1∧w.heap[b1]? = some q.o1
 | .s2 b1 b2,w=>Below q.w0.heap.size q.w0 w∧q.w0.heap.size≤b1∧w.heap[b1]? = some q.o1∧q.w0.heap.size≤b2∧w.heap[b2]? = some (.cells (q.news b1).toArray q.e2 (0,0))
 | .s3 b1 b2 g c,w=>Off (fun b=>q.v.ownBlock = some b) q.w0 w∧q.w0.heap.size≤b1∧w.heap[b1]? = some q.o1∧b2 < w.heap.size∧g < w.heap.size∧g ≠ b1∧Row w q.base q.e q.sz (.slice (some ⟨g,0,none⟩) (q.n+1) c) (q.n+1) (upd q.f q.n (q.news b1))
def biOwn (q:BiRow):BiSt→Nat→Prop
 | .s0,_=>False
 | .s1 b1,b=>b = b1
 | .s2 b1 b2,b=>b = b1∨b = b2
 | .s3 b1 b2 g _,b=>b = b1∨b = b2∨(b = g∧q.w0.heap.size≤g)
def biVal (q:BiRow):BiSt→Value
 | .s0=>undef
 | .s1 b1=>.slice (some ⟨b1,0,none⟩) 1 1
 | .s2 _ b2=>.slice (some ⟨b2,0,none⟩) 1 1
 | .s3 _ _ g c=>.slice (some ⟨g,0,none⟩) (q.n+1) c
def biStep (q:BiRow):BiSt→BiSt→Prop
 | .s0,s'=>∃ b,s' = .s1 b∧q.w0.heap.size≤b
 | .s1 b1,s'=>∃ b,s' = .s2 b1 b∧q.w0.heap.size≤b
 | .s2 b1 b2,s'=>∃ g c,s' = .s3 b1 b2 g c∧(q.v.ownBlock = some g∨q.w0.heap.size≤g)∧q.base≤g∧q.n+1≤c∧c≤9223372036854775807
 | .s3 ..,_=>False
def biPlan (q:BiRow) (mains:List Nat):PlanO BiSt :=
 {K:=biK q,D:=fun _ w=>Off (fun b=>q.v.ownBlock = some b) q.w0 w,mstep:=fun _=>biStep q,mval:=fun _=>biVal q,mains:=mains,al:=[],st:=[],B0:=q.w0.heap.size,own:=biOwn q,uses:=fun _=>[] }
variable {P:Program} {ops:Array Oper} {q:BiRow} {i:Nat} {mains:List Nat}
theorem biPlan_ok:(biPlan q mains).Ok :=
 ⟨fun s w h=>by
  cases s with
  | s0=>exact Off.of_below h
  | s1 b1=>exact Off.of_below h.1
  | s2 b1 b2=>exact Off.of_below h.1
  | s3 b1 b2 g c=>exact h.1,
 fun s w _ _ o hm h=>(nomatch hm),
 fun _ _ _ _ _ h=>h,
 fun s w h=>by
  cases s with
  | s0=>exact Below.size h
  | s1 b1=>exact h.1.size
  | s2 b1 b2=>exact h.1.size
  | s3 b1 b2 g c=>exact h.1.size,
 by simp [biPlan],by simp [biPlan],.inl rfl,
 fun s w b h ho=>by
  cases s with
  | s0=>exact ho.elim
  | s1 b1=>have ho:b = b1:=ho;subst ho;exact block_lt h.2.2
  | s2 b1 b2 =>
   rcases ho with ho | ho
   ·subst ho;exact block_lt h.2.2.1
   ·subst ho;exact block_lt h.2.2.2.2
  | s3 b1 b2 g c =>
   rcases ho with ho | ho | ho
   ·subst ho;exact block_lt h.2.2.1
   ·subst ho;exact h.2.2.2.1
   ·obtain ⟨rfl,_⟩:=ho;exact h.2.2.2.2.1⟩
theorem biPlan_start:(biPlan q mains).K .s0 q.w0.drew:=(Below.refl _ _).drew
variable {a:Act} {o:Oper} {r:List (Nat×Oper)} {Bs:List (Nat×Nat×Obj)} {Fin:Act→BiSt→List (Nat×Nat×Obj)→Prop}
theorem wpChainO_bi1 (hk:(biPlan q mains).kind i = 2) (hw:Region.wanted o (yielded ops a.tmps) = true)
  (hl:∀ w:World,(execOp a.eval o).run P w = .ok (.value (.slice (some ⟨w.heap.size,0,none⟩) 1 1)) (w.alloc q.o1))
  (h:∀ b1,q.w0.heap.size≤b1→wpChainO P ops (biPlan q mains) Fin r (a.put o.dst (.slice (some ⟨b1,0,none⟩) 1 1)) (.s1 b1) Bs) :
  wpChainO P ops (biPlan q mains) Fin ((i,o) :: r) a .s0 Bs:=by
 refine wpChainO_main hk hw (fun w hkw hU=>?_) (fun s' hs'=>?_)
 ·have hkw:Below q.w0.heap.size q.w0 w:=hkw
  rw[hl]
  have hb:=(Below.refl w.heap.size w).alloc (Nat.le_refl _) q.o1
  exact ⟨.s1 w.heap.size,⟨_,rfl,hkw.size⟩,.inr rfl,⟨hkw.trans (hb.mono hkw.size),hkw.size,heap_alloc_new w _⟩,hb.size,fun b hb=>.inr (by have hb:b = w.heap.size:=hb;omega),fun b _ hlt _=>hb.block b hlt⟩
 ·obtain ⟨b,rfl,hb⟩:=hs'
  exact h b hb
theorem wpChainO_bi2 {b1:Nat}(hk:(biPlan q mains).kind i = 2) (hw:Region.wanted o (yielded ops a.tmps) = true)
  (hl:∀ w:World,(execOp a.eval o).run P w = .ok (.value (.slice (some ⟨w.heap.size,0,none⟩) 1 1)) (w.alloc (.cells (q.news b1).toArray q.e2)))
  (h:∀ b2,q.w0.heap.size≤b2→wpChainO P ops (biPlan q mains) Fin r (a.put o.dst (.slice (some ⟨b2,0,none⟩) 1 1)) (.s2 b1 b2) Bs) :
  wpChainO P ops (biPlan q mains) Fin ((i,o) :: r) a (.s1 b1) Bs:=by
 refine wpChainO_main hk hw (fun w hkw hU=>?_) (fun s' hs'=>?_)
 ·obtain ⟨k1,k2,k3⟩:biK q (.s1 b1) w:=hkw
  rw[hl]
  have hb:=(Below.refl w.heap.size w).alloc (Nat.le_refl _) (.cells (q.news b1).toArray q.e2)
  exact ⟨.s2 b1 w.heap.size,⟨_,rfl,k1.size⟩,.inr rfl,⟨k1.trans (hb.mono k1.size),k2,(hb.block _ (block_lt k3)).trans k3,k1.size,heap_alloc_new w _⟩,hb.size,fun b hb=>by
   rcases hb with hb | hb
   ·exact .inl hb
   ·exact .inr (by omega),fun b _ hlt _=>hb.block b hlt⟩
 ·obtain ⟨b,rfl,hb⟩:=hs'
  exact h b hb
theorem wpChainO_bi3 {b1 b2:Nat}{x1 x2:Operand}{ty:TypeId}{t:Tmp}(hk:(biPlan q mains).kind i = 2) (ho:o.op = .call { callee:=.builtin .append,args:=#[x1,x2],argTypes:=#[ty,ty] })
  (hgd:o.guard = none) (hd:o.dst = some t) (htt:t < a.tmps.size) (hw:Region.wanted o (yielded ops a.tmps) = true)
  (z:Value) (bytes:Nat) (ht:P.underlying ty = some (.slice q.e)) (hi:(P.info? q.e).map (fun i=>(i.zero,i.size,i.bytes)) = some (some z,q.sz,bytes)) (hzs:z.cells.size = q.sz) (hsz:0 < q.sz)
  (hs:a.eval x1 = q.v) (hf:∀ j,(q.f j).length = q.sz) (hrow:Row q.w0 q.base q.e q.sz q.v q.n q.f) (hbase:q.base≤q.w0.heap.size)
  (hx:a.eval x2 = .slice (some ⟨b2,0,none⟩) 1 1) (hl:(q.news b1).length = q.sz) (h1:∀ u∈q.news b1,u.oneCell' = true)
  (hbytes:(q.n+1) * bytes≤140737488355328) (h63:q.n+1≤maxLen)
  (h:∀ g c,(q.v.ownBlock = some g∨q.w0.heap.size≤g)→q.base≤g→q.n+1≤c→c≤9223372036854775807→wpChainO P ops (biPlan q mains) Fin r (a.put o.dst (.slice (some ⟨g,0,none⟩) (q.n+1) c)) (.s3 b1 b2 g c) Bs) :
  wpChainO P ops (biPlan q mains) Fin ((i,o) :: r) a (.s2 b1 b2) Bs:=by
 obtain ⟨ti,hi0,hz0,hz1,hz2⟩:=info_parts hi
 refine wpChainO_main hk hw (fun w hkw hU=>?_) (fun s' hs'=>?_)
 ·obtain ⟨hkw,j2,j3,j4,j5⟩:biK q (.s2 b1 b2) w:=hkw
  have hrow':Row w q.base q.e q.sz q.v q.n q.f:=Row.off (X:=fun _=>False) hrow (Off.of_below hkw) (fun _ _ h=>h)
  have hown:∀ b,q.v.ownBlock = some b→b < q.w0.heap.size:=fun b hb=>(World.ownsRow.lt hrow b hb).2
  refine stepO_append ho hd htt hw ?_
  refine wpList_append_row w hgd x1 x2 ty ho q.base q.e ti z q.sz bytes ht hi0 hz0 hz1 hz2 hzs hsz q.v q.n q.f hs hrow' hf b2 1 (q.news b1) hx hl q.e2 (0,0) j5 h1 hbytes h63 (Nat.le_trans hbase hkw.size) ?_
  intro g cap w' k1 k2 k3 k4 k5 hr hg
  have hoff:Off (fun b=>q.v.ownBlock = some b) w w':=(Off.of_grown hg).mono (fun i _ hh=>hh.symm)
  have n1:g ≠ b1:=fun e=>by
   rcases k5 with h5 | h5
   ·have:=hown g h5;omega
   ·have:=block_lt j3;omega
  have kb:w'.heap[b1]? = some q.o1:=(hg.block b1 (block_lt j3) (fun e=>by have:=hown b1 e.symm;omega)).trans j3
  refine ⟨rfl,.slice (some ⟨g,0,none⟩) (q.n+1) cap,by simp [Act.put,hd,htt],.s3 b1 b2 g cap,⟨g,cap,rfl,k5.imp_right (fun h=>Nat.le_trans hkw.size h),k3,k1,k2⟩,.inr rfl,⟨(Off.of_below hkw).trans hoff (fun _ _ h=>h),j2,kb,Nat.lt_of_lt_of_le (block_lt j5) hg.size,k4,n1,hr⟩,hg.size,fun b hb=>?_,fun b hb0 hlt _=>hg.block b hlt (fun e=>by have:=hown b e.symm;have hb0:q.w0.heap.size≤b:=hb0;omega)⟩
  rcases hb with hb | hb | ⟨rfl,hb⟩
  ·exact .inl (.inl hb)
  ·exact .inl (.inr hb)
  ·rcases k5 with h5 | h5
   ·have:=hown b h5;omega
   ·exact .inr h5
 ·obtain ⟨g,c,rfl,h2,h3,h4,h5⟩:=hs'
  exact h g c h2 h3 h4 h5
end Go.Proofs.YtdpoppilnokniaaGreatDoor
namespace Go.Proofs.YtdpoppilnokniaaGreatDoor
set_option linter.unusedVariables false
open Go.RowKit
section
variable {P:Program} {ops:Array Oper}
def cWorld (w0:World) (c:Nat) (o:Obj) (s:Bool):World:=match s with | true=>setAt w0 c o | false=>w0
def cPlan (w0:World) (c:Nat) (o:Obj) (i:Nat):PlanO Bool :=
 {K:=fun s w=>Below w0.heap.size (cWorld w0 c o s) w,D:=fun _ w=>∃ s,Below w0.heap.size (cWorld w0 c o s) w,mstep:=fun _ s s'=>s = false∧s' = true,mval:=fun _ _=>undef,mains:=[i],al:=[],st:=[],B0:=w0.heap.size,
  own:=fun _ _=>False,uses:=fun _=>[] }
variable {w0:World} {c:Nat} {o':Obj} {k:Nat}
theorem cWorld_size (s:Bool):(cWorld w0 c o' s).heap.size = w0.heap.size:=by cases s <;> simp [cWorld,setAt]
theorem cPlan_ok:(cPlan w0 c o' k).Ok :=
 ⟨fun s _ h=>⟨s,h⟩,fun s w _ _ o hm h=>(nomatch hm),fun _ _ _ _ _ h=>h,fun s w h=>by have:=Below.size h;rw[cWorld_size] at this;exact this,(by simp [cPlan]),(by simp [cPlan]),.inl rfl,fun _ _ _ _ h=>h.elim⟩
theorem cPlan_start:(cPlan w0 c o' k).K false w0.drew:=(Below.refl _ _).drew
theorem below_at {w:World}(hc:c < w0.heap.size) (h:Below w0.heap.size w0 w):Below w0.heap.size (setAt w0 c o') (setAt w c o') :=
 ⟨h.os,h.tape,h.output,by simp [setAt];exact h.size,fun k hk=>by
  show (w.heap.setIfInBounds c o')[k]? = (w0.heap.setIfInBounds c o')[k]?
  by_cases hkc:c = k
  ·subst hkc
   rw[Array.getElem?_setIfInBounds_self_of_lt hc,Array.getElem?_setIfInBounds_self_of_lt (Nat.lt_of_lt_of_le hc h.size)]
  ·rw[Array.getElem?_setIfInBounds_ne hkc,Array.getElem?_setIfInBounds_ne hkc]
   exact h.block k hk⟩
theorem cell_kept_but {w:World}(h:∃ s,Below w0.heap.size (cWorld w0 c o' s) w) {a:Addr}{v:Value}(hne:c ≠ a.block) (hv:w0.cell? a = some v):w.cell? a = some v:=by
 obtain ⟨s,h⟩:=h
 have h1:=h.block a.block (cell_lt hv)
 have h2:(cWorld w0 c o' s).heap[a.block]? = w0.heap[a.block]?:=by
  cases s
  ·rfl
  ·show (w0.heap.setIfInBounds c o')[a.block]? = _
   rw[Array.getElem?_setIfInBounds_ne hne]
 rw[World.cell?_of_block (w:=w0) (h1.trans h2)];exact hv
theorem cfamily (w0:World) (c:Nat) (o':Obj):∃ (ι:Type) (_:Nonempty ι) (F:ι→World),(∀ i,∃ s,Below w0.heap.size (cWorld w0 c o' s) (F i))∧∀ w,(∃ s,Below w0.heap.size (cWorld w0 c o' s) w)→∃ i,w = F i :=
 ⟨{ w:World // ∃ s,Below w0.heap.size (cWorld w0 c o' s) w },⟨⟨w0,false,Below.refl _ _⟩⟩,Subtype.val,fun i=>i.2,fun w h=>⟨⟨w,h⟩,rfl⟩⟩
variable {a:Act} {o:Oper} {r:List (Nat×Oper)} {Bs:List (Nat×Nat×Obj)} {Fin:Act→Bool→List (Nat×Nat×Obj)→Prop}
end
end Go.Proofs.YtdpoppilnokniaaGreatDoor
