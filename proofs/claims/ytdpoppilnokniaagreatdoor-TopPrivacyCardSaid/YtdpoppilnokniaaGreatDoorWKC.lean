/- Theorems of this seat. -/
import Derived.Test.YtdpoppilnokniaaGreatDoorWBB
import Derived.WideKeyEntry
import Derived.WideKeyArr
import Derived.Test.YtdpoppilnokniaaGreatDoorWBA
import Derived.Test.YtdpoppilnokniaaGreatDoorWEVA
import Derived.Shelf.SlSortCmp.Whole1
import Derived.Test.YtdpoppilnokniaaGreatDoorWKB
namespace Go.Proofs.YtdpoppilnokniaaGreatDoor
open Go.RowKit Go.WideElems Go.MapKept Go.ChangeMaps Go.ChangeShapes Go.WideShapes
open Go.WideMaps (KeyLaw)
set_option linter.unusedVariables false
structure CntMap (P:Program) (k:TypeId) (w:World) (b n:Nat) (T:Value→Int) (es:Array MapEntry) (clock:Nat):Prop where
 block:w.heap[b]? = some (.map es clock)
 few:es.size≤n
 born:∀ x∈es.toList,x.born < clock
 apart:(es.toList.map (·.born)).Nodup
 keys:∀ x∈es.toList,∃ l,keyOf P k x.key = some l
 uniq:(es.toList.map (·.key)).Nodup
 vals:∀ x∈es.toList,x.val = .int .i64 (T x.key)
 rest:∀ key,(∃ l,keyOf P k key = some l)→(∀ x∈es.toList,x.key ≠ key)→T key = 0
section
variable {P:Program} {k e t:TypeId} {w:World} {b n:Nat} {T:Value→Int} {es:Array MapEntry} {clock:Nat}
theorem CntMap.made (P:Program) (k:TypeId) (w:World):CntMap P k (w.alloc (.map #[] 0)) w.heap.size 0 (fun _=>0) #[] 0 :=
 ⟨heap_alloc_new w _,Nat.le_refl _,by simp,by simp,by simp,by simp,by simp,fun _ _ _=>rfl⟩
theorem CntMap.keep {w':World}(h:CntMap P k w b n T es clock) (hb:w'.heap[b]? = w.heap[b]?):CntMap P k w' b n T es clock:={ h with block:=hb.trans h.block }
theorem CntMap.look (h:CntMap P k w b n T es clock) (K:KeyLaw P k) (ht:P.underlying t = some (.map k e)) (hz:∀ u:World,(zeroValue e).run P u = .ok (.int .i64 0) u) {key:Value}{kl:Lit}(hkey:keyOf P k key = some kl) :
  (Instr.lookup t (.map (some b)) key false).run P w = .ok (.int .i64 (T key)) w:=by
 rcases K.find w hkey es.toList h.keys with ⟨h1,h2⟩ | ⟨j,e0,h1,h2,h3⟩
 ·rw[h.rest key ⟨kl,hkey⟩ h2]
  simp [Instr.lookup,run_underlying ht,MapKept.run_getObj_map h.block,K.check w _ hkey,h1,hz w,Result.andThen]
 ·have hv:=h.vals e0 (List.mem_of_getElem? h2)
  rw[h3] at hv
  rw[←hv]
  simp [Instr.lookup,run_underlying ht,MapKept.run_getObj_map h.block,K.check w _ hkey,h1,Result.andThen]
theorem nodup_at {α:Type}{l:List α}(h:l.Nodup) {i j:Nat}{a:α}(hi:l[i]? = some a) (hj:l[j]? = some a):i = j:=by
 obtain ⟨hi',ei⟩:=List.getElem?_eq_some_iff.1 hi
 obtain ⟨hj',ej⟩:=List.getElem?_eq_some_iff.1 hj
 rcases Nat.lt_trichotomy i j with q | q | q
 ·exact absurd (ei.trans ej.symm) (List.pairwise_iff_getElem.1 h i j hi' hj' q)
 ·exact q
 ·exact absurd (ej.trans ei.symm) (List.pairwise_iff_getElem.1 h j i hj' hi' q)
theorem CntMap.bump (h:CntMap P k w b n T es clock) (K:KeyLaw P k) (ht:P.underlying t = some (.map k e)) (hz:∀ u:World,(zeroValue e).run P u = .ok (.int .i64 0) u) {key:Value}{kl:Lit}(hkey:keyOf P k key = some kl) (y:Int) {T':Value→Int}(hT:T' key = y) (hT2:∀ z,z ≠ key→T' z = T z) :
  ∃ (st:Nat) (es1:Array MapEntry) (clock1:Nat),(∀ w1:World,w1.heap[b]? = some (.map es clock)→(Instr.mapEntry t (.map (some b)) key).run P w1 = .ok (.tuple #[.int .i64 (T key),goInt st]) (setBlock w1 b (.map es1 clock1))) ∧
   (∀ w2:World,w2.heap[b]? = some (.map es1 clock1)→(Instr.lookup t (.map (some b)) key false).run P w2 = .ok (.int .i64 (T key)) w2) ∧
   ∀ w2:World,w2.heap[b]? = some (.map es1 clock1)→∃ es' clock',(Instr.entryStore t (.map (some b)) (goInt st) (.int .i64 y)).run P w2 = .ok () (setBlock w2 b (.map es' clock'))∧CntMap P k (setBlock w2 b (.map es' clock')) b (n+1) T' es' clock':=by
 rcases K.find w hkey es.toList h.keys with ⟨h1,h2⟩ | ⟨j,e0,h1,h2,h3⟩
 ·have hT0:T key = 0:=h.rest key ⟨kl,hkey⟩ h2
  have hf:∀ w1,(Instr.findKey k key es.toList).run P w1 = .ok none w1:=fun w1=>by
   rcases K.find w1 hkey es.toList h.keys with ⟨g1,_⟩ | ⟨j,e0,_,g2,g3⟩
   ·exact g1
   ·exact absurd g3 (h2 e0 (List.mem_of_getElem? g2))
  have one:CntMap P k (setBlock w b (.map (es.push ⟨key,.int .i64 0,clock⟩) (clock+1))) b (n+1) T (es.push ⟨key,.int .i64 0,clock⟩) (clock+1):=by
   refine ⟨heap_setBlock_same h.block _,by simp;exact h.few,?_,?_,?_,?_,?_,?_⟩
   ·intro x hx
    simp only[Array.toList_push,List.mem_append,List.mem_singleton] at hx
    rcases hx with hx | rfl
    ·have:=h.born x hx;omega
    ·exact Nat.lt_succ_self _
   ·simp only[Array.toList_push,List.map_append,List.map_cons,List.map_nil]
    refine List.nodup_append.2 ⟨h.apart,by simp,fun a ha c hc e1=>?_⟩
    simp only[List.mem_singleton] at hc
    obtain ⟨x,hx,rfl⟩:=List.mem_map.1 ha
    have:=h.born x hx
    omega
   ·intro x hx
    simp only[Array.toList_push,List.mem_append,List.mem_singleton] at hx
    rcases hx with hx | rfl
    ·exact h.keys x hx
    ·exact ⟨kl,hkey⟩
   ·simp only[Array.toList_push,List.map_append,List.map_cons,List.map_nil]
    refine List.nodup_append.2 ⟨h.uniq,by simp,fun a ha c hc e1=>?_⟩
    simp only[List.mem_singleton] at hc
    obtain ⟨x,hx,rfl⟩:=List.mem_map.1 ha
    exact h2 x hx (e1.trans hc)
   ·intro x hx
    simp only[Array.toList_push,List.mem_append,List.mem_singleton] at hx
    rcases hx with hx | rfl
    ·exact h.vals x hx
    ·show _ = Value.int .i64 (T key);rw[hT0]
   ·intro z hzk hno
    exact h.rest z hzk (fun x hx=>hno x (by simp [hx]))
  refine ⟨clock,es.push ⟨key,.int .i64 0,clock⟩,clock+1,?_,fun w2 hw2=>?_,fun w2 hw2=>?_⟩
  ·intro w1 hw1
   rw[hT0]
   simp [Instr.mapEntry,run_underlying ht,MapKept.run_getObj_map hw1,K.check w1 false hkey,hf w1,hz,MapKept.run_setObj_map _ hw1,Result.andThen,setBlock]
  ·exact (one.keep (hw2.trans one.block.symm)).look K ht hz hkey
  ·have hidx:(es.push ⟨key,.int .i64 0,clock⟩).findIdx? (fun e=>((e.born:Nat):Int) == ((clock:Nat):Int)) = some es.size:=by
    rw[findIdx_arr]
    have:=findIdx_born (l:=(es.push ⟨key,.int .i64 0,clock⟩).toList) (j:=es.size) (e0:=⟨key,.int .i64 0,clock⟩) one.apart (by simp)
    exact this
   have hmod:(es.push ⟨key,.int .i64 0,clock⟩).modify es.size (fun e=>{ e with val:=.int .i64 y }) = es.push ⟨key,.int .i64 y,clock⟩:=by
    apply Array.ext'
    rw[Array.toList_modify,Array.toList_push,Array.toList_push,←Array.length_toList,modify_last]
   refine ⟨es.push ⟨key,.int .i64 y,clock⟩,clock+1,by simp [Instr.entryStore,MapKept.run_getObj_map hw2,asInt,asIntOf,goInt,hidx,hmod,MapKept.run_setObj_map _ hw2,Result.andThen,setBlock],heap_setBlock_same hw2 _,by simp;exact h.few,?_,?_,?_,?_,?_,?_⟩
   ·intro x hx
    simp only[Array.toList_push,List.mem_append,List.mem_singleton] at hx
    rcases hx with hx | rfl
    ·have:=h.born x hx;omega
    ·exact Nat.lt_succ_self _
   ·have:=one.apart
    simp only[Array.toList_push,List.map_append,List.map_cons,List.map_nil] at this ⊢
    exact this
   ·intro x hx
    simp only[Array.toList_push,List.mem_append,List.mem_singleton] at hx
    rcases hx with hx | rfl
    ·exact h.keys x hx
    ·exact ⟨kl,hkey⟩
   ·have:=one.uniq
    simp only[Array.toList_push,List.map_append,List.map_cons,List.map_nil] at this ⊢
    exact this
   ·intro x hx
    simp only[Array.toList_push,List.mem_append,List.mem_singleton] at hx
    rcases hx with hx | rfl
    ·rw[hT2 x.key (h2 x hx)];exact h.vals x hx
    ·show _ = Value.int .i64 (T' key);rw[hT]
   ·intro z hzk hno
    rw[hT2 z (fun e1=>hno ⟨key,.int .i64 y,clock⟩ (by simp) e1.symm)]
    exact h.rest z hzk (fun x hx=>hno x (by simp [hx]))
 ·have hj:es[j]? = some e0:=by simpa using h2
  have hsame:es.modify j (fun e=>{ e with key:=key }) = es:=by
   apply Array.ext'
   rw[Array.toList_modify,modify_eq_set _ _ _ _ h2]
   have:({ e0 with key:=key }:MapEntry) = e0:=by rw[←h3]
   rw[this]
   exact set_self _ _ _ h2
  have hv:=h.vals e0 (List.mem_of_getElem? h2)
  rw[h3] at hv
  refine ⟨e0.born,es,clock,?_,fun w2 hw2=>(h.keep (hw2.trans h.block.symm)).look K ht hz hkey,fun w2 hw2=>?_⟩
  ·intro w1 hw1
   have hf:(Instr.findKey k key es.toList).run P w1 = .ok (some (j,e0.val)) w1:=by
    rcases K.find w1 hkey es.toList h.keys with ⟨_,g2⟩ | ⟨j',e',g1,g2,g3⟩
    ·exact absurd h3 (g2 e0 (List.mem_of_getElem? h2))
    ·have ej:j' = j:=nodup_at h.uniq (a:=key) (by rw[List.getElem?_map,g2];simp [g3]) (by rw[List.getElem?_map,h2];simp [h3])
     subst ej
     rw[h2] at g2
     cases g2
     exact g1
   rw[←hv]
   simp [Instr.mapEntry,run_underlying ht,MapKept.run_getObj_map hw1,K.check w1 false hkey,hf,hj,h3,K.stays w1 hkey,hsame,MapKept.run_setObj_map _ hw1,Result.andThen,setBlock]
  ·have hidx:es.findIdx? (fun e=>((e.born:Nat):Int) == ((e0.born:Nat):Int)) = some j:=by
    rw[findIdx_arr]
    exact findIdx_born h.apart h2
   have hset:(es.modify j (fun e=>{ e with val:=.int .i64 y })).toList = es.toList.set j ⟨key,.int .i64 y,e0.born⟩:=by
    rw[Array.toList_modify,modify_eq_set _ _ _ _ h2,←h3]
   have hbn:(es.toList.set j ⟨key,.int .i64 y,e0.born⟩).map (·.born) = es.toList.map (·.born):=by
    rw[List.map_set]
    exact set_self _ _ _ (by rw[List.getElem?_map,h2];rfl)
   have hkn:(es.toList.set j ⟨key,.int .i64 y,e0.born⟩).map (·.key) = es.toList.map (·.key):=by
    rw[List.map_set]
    exact set_self _ _ _ (by rw[List.getElem?_map,h2,←h3];rfl)
   have hmem:∀ x,x∈es.toList.set j ⟨key,.int .i64 y,e0.born⟩→x = ⟨key,.int .i64 y,e0.born⟩∨(x∈es.toList∧x.key ≠ key):=fun x hx=>by
    obtain ⟨i,hi⟩:=List.mem_iff_getElem?.1 hx
    by_cases e1:i = j
    ·subst e1
     rw[List.getElem?_set_self (List.getElem?_eq_some_iff.1 h2).1] at hi
     cases hi;exact .inl rfl
    ·rw[List.getElem?_set_ne (fun e2=>e1 e2.symm)] at hi
     refine .inr ⟨List.mem_of_getElem? hi,fun e2=>e1 ?_⟩
     exact nodup_at h.uniq (a:=key) (by rw[List.getElem?_map,hi];simp [e2]) (by rw[List.getElem?_map,h2];simp [h3])
   refine ⟨es.modify j (fun e=>{ e with val:=.int .i64 y }),clock,by simp [Instr.entryStore,MapKept.run_getObj_map hw2,asInt,asIntOf,goInt,hidx,MapKept.run_setObj_map _ hw2,Result.andThen,setBlock],heap_setBlock_same hw2 _,by simp;have:=h.few;omega,?_,?_,?_,?_,?_,?_⟩
   ·rw[hset];intro x hx
    rcases hmem x hx with rfl | ⟨hx,_⟩
    ·exact h.born e0 (List.mem_of_getElem? h2)
    ·exact h.born x hx
   ·rw[hset,hbn];exact h.apart
   ·rw[hset];intro x hx
    rcases hmem x hx with rfl | ⟨hx,_⟩
    ·exact ⟨kl,hkey⟩
    ·exact h.keys x hx
   ·rw[hset,hkn];exact h.uniq
   ·rw[hset];intro x hx
    rcases hmem x hx with rfl | ⟨hx,hne⟩
    ·show _ = Value.int .i64 (T' key);rw[hT]
    ·rw[hT2 x.key hne];exact h.vals x hx
   ·rw[hset];intro z hzk hno
    have hne:z ≠ key:=fun e1=>hno ⟨key,.int .i64 y,e0.born⟩ (List.mem_iff_getElem?.2 ⟨j,List.getElem?_set_self (List.getElem?_eq_some_iff.1 h2).1⟩) e1.symm
    rw[hT2 z hne]
    refine h.rest z hzk (fun x hx=>?_)
    intro e1
    have hm:x.key∈(es.toList.set j ⟨key,.int .i64 y,e0.born⟩).map (·.key):=by rw[hkn];exact List.mem_map.2 ⟨x,hx,rfl⟩
    obtain ⟨x',hx',e2⟩:=List.mem_map.1 hm
    exact hno x' hx' (e2.trans e1)
end
end Go.Proofs.YtdpoppilnokniaaGreatDoor
namespace Go.Proofs.YtdpoppilnokniaaGreatDoor
open Go.RowKit Go.Shelf
set_option linter.unusedVariables false
set_option linter.unusedSimpArgs false
section
variable {P:Program} {ρ:Ren} {α:Type} [Inhabited α]
theorem sorted1_block {enc:α→Value}{m b:Nat}{w:World}{d:Array α}{os:Array Obj}{cur:Array Value}{e:TypeId}{fz:Nat×Nat}(h:w.heap[b]? = some (.cells cur e fz)) :
  (sortWorld enc w b 0 m d os).heap[b]? = some (.cells (Go.Sort.putCells enc 0 d cur) e fz):=by
 have hb:=block_lt h
 unfold sortWorld Go.Sort.grow Go.Sort.putRow Go.Sort.mapBlock Go.Sort.ahead
 dsimp only
 rw[Array.getElem?_append_left (by simpa using hb),Array.getElem?_modify]
 simp [h,Go.Sort.onCells]
theorem sorted1_off {enc:α→Value}{m b:Nat}{w:World}{d:Array α}{os:Array Obj}:Off (fun k=>k = b) w (sortWorld enc w b 0 m d os):=by
 refine ⟨rfl,rfl,rfl,?_,fun i hi hx=>?_⟩
 ·unfold sortWorld Go.Sort.grow Go.Sort.putRow Go.Sort.mapBlock Go.Sort.ahead
  simp
 ·unfold sortWorld Go.Sort.grow Go.Sort.putRow Go.Sort.mapBlock Go.Sort.ahead
  dsimp only
  rw[Array.getElem?_append_left (by simpa using hi),Array.getElem?_modify,if_neg (fun h=>hx h.symm)]
theorem row1_holds {enc:α→Value}{base b n c:Nat}{e:TypeId}{w:World}{F:Nat→α}(h:Row w base e 1 (.slice (some ⟨b,0,none⟩) n c) n (fun i=>[enc (F i)])):Go.Sort.Holds enc w b 0 (ents F n).toArray:=by
 intro t ht
 have ht':t < n:=by simpa [ents] using ht
 rw[ents_arr ht']
 have hc:=h.cell (fun i=>rfl) ht' (j:=0) (by decide)
 rw[Nat.mul_one,Nat.add_zero] at hc
 rw[Nat.zero_add]
 exact ⟨hc,h.free t⟩
theorem sorted1_row {enc:α→Value}{base b n c m:Nat}{e:TypeId}{w:World}{F:Nat→α}{d:Array α}{os:Array Obj}(h:Row w base e 1 (.slice (some ⟨b,0,none⟩) n c) n (fun i=>[enc (F i)])) (hd:d.size = n) :
  Row (sortWorld enc w b 0 m d os) base e 1 (.slice (some ⟨b,0,none⟩) n c) n (fun i=>[enc d[i]!]):=by
 refine ⟨flat_len (f:=fun i=>[enc d[i]!]) (s:=1) (fun i=>rfl) n,?_⟩
 rcases h.2 with h1 | ⟨g',cap',cur,he,hb,hg,hn,hc,hsz,ht⟩
 ·cases h1.1
 ·cases he
  refine .inr ⟨b,c,_,rfl,hb,sorted1_block hg,hn,hc,?_,?_⟩
  ·unfold Go.Sort.putCells;simpa using hsz
  ·have hle:n * 1≤c * 1:=Nat.mul_le_mul_right 1 hn
   apply List.ext_getElem?
   intro t
   by_cases htn:t < n
   ·rw[List.getElem?_take,if_pos (by omega)]
    have hf:=flat_get (f:=fun i=>[enc d[i]!]) (s:=1) (fun i=>rfl) (show 0 < 1 by decide) htn
    rw[Nat.mul_one,Nat.add_zero] at hf
    rw[hf,Array.getElem?_toList]
    unfold Go.Sort.putCells
    rw[Array.getElem?_mapIdx,Array.getElem?_eq_getElem (by omega)]
    simp only[Option.map_some]
    rw[if_pos ⟨Nat.zero_le _,by omega⟩,Nat.sub_zero]
    rfl
   ·rw[List.getElem?_eq_none (by simp;omega),List.getElem?_eq_none (by rw[flat_len (f:=fun i=>[enc d[i]!]) (s:=1) (fun i=>rfl)];omega)]
theorem sort_row1 (L:SlLaysF.n6 P ρ) (enc:α→Value) (h1:OneCell enc) (cf:α→α→Int) (hO:Go.Sort.SWO (ltOf cf)) (g:Nat) (cb:Array Value)
  (eg:∀ args w,(callFunc g args).run P w = .ok (.enter g args) w) {base b n c:Nat} {e:TypeId} {F:Nat→α} {w:World}
  (hc:∀ w2,Off (fun k=>k = b) w w2→∀ x y,Calls P g (#[enc x,enc y] ++ cb) w2 fun e w'=>e = .returned (.int .i64 (cf x y))∧Grew w2 w')
  (hR:Row w base e 1 (.slice (some ⟨b,0,none⟩) n c) n (fun i=>[enc (F i)])) (hsz:n < 4611686018427387904) :
  Calls P (ρ.f 6) #[.slice (some ⟨b,0,none⟩) n c,.func (.func g) #[] cb] w fun e' w'=>e' = .returned (.tuple #[])∧∃ F':Nat→α,(ents F' n).Perm (ents F n)∧(∀ i j,i < j→j < n→ltOf cf (F' j) (F' i) = false) ∧
   Row w' base e 1 (.slice (some ⟨b,0,none⟩) n c) n (fun i=>[enc (F' i)])∧Off (fun k=>k = b) w w':=by
 have hb:b < w.heap.size:=by
  rcases Row.shape hR with ⟨h,_⟩ | ⟨g',cap',he,_,hlt,_⟩
  ·cases h
  ·cases he;exact hlt
 have hds:((ents F n).toArray).size = n:=by simp [ents]
 have hcon:=Any.slices_SortFunc L enc h1 cf hO g cb b 0 c (ents F n).toArray w eg (fun m os dk _ x y=>(hc _ sorted1_off x y).mono fun _ _ ⟨he,hg⟩=>⟨he,hg.form⟩) (row1_holds hR) hb (by rw[hds];exact hsz)
 rw[hds] at hcon
 refine hcon.mono ?_
 rintro e' w' ⟨rfl,d',m,os,hp,hs,rfl⟩
 have hd':d'.size = n:=hp.1.trans hds
 refine ⟨rfl,fun i=>d'[i]!,?_,fun i j hij hj=>hs i j (Nat.zero_le _) hij hj,sorted1_row hR hd',sorted1_off⟩
 have e1:ents (fun i=>d'[i]!) n = d'.toList:=by
  apply List.ext_getElem?
  intro i
  by_cases hi:i < n
  ·rw[ents_get hi,Array.getElem?_toList,Array.getElem?_eq_getElem (by omega),getElem!_pos _ i (by omega)]
  ·rw[List.getElem?_eq_none (by simp [ents];omega),List.getElem?_eq_none (by simp;omega)]
 have hp2:=hp.2.2
 rw[e1]
 have x1:(d'.extract 0 n) = d':=by rw[←hd'];simp
 have x2:∀ A:Array α,A.size = n→A.extract 0 n = A:=fun A hA=>by rw[←hA];simp
 have x2:=x2 _ hds
 rw[x1,x2] at hp2
 simpa using hp2
end
end Go.Proofs.YtdpoppilnokniaaGreatDoor
namespace Go.Proofs.YtdpoppilnokniaaGreatDoor
set_option linter.unusedVariables false
open Go.RowKit
section
variable {P:Program} {ops:Array Oper}
def mPlan (w0:World) (c:Nat) (o:Obj) (i:Nat) (v:Value):PlanO Bool:={ cPlan w0 c o i with mval:=fun _ _=>v }
variable {w0:World} {c:Nat} {o':Obj} {k:Nat} {v:Value}
theorem mPlan_ok:(mPlan w0 c o' k v).Ok :=
 ⟨(cPlan_ok (w0:=w0) (c:=c) (o':=o') (k:=k)).sub,(cPlan_ok (w0:=w0) (c:=c) (o':=o') (k:=k)).alloc,(cPlan_ok (w0:=w0) (c:=c) (o':=o') (k:=k)).anti,(cPlan_ok (w0:=w0) (c:=c) (o':=o') (k:=k)).size,(cPlan_ok (w0:=w0) (c:=c) (o':=o') (k:=k)).alone,(cPlan_ok (w0:=w0) (c:=c) (o':=o') (k:=k)).lone,(cPlan_ok (w0:=w0) (c:=c) (o':=o') (k:=k)).set,(cPlan_ok (w0:=w0) (c:=c) (o':=o') (k:=k)).lt⟩
theorem mPlan_start:(mPlan w0 c o' k v).K false w0.drew:=cPlan_start (k:=k)
variable {a:Act} {o:Oper} {r:List (Nat×Oper)} {Bs:List (Nat×Nat×Obj)} {Fin:Act→Bool→List (Nat×Nat×Obj)→Prop}
theorem wpChainO_mentry (obj:Obj) (hb:w0.heap[c]? = some obj) (hk:(mPlan w0 c o' k v).kind k = 2) (hw:Region.wanted o (yielded ops a.tmps) = true)
  (hs:∀ w:World,w.heap[c]? = some obj→(execOp a.eval o).run P w = .ok (.value v) (setAt w c o'))
  (h:wpChainO P ops (mPlan w0 c o' k v) Fin r (a.put o.dst v) true Bs):wpChainO P ops (mPlan w0 c o' k v) Fin ((k,o) :: r) a false Bs:=by
 have hc:=block_lt hb
 refine wpChainO_main hk hw (fun w hkw hU=>?_) (fun s' hs'=>?_)
 ·have hkw':Below w0.heap.size w0 w:=hkw
  have hK:(mPlan w0 c o' k v).K true (setAt w c o'):=below_at hc hkw'
  have hKept:KeptO (mPlan w0 c o' k v) false true w (setAt w c o'):=⟨by simp [setAt],fun _ hb=>hb.elim,fun b hb0 hlt _=>by
   show (w.heap.setIfInBounds c o')[b]? = _
   have:w0.heap.size≤b:=hb0
   rw[Array.getElem?_setIfInBounds_ne (by omega)]⟩
  rw[hs w ((hkw'.block c hc).trans hb)]
  exact ⟨true,⟨rfl,rfl⟩,.inr rfl,hK,hKept⟩
 ·obtain ⟨_,rfl⟩:=hs'
  exact h
end
end Go.Proofs.YtdpoppilnokniaaGreatDoor
