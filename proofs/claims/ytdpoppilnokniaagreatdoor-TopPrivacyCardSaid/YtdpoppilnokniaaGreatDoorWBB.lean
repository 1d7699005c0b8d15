/- Theorems of this seat. -/
import Derived.Test.YtdpoppilnokniaaGreatDoorWBA
import Derived.Deep.Slices
import Derived.Deep.Fields
import Derived.ChangeSame
import Derived.ProofKit
import Derived.Laws.OwnMore
import Derived.OwnWalk
import Derived.ArgAppend
import Derived.Laws.AppendOwnNone
import Derived.Laws.CopyRow
import Derived.ChangeSlices
namespace Go.Proofs.YtdpoppilnokniaaGreatDoor
open Go.RowKit Go.ChangeShapes Go.WideShapes Go.Deep
set_option linter.unusedVariables false
section
variable {H:Type} {enc:TypeId×Value→H} {P:Program} {w:World} {base:Nat} {spare:Nat→Bool} {held:Bool}
theorem open_slice_fields {t e:TypeId}{fs:Array Field}{fuel:Nat}{cs:List Value}{x:DataW H×List MemPlace}(ht:P.underlying t = some (.slice e)) (he:P.underlying e = some (.struct fs))
  (hone:oneCellFields P fs = true) (hC:P.cellsOf e = fs.size) (h:DataW.trod enc P w base spare held fuel t cs = some x) :
  (cs = [.slice none 0 0]∧x = (.nil,[])) ∨
  ∃ (a:Addr) (len cap m:Nat) (D:Nat→DataW H) (Pl:Nat→List MemPlace),cs = [.slice (some a) len cap]∧base≤a.block∧len≤cap∧cap≤maxLen∧m = (if spare a.block then cap else len) ∧
   x = (.slice ((List.range len).map D) ((List.range (m - len)).map fun j=>D (len+j)),MemPlace.row a (m * fs.size) ++ (List.range m).flatMap Pl) ∧
   ∀ i,i < m→∃ (ys:List (DataW H×List MemPlace)) (n:Nat),D i = .agg (ys.map (·.1))∧Pl i = ys.flatMap (·.2)∧ys.length = fs.size ∧
    ∀ (j:Nat) (f:Field),fs[j]? = some f→∃ (v:Value) (y:DataW H×List MemPlace),w.cell? (a.add (i * fs.size+j)) = some v∧ys[j]? = some y∧DataW.trod enc P w base spare held n f.type [v] = some y:=by
 rcases open_slice ht h with h0 | ⟨a,len,cap,m,n,D,Pl,hcs,hb,hl,hm,hmm,hx,hi⟩
 ·exact .inl h0
 ·refine .inr ⟨a,len,cap,m,D,Pl,hcs,hb,hl,hm,hmm,by rw[hC] at hx;exact hx,fun i him=>?_⟩
  obtain ⟨cs',hc,ht'⟩:=hi i him
  rw[hC] at hc
  obtain ⟨ys,n',hn',hy,hlen,hyl,hf⟩:=DataW.trod_struct he ht'
  obtain ⟨_,hcl,hat⟩:=World.cells?_some hc
  simp only[Prod.mk.injEq] at hy
  refine ⟨ys,n',hy.1,hy.2,hyl,fun j f hj=>?_⟩
  obtain ⟨ho,hk⟩:=hone_of hone j f hj
  have hjl:j < fs.size:=(Array.getElem?_eq_some_iff.1 hj).1
  have hcell:=hat j hjl
  have hv:cs'[j]? = some (cs'[j]'(by omega)):=List.getElem?_eq_getElem (by omega)
  have h1:=hf j f hj
  rw[ho,hk] at h1
  have hone':(cs'.drop j).take 1 = [cs'[j]'(by omega)]:=by
   rw[List.drop_eq_getElem_cons (by omega)]
   rfl
  rw[hone'] at h1
  have hys:ys[j]? = some (ys[j]'(by omega)):=List.getElem?_eq_getElem (by omega)
  refine ⟨_,_,?_,hys,h1.trans hys⟩
  rw[←Go.Deep.add_add,hcell,hv]
end
theorem addr_of_cell {w:World}{a:Addr}{v:Value}(h:w.cell? a = some v):a = ⟨a.block,a.off,none⟩:=by
 obtain ⟨b,off,spot⟩:=a
 have:=World.cell?_spot h
 simp at this
 subst this
 rfl
theorem add_flat (b off n:Nat):(⟨b,off,none⟩:Addr).add n = ⟨b,off+n,none⟩:=by
 unfold Addr.add
 split
 ·subst n;rfl
 ·rfl
def flat (f:Nat→List Value):Nat→List Value
 | 0=>[]
 | n+1=>flat f n ++ f n
theorem flat_succ (f:Nat→List Value) (n:Nat):flat f (n+1) = flat f n ++ f n:=rfl
theorem flat_len {f:Nat→List Value}{s:Nat}(hs:∀ i,(f i).length = s):∀ n,(flat f n).length = n * s
 | 0=>by simp [flat]
 | n+1=>by rw[flat,List.length_append,flat_len hs n,hs,Nat.succ_mul]
theorem flat_get {f:Nat→List Value}{s:Nat}(hs:∀ i,(f i).length = s) {j:Nat}(hj:j < s):∀ {n i:Nat},i < n→(flat f n)[i * s+j]? = (f i)[j]?
 | 0,i,hi=>absurd hi (by omega)
 | n+1,i,hi=>by
  rw[flat]
  by_cases h:i < n
  ·have h1:i * s+j < (flat f n).length:=by
    rw[flat_len hs]
    have:(i+1) * s≤n * s:=Nat.mul_le_mul_right s (by omega)
    rw[Nat.succ_mul] at this
    omega
   rw[List.getElem?_append_left h1]
   exact flat_get hs hj h
  ·obtain rfl:i = n:=by omega
   rw[List.getElem?_append_right (by rw[flat_len hs];omega),flat_len hs]
   congr 1
   omega
end Go.Proofs.YtdpoppilnokniaaGreatDoor
namespace Go.Proofs.YtdpoppilnokniaaGreatDoor
section heap
variable {E:Type} {bef:E→E→Bool}
structure Ord (bef:E→E→Bool):Prop where
 asym:∀ {a b},bef a b = true→bef b a = false
 trans:∀ {a b c},bef b a = false→bef c b = false→bef c a = false
def upd (f:Nat→E) (i:Nat) (x:E):Nat→E:=fun j=>if j = i then x else f j
def swp (f:Nat→E) (i k:Nat):Nat→E:=upd (upd f i (f k)) k (f i)
theorem upd_same (f:Nat→E) (i:Nat) (x:E):upd f i x i = x:=by simp [upd]
theorem upd_ne {f:Nat→E}{i j:Nat}{x:E}(h:j ≠ i):upd f i x j = f j:=by simp [upd,h]
def Heap (bef:E→E→Bool) (f:Nat→E) (n:Nat):Prop:=∀ i,0 < i→i < n→bef (f i) (f ((i - 1) / 2)) = false
def UpInv (bef:E→E→Bool) (f:Nat→E) (n i:Nat):Prop :=
 (∀ j,0 < j→j < n→j ≠ i→bef (f j) (f ((j - 1) / 2)) = false)∧(0 < i→∀ j,0 < j→j < n→(j - 1) / 2 = i→bef (f j) (f ((i - 1) / 2)) = false)
def DownInv (bef:E→E→Bool) (f:Nat→E) (n i:Nat):Prop :=
 (∀ j,0 < j→j < n→(j - 1) / 2 ≠ i→bef (f j) (f ((j - 1) / 2)) = false)∧(0 < i→∀ j,0 < j→j < n→(j - 1) / 2 = i→bef (f j) (f ((i - 1) / 2)) = false)
def ents (f:Nat→E) (n:Nat):List E:=(List.range n).map f
theorem ents_len (f:Nat→E) (n:Nat):(ents f n).length = n:=by simp [ents]
theorem ents_get {f:Nat→E}{n i:Nat}(h:i < n):(ents f n)[i]? = some (f i):=by simp [ents,h]
theorem ents_succ (f:Nat→E) (n:Nat):ents f (n+1) = ents f n ++ [f n]:=by simp [ents,List.range_succ]
theorem ents_congr {f g:Nat→E}{n:Nat}(h:∀ i,i < n→f i = g i):ents f n = ents g n:=by
 unfold ents;exact List.map_congr_left fun i hi=>h i (List.mem_range.1 hi)
theorem ents_push (f:Nat→E) (n:Nat) (x:E):ents (upd f n x) (n+1) = ents f n ++ [x]:=by
 rw[ents_succ,upd_same,ents_congr (g:=f) fun i hi=>upd_ne (by omega)]
theorem mem_ents {f:Nat→E}{n:Nat}{x:E}:x∈ents f n↔∃ i,i < n∧f i = x:=by simp [ents]
end heap
section queue
variable {T:Type} {lt:T→T→Bool}
def befE (lt:T→T→Bool) (x y:T×Int):Bool:=lt x.1 y.1 || (!lt y.1 x.1 && decide (x.2 < y.2))
def minTo (lt:T→T→Bool) (g:Nat→T):Nat→Nat
 | 0=>0
 | k+1=>if lt (g (k+1)) (g (minTo lt g k)) then k+1 else minTo lt g k
variable [Inhabited T]
def minIx (lt:T→T→Bool) (l:List T):Nat:=minTo lt (fun i=>l.getD i default) (l.length - 1)
def Asc (A:List (T×Int)):Prop:=A.Pairwise (fun x y=>x.2 < y.2)
end queue
end Go.Proofs.YtdpoppilnokniaaGreatDoor
namespace Go.Proofs.YtdpoppilnokniaaGreatDoor
open Go.RowKit
structure Off (X:Nat→Prop) (w w':World):Prop where
 os:w'.os = w.os
 tape:w'.tape = w.tape
 output:w'.output = w.output
 size:w.heap.size≤w'.heap.size
 block:∀ k,k < w.heap.size→¬ X k→w'.heap[k]? = w.heap[k]?
theorem Off.refl (X:Nat→Prop) (w:World):Off X w w:=⟨rfl,rfl,rfl,Nat.le_refl _,fun _ _ _=>rfl⟩
theorem Off.trans {X Y:Nat→Prop}{a b c:World}(h:Off X a b) (k:Off Y b c) (hY:∀ i,i < a.heap.size→Y i→X i):Off X a c :=
 ⟨k.os.trans h.os,k.tape.trans h.tape,k.output.trans h.output,Nat.le_trans h.size k.size,fun i hi hx=>(k.block i (Nat.lt_of_lt_of_le hi h.size) (fun hy=>hx (hY i hi hy))).trans (h.block i hi hx)⟩
theorem Off.same {X:Nat→Prop}{a b c:World}(h:Off X a b) (k:Off X b c):Off X a c:=h.trans k (fun _ _ h=>h)
theorem Off.mono {X Y:Nat→Prop}{a b:World}(h:Off X a b) (hY:∀ i,i < a.heap.size→X i→Y i):Off Y a b:=⟨h.os,h.tape,h.output,h.size,fun i hi hy=>h.block i hi (fun hx=>hy (hY i hi hx))⟩
theorem Off.of_below {X:Nat→Prop}{a b:World}(h:Below a.heap.size a b):Off X a b:=⟨h.os,h.tape,h.output,h.size,fun i hi _=>h.block i hi⟩
theorem Off.of_grown {a b:World}{row:Option Nat}(h:a.grownBy b row):Off (fun k=>some k = row) a b:=⟨h.os,h.tape,h.output,h.size,fun i hi hx=>h.block i hi hx⟩
theorem Off.toBelow {X:Nat→Prop}{a b:World}{B:Nat}(h:Off X a b) (hB:B≤a.heap.size) (hX:∀ k,k < B→¬ X k):Below B a b:=⟨h.os,h.tape,h.output,h.size,fun k hk=>h.block k (by omega) (hX k hk)⟩
theorem Off.alloc {X:Nat→Prop}{a b:World}(h:Off X a b) (o:Obj):Off X a (b.alloc o):=h.trans (Y:=fun _=>False) (Off.of_below ((Below.refl _ _).alloc (Nat.le_refl _) o)) (fun _ _ h=>h.elim)
theorem Off.drew {X:Nat→Prop}{a b:World}(h:Off X a b):Off X a b.drew:=⟨h.os,h.tape,h.output,h.size,h.block⟩
theorem Off.setCell {X:Nat→Prop}{a b:World}(h:Off X a b) {p:Addr}(hp:p.block < a.heap.size→X p.block) (u:Value):Off X a (b.setCell p u) :=
 ⟨h.os,h.tape,h.output,by simp [World.setCell];exact h.size,fun k hk hx=>by
  by_cases e:k = p.block
  ·subst e;exact absurd (hp hk) hx
  ·rw[Below.heap_setCell _ _ _ _ e];exact h.block k hk hx⟩
theorem Off.cell {X:Nat→Prop}{a b:World}(h:Off X a b) {p:Addr}{v:Value}(hv:a.cell? p = some v) (hx:¬ X p.block):b.cell? p = some v :=
 (World.cell?_of_block (w:=a) (h.block p.block (cell_lt hv) hx)).trans hv
section rows
variable {s:Nat} {f:Nat→List Value}
theorem flat_congr {f g:Nat→List Value}:∀ {n:Nat},(∀ i,i < n→f i = g i)→flat f n = flat g n
 | 0,_=>rfl
 | n+1,h=>by rw[flat_succ,flat_succ,flat_congr (fun i hi=>h i (by omega)),h n (by omega)]
theorem flat_take (hs:∀ i,(f i).length = s):∀ {n m:Nat},m≤n→(flat f n).take (m * s) = flat f m
 | 0,m,h=>by obtain rfl:m = 0:=by omega
             simp [flat]
 | n+1,m,h=>by
  by_cases hm:m = n+1
  ·subst hm;rw[List.take_of_length_le (by rw[flat_len hs];omega)]
  ·rw[flat_succ,List.take_append_of_le_length (by rw[flat_len hs];exact Nat.mul_le_mul_right s (by omega)),flat_take hs (by omega)]
theorem flat_set (hs:∀ i,(f i).length = s) {i j:Nat}(hj:j < s) (u:Value):∀ {n:Nat},i < n→(flat f n).set (i * s+j) u = flat (upd f i ((f i).set j u)) n
 | 0,h=>absurd h (by omega)
 | n+1,h=>by
  rw[flat_succ,flat_succ]
  by_cases hi:i = n
  ·subst hi
   rw[upd_same,flat_congr (f:=upd f i ((f i).set j u)) (g:=f) (fun k hk=>upd_ne (by omega))]
   rw[List.set_append_right _ _ (by rw[flat_len hs];omega),flat_len hs]
   congr 2;omega
  ·have:i * s+j < (flat f n).length:=by
    rw[flat_len hs]
    have:(i+1) * s≤n * s:=Nat.mul_le_mul_right s (by omega)
    rw[Nat.succ_mul] at this;omega
   rw[List.set_append_left _ _ this,flat_set hs hj u (by omega),upd_ne (by omega)]
theorem flat_push (n:Nat) (x:List Value):flat (upd f n x) (n+1) = flat f n ++ x:=by
 rw[flat_succ,upd_same,flat_congr (fun i hi=>upd_ne (by omega))]
variable {w:World} {base:Nat} {e:TypeId} {n cap g:Nat} {v:Value}
def Row (w:World) (base:Nat) (e:TypeId) (s:Nat) (v:Value) (n:Nat) (f:Nat→List Value):Prop:=w.ownsRow base e s v n (flat f n)
theorem Row.cell (h:Row w base e s (.slice (some ⟨g,0,none⟩) n cap) n f) (hs:∀ i,(f i).length = s) {i j:Nat}(hi:i < n) (hj:j < s):w.cell? ⟨g,i * s+j,none⟩ = (f i)[j]?:=by
 have:i * s+j < n * s:=by
  have:(i+1) * s≤n * s:=Nat.mul_le_mul_right s (by omega)
  rw[Nat.succ_mul] at this;omega
 rw[World.ownsRow.cellAt h _ this,flat_get hs hj hi]
theorem Row.free (h:Row w base e s (.slice (some ⟨g,0,none⟩) n cap) n f) (j:Nat):w.frozen? ⟨g,j,none⟩ = false:=World.ownsRow.frozenAt h j
theorem Row.congr {f':Nat→List Value}(h:Row w base e s v n f) (hf:∀ i,i < n→f i = f' i):Row w base e s v n f':=by unfold Row at *;rw[←flat_congr hf];exact h
theorem Row.store (h:Row w base e s (.slice (some ⟨g,0,none⟩) n cap) n f) (hs:∀ i,(f i).length = s) {i j:Nat}(hi:i < n) (hj:j < s) (u:Value) :
  Row (w.setCell ⟨g,i * s+j,none⟩ u) base e s (.slice (some ⟨g,0,none⟩) n cap) n (upd f i ((f i).set j u)):=by
 unfold Row
 rw[←flat_set hs hj u hi]
 exact (World.ownsRow.stored h _ _).1
theorem Row.off {X:Nat→Prop}{w':World}(h:Row w base e s v n f) (ho:Off X w w') (hX:∀ g,v.ownBlock = some g→¬ X g):Row w' base e s v n f:=by
 refine ⟨h.1,?_⟩
 rcases h.2 with hn | ⟨g,cap,cur,rfl,hb,hgg,rest⟩
 ·exact .inl hn
 ·exact .inr ⟨g,cap,cur,rfl,hb,by rw[ho.block g (Array.getElem?_eq_some_iff.1 hgg).1 (hX g rfl)];exact hgg,rest⟩
theorem Row.shape (h:Row w base e s v n f):(v = .slice none 0 0∧n = 0)∨∃ g cap,v = .slice (some ⟨g,0,none⟩) n cap∧base≤g∧g < w.heap.size∧n≤cap∧cap≤maxLen:=by
 rcases h.2 with h1 | ⟨g,cap,cur,rfl,hb,hg,hn,hm,_⟩
 ·exact .inl h1
 ·exact .inr ⟨g,cap,rfl,hb,(Array.getElem?_eq_some_iff.1 hg).1,hn,hm⟩
def putCells (w:World) (g o:Nat):List Value→World
 | []=>w
 | c :: r=>putCells (w.setCell ⟨g,o,none⟩ c) g (o+1) r
theorem Row.putAux (hs:∀ i,(f i).length = s) {i:Nat}(hi:i < n):∀ (cs pre tl:List Value) (w:World),tl.length = cs.length→pre.length+cs.length = s →
  Row w base e s (.slice (some ⟨g,0,none⟩) n cap) n (upd f i (pre ++ tl))→Row (putCells w g (i * s+pre.length) cs) base e s (.slice (some ⟨g,0,none⟩) n cap) n (upd f i (pre ++ cs))
 | [],pre,tl,w,ht,_,h=>by
  obtain rfl:tl = []:=List.length_eq_zero_iff.1 ht
  exact h
 | c :: cs,pre,tl,w,ht,hp,h=>by
  obtain ⟨t,tl',rfl⟩:∃ t tl',tl = t :: tl':=by
   cases tl with
   | nil=>simp at ht
   | cons t tl'=>exact ⟨t,tl',rfl⟩
  simp only[List.length_cons] at ht hp
  have hs':∀ j,(upd f i (pre ++ t :: tl') j).length = s:=fun j=>by
   by_cases hj:j = i
   ·subst hj;rw[upd_same];simp;omega
   ·rw[upd_ne hj];exact hs j
  have h1:=Row.store h hs' hi (show pre.length < s by omega) c
  have h2:Row (w.setCell ⟨g,i * s+pre.length,none⟩ c) base e s (.slice (some ⟨g,0,none⟩) n cap) n (upd f i ((pre ++ [c]) ++ tl')):=by
   refine Row.congr h1 fun j _=>?_
   by_cases hj:j = i
   ·subst hj;rw[upd_same,upd_same,upd_same];simp
   ·rw[upd_ne hj,upd_ne hj,upd_ne hj]
  have h3:=Row.putAux hs hi cs (pre ++ [c]) tl' _ (by omega) (by simp;omega) h2
  simp only[List.length_append,List.length_cons,List.length_nil,List.append_assoc,List.cons_append,List.nil_append] at h3
  exact h3
theorem Row.put (h:Row w base e s (.slice (some ⟨g,0,none⟩) n cap) n f) (hs:∀ i,(f i).length = s) {i:Nat}(hi:i < n) (cs:List Value) (hc:cs.length = s) :
  Row (putCells w g (i * s) cs) base e s (.slice (some ⟨g,0,none⟩) n cap) n (upd f i cs):=by
 have:=Row.putAux hs hi cs [] (f i) w (by rw[hs,hc]) (by simpa using hc) (Row.congr h fun j _=>by
  by_cases hj:j = i
  ·subst hj;rw[upd_same];rfl
  ·rw[upd_ne hj])
 simpa using this
theorem off_putCells {X:Nat→Prop}{a:World}(hX:X g):∀ (cs:List Value) (o:Nat) (w:World),Off X a w→Off X a (putCells w g o cs)
 | [],_,_,h=>h
 | c :: cs,o,_,h=>off_putCells hX cs (o+1) _ (h.setCell (fun _=>hX) c)
end rows
end Go.Proofs.YtdpoppilnokniaaGreatDoor
namespace Go.Proofs.YtdpoppilnokniaaGreatDoor
open Go.RowKit
section
variable {P:Program} {ops:Array Oper} {rest:List Oper} {o:Oper} {a:Act} {Q:Exit→Act→World→Prop}
theorem Row.of_own {w':World}{base e s n:Nat}{f:Nat→List Value}{v:Value}{cs:List Value}(h:w'.ownsRow base e s v (n+1) (flat f n ++ cs)):Row w' base e s v (n+1) (upd f n cs):=by
 unfold Row;rw[flat_push];exact h
theorem Row.base_mono {w:World}{B base e s n:Nat}{v:Value}{f:Nat→List Value}(h:Row w B e s v n f) (hb:base≤B):Row w base e s v n f:=by
 refine ⟨h.1,?_⟩
 rcases h.2 with h1 | ⟨g,cap,cur,h1,h2,h3⟩
 ·exact .inl h1
 ·exact .inr ⟨g,cap,cur,h1,by omega,h3⟩
theorem wpList_append_row (w:World) (hgd:o.guard = none) (x1 x2:Operand) (t:TypeId) (ho:o.op = .call { callee:=.builtin .append,args:=#[x1,x2],argTypes:=#[t,t] })
  (base:Nat) (e:TypeId) (i:TypeInfo) (z:Value) (size bytes:Nat) (ht:P.underlying t = some (.slice e)) (hi:P.info? e = some i) (hz:i.zero = some z)
  (hsize:i.size = size) (hby:i.bytes = bytes) (hzs:z.cells.size = size) (hsz:0 < size)
  (v:Value) (n:Nat) (f:Nat→List Value) (hs:a.eval x1 = v) (hown:Row w base e size v n f) (hf:∀ i,(f i).length = size)
  (b1:Nat) (c:Nat) (news:List Value) (hx:a.eval x2 = .slice (some ⟨b1,0,none⟩) 1 c) (hl:news.length = size) (ob:TypeId) (fz:Nat×Nat) (hnews:w.heap[b1]? = some (.cells news.toArray ob fz)) (h1:∀ u∈news,u.oneCell' = true)
  (hbytes:(n+1) * bytes≤140737488355328) (h63:n+1≤maxLen) (hbase:base≤w.heap.size)
  (h:∀ g cap w',n+1≤cap→cap≤9223372036854775807→base≤g→g < w'.heap.size→(v.ownBlock = some g∨w.heap.size≤g)→Row w' base e size (.slice (some ⟨g,0,none⟩) (n+1) cap) (n+1) (upd f n news) →
   w.grownBy w' v.ownBlock→wpList P ops Q rest (a.put o.dst (.slice (some ⟨g,0,none⟩) (n+1) cap)) w'):wpList P ops Q (o :: rest) a w:=by
 have hcells:∀ (j:Nat) (u:Value),news[j]? = some u→w.cell? ((⟨b1,0,none⟩:Addr).add j) = some u:=fun j u hu=>by
  rw[add_flat,Nat.zero_add]
  simp only[World.cell?,hnews]
  simpa using hu
 have fin:∀ (v':Value) (w':World),w'.ownsRow w.heap.size e size v' (n+1) (flat f n ++ news)→w.grownBy w' none→wpList P ops Q rest (a.put o.dst v') w':=fun v' w' h2 h3=>by
  have hr:=Row.of_own h2
  rcases hr.shape with ⟨_,h0⟩ | ⟨g,cap,rfl,hg,hl,hn,hm⟩
  ·omega
  ·refine h g cap w' hn (by unfold maxLen at hm;omega) (by omega) hl (.inr hg) (hr.base_mono hbase) ⟨h3.os,h3.tape,h3.output,h3.size,fun k hk _=>h3.block k hk (by simp)⟩
 rcases hown.shape with ⟨rfl,rfl⟩ | ⟨g,cap,rfl,hg,hgl,hn,hm⟩
 ·refine wpList_append_grows w hgd x1 x2 t ho e i z size bytes ht hi hz hsize hby hzs hsz none 0 0 [] hs (fun _=>⟨rfl,rfl⟩) (by simp) (fun b hb=>by cases hb) ⟨b1,0,none⟩ 1 c news hx (by omega) hcells h1 (by omega) h63 hbytes ?_
  intro v' w' h2 h3
  exact fin v' w' (by simpa [flat] using h2) h3
 ·by_cases hc:n+1≤cap
  ·refine wpList_append_fits w hgd x1 x2 t ho base e i size ht hi hsize g n cap _ hs hown ⟨b1,0,none⟩ 1 c news hx (by omega) hcells h1 hc ?_
   intro w' h2 h3
   refine h g cap w' hc (by unfold maxLen at hm;omega) hg (Nat.lt_of_lt_of_le hgl h3.size) (.inl rfl) (Row.of_own h2) h3
  ·refine wpList_append_grows w hgd x1 x2 t ho e i z size bytes ht hi hz hsize hby hzs hsz (some ⟨g,0,none⟩) n cap (flat f n) hs (fun h=>by cases h) (flat_len hf n) (fun b hb j u hu=>?_) ⟨b1,0,none⟩ 1 c news hx (by omega) hcells h1 (by omega) h63 hbytes fin
   cases hb
   exact World.ownsRow.cells hown rfl j u hu
end
end Go.Proofs.YtdpoppilnokniaaGreatDoor
namespace Go.Proofs.YtdpoppilnokniaaGreatDoor
open Go.RowKit
def SlE (w:World) (s:Nat) (ao:Option Addr) (m:Nat) (f:Nat→List Value):Prop :=
 ∀ i,i < m→∃ g o,ao = some ⟨g,o,none⟩∧∀ j,j < s→w.cell? ⟨g,o+i * s+j,none⟩ = (f i)[j]?
theorem SlE.off {X:Nat→Prop}{w w':World}{s:Nat}{ao:Option Addr}{m:Nat}{f:Nat→List Value}(hf:∀ i,(f i).length = s) (h:SlE w s ao m f) (ho:Off X w w') (hX:∀ a,ao = some a→¬ X a.block):SlE w' s ao m f:=fun i hi=>by
 obtain ⟨g,o,e,hc⟩:=h i hi
 refine ⟨g,o,e,fun j hj=>?_⟩
 have hv:(f i)[j]? = some ((f i)[j]'(by rw[hf];exact hj)):=List.getElem?_eq_getElem _
 have:=hc j hj
 rw[hv] at this ⊢
 exact ho.cell this (hX ⟨g,o,none⟩ e)
theorem SlE.below {w w':World}{s:Nat}{ao:Option Addr}{m:Nat}{f:Nat→List Value}(hf:∀ i,(f i).length = s) (h:SlE w s ao m f) (hb:Below w.heap.size w w'):SlE w' s ao m f:=h.off hf (X:=fun _=>False) (Off.of_below hb) (fun _ _ h=>h)
theorem SlE.all {w:World}{s:Nat}{ao:Option Addr}{m:Nat}{f:Nat→List Value}(h:SlE w s ao m f) (hm:0 < m):∃ g o,ao = some ⟨g,o,none⟩∧∀ i,i < m→∀ j,j < s→w.cell? ⟨g,o+i * s+j,none⟩ = (f i)[j]?:=by
 obtain ⟨g,o,rfl,_⟩:=h 0 hm
 refine ⟨g,o,rfl,fun i hi=>?_⟩
 obtain ⟨g',o',e,hc⟩:=h i hi
 cases e;exact hc
theorem Row.sl {w:World}{base:Nat}{e:TypeId}{s n:Nat}{v:Value}{f:Nat→List Value}(h:Row w base e s v n f) (hf:∀ i,(f i).length = s):∃ ao cap,v = .slice ao n cap∧n≤cap∧cap≤9223372036854775807∧SlE w s ao n f∧(ao = none→n = 0∧cap = 0):=by
 rcases h.shape with ⟨rfl,rfl⟩ | ⟨g,cap,rfl,hg,hl,hn,hm⟩
 ·exact ⟨none,0,rfl,by omega,by omega,fun i hi=>absurd hi (by omega),fun _=>⟨rfl,rfl⟩⟩
 ·refine ⟨_,cap,rfl,hn,by unfold maxLen at hm;omega,fun i hi=>⟨g,0,rfl,fun j hj=>?_⟩,fun h=>by cases h⟩
  rw[Nat.zero_add];exact Row.cell h hf hi hj
def cat (f:Nat→List Value) (n:Nat) (f2:Nat→List Value):Nat→List Value:=fun i=>if i < n then f i else f2 (i - n)
theorem flat_cat (f:Nat→List Value) (n:Nat) (f2:Nat→List Value):∀ m,flat (cat f n f2) (n+m) = flat f n ++ flat f2 m
 | 0=>by simp only[Nat.add_zero,flat,List.append_nil];exact flat_congr fun i hi=>by simp [cat,hi]
 | m+1=>by rw[←Nat.add_assoc,flat_succ,flat_cat f n f2 m,flat_succ,List.append_assoc];congr 2;unfold cat;rw[if_neg (by omega),Nat.add_sub_cancel_left]
theorem flat_at {f:Nat→List Value}{s:Nat}(hs:∀ i,(f i).length = s) {n j:Nat}{u:Value}(h:(flat f n)[j]? = some u):j / s < n∧j % s < s∧(f (j / s))[j % s]? = some u:=by
 have hj:=(List.getElem?_eq_some_iff.1 h).1
 rw[flat_len hs] at hj
 have hs0:0 < s:=by rcases Nat.eq_zero_or_pos s with h0 | h0;subst h0;simp at hj;exact h0
 have h1:j / s < n:=by rw[Nat.div_lt_iff_lt_mul hs0];exact hj
 have h2:=Nat.mod_lt j hs0
 refine ⟨h1,h2,?_⟩
 rw[←flat_get hs h2 h1,Nat.mul_comm,Nat.div_add_mod];exact h
section
variable {P:Program} {ops:Array Oper} {rest:List Oper} {o:Oper} {a:Act} {Q:Exit→Act→World→Prop}
theorem wpList_append_sl (w:World) (hgd:o.guard = none) (x1 x2:Operand) (t:TypeId) (ho:o.op = .call { callee:=.builtin .append,args:=#[x1,x2],argTypes:=#[t,t] })
  (base:Nat) (e:TypeId) (i:TypeInfo) (z:Value) (size bytes:Nat) (ht:P.underlying t = some (.slice e)) (hi:P.info? e = some i) (hz:i.zero = some z)
  (hsize:i.size = size) (hby:i.bytes = bytes) (hzs:z.cells.size = size) (hsz:0 < size)
  (v:Value) (n:Nat) (f:Nat→List Value) (hs:a.eval x1 = v) (hown:Row w base e size v n f) (hf:∀ i,(f i).length = size)
  (ao:Option Addr) (m c:Nat) (f2:Nat→List Value) (hx:a.eval x2 = .slice ao m c) (hf2:∀ i,(f2 i).length = size) (hnone:ao = none→m = 0∧c = 0) (hsl:SlE w size ao m f2) (h1:∀ i,∀ u∈f2 i,u.oneCell' = true)
  (hbytes:(n+m) * bytes≤140737488355328) (h63:n+m≤maxLen) (hbase:base≤w.heap.size)
  (h:∀ v' w',Row w' base e size v' (n+m) (cat f n f2)→w.grownBy w' v.ownBlock→(∀ g,v'.ownBlock = some g→v.ownBlock = some g∨w.heap.size≤g)→wpList P ops Q rest (a.put o.dst v') w'):wpList P ops Q (o :: rest) a w:=by
 have h1':∀ u∈flat f2 m,u.oneCell' = true:=by
  intro u hu
  obtain ⟨j,hj⟩:=List.getElem?_of_mem hu
  exact h1 _ u (List.mem_of_getElem? (flat_at hf2 hj).2.2)
 have fin:∀ (B:Nat) (v':Value) (w':World),base≤B→w'.ownsRow B e size v' (n+m) (flat f n ++ flat f2 m)→Row w' base e size v' (n+m) (cat f n f2):=fun B v' w' hB h2=>by
  refine Row.base_mono (B:=B) ?_ hB
  unfold Row;rw[flat_cat];exact h2
 by_cases hm0:m = 0
 ·subst hm0
  cases ao with
  | none =>
   obtain ⟨_,rfl⟩:=hnone rfl
   refine wpList_append_own_none (w:=w) hgd x1 x2 t ho base e i size ht hi v n (flat f n) hs hown hx ?_
   refine h v w ?_ (World.grownBy.refl _ _) (fun g hg=>.inl hg)
   rw[Nat.add_zero]
   exact Row.congr hown fun i hi=>by simp [cat,hi]
  | some ad =>
   rcases hown.shape with ⟨rfl,rfl⟩ | ⟨g,cap,rfl,hg,hgl,hn,hmx⟩
   ·refine wpList_append_own w hgd x1 x2 t ho base e i z size bytes ht hi hz hsize hby hzs hsz _ 0 [] hs (World.ownsRow_nil _ _ _ _) ad 0 c [] hx (by simp) (by simp) (by simp) (by omega) (by omega) hbase ?_
    intro v' w' a1 a2 a3
    have:=a3.2 ⟨rfl,rfl⟩
    subst this
    refine h _ w' ?_ a2 (fun g hg=>by simp [Value.ownBlock] at hg)
    exact fin base _ w' (Nat.le_refl _) (by simpa [flat] using a1)
   ·refine wpList_append_fits w hgd x1 x2 t ho base e i size ht hi hsize g n cap _ hs hown ad 0 c [] hx (by simp) (by simp) (by simp) (by omega) ?_
    intro w' a1 a2
    exact h _ w' (fin base _ w' (Nat.le_refl _) (by simpa [flat] using a1)) a2 (fun g hg=>.inl hg)
 ·obtain ⟨g2,o2,rfl,hc2⟩:=hsl.all (by omega)
  have hcells:∀ (j:Nat) (u:Value),(flat f2 m)[j]? = some u→w.cell? ((⟨g2,o2,none⟩:Addr).add j) = some u:=fun j u hu=>by
   obtain ⟨k1,k2,k3⟩:=flat_at hf2 hu
   have:=hc2 (j / size) k1 (j % size) k2
   rw[k3] at this
   rw[add_flat]
   rw[show o2+j / size * size+j % size = o2+j by have:=Nat.div_add_mod j size;rw[Nat.mul_comm] at this;omega] at this
   exact this
  rcases hown.shape with ⟨rfl,rfl⟩ | ⟨g,cap,rfl,hg,hgl,hn,hmx⟩
  ·refine wpList_append_grows w hgd x1 x2 t ho e i z size bytes ht hi hz hsize hby hzs hsz none 0 0 [] hs (fun _=>⟨rfl,rfl⟩) (by simp) (fun b hb=>by cases hb) ⟨g2,o2,none⟩ m c (flat f2 m) hx (flat_len hf2 m) hcells h1' (by omega) h63 hbytes ?_
   intro v' w' a1 a2
   refine h v' w' (fin w.heap.size v' w' hbase (by simpa [flat] using a1)) ⟨a2.os,a2.tape,a2.output,a2.size,fun k hk _=>a2.block k hk (by simp)⟩ (fun g hg=>.inr ?_)
   exact (World.ownsRow.lt a1 g hg).1
  ·by_cases hc:n+m≤cap
   ·refine wpList_append_fits w hgd x1 x2 t ho base e i size ht hi hsize g n cap _ hs hown ⟨g2,o2,none⟩ m c (flat f2 m) hx (flat_len hf2 m) hcells h1' hc ?_
    intro w' a1 a2
    exact h _ w' (fin base _ w' (Nat.le_refl _) a1) a2 (fun g hg=>.inl hg)
   ·refine wpList_append_grows w hgd x1 x2 t ho e i z size bytes ht hi hz hsize hby hzs hsz (some ⟨g,0,none⟩) n cap (flat f n) hs (fun h=>by cases h) (flat_len hf n) (fun b hb j u hu=>?_) ⟨g2,o2,none⟩ m c (flat f2 m) hx (flat_len hf2 m) hcells h1' (by omega) h63 hbytes ?_
    ·cases hb
     exact World.ownsRow.cells hown rfl j u hu
    ·intro v' w' a1 a2
     refine h v' w' (fin w.heap.size v' w' hbase a1) ⟨a2.os,a2.tape,a2.output,a2.size,fun k hk _=>a2.block k hk (by simp)⟩ (fun g hg=>.inr ?_)
     exact (World.ownsRow.lt a1 g hg).1
end
end Go.Proofs.YtdpoppilnokniaaGreatDoor
namespace Go.Proofs.YtdpoppilnokniaaGreatDoor
open Go.RowKit
set_option linter.unusedVariables false
theorem made_flat {z:Array Value}{s:Nat}(hz:z.size = s) (h0:0 < s) (n:Nat):(madeCells z (n * s)).toList = flat (fun _=>z.toList) n:=by
 have hl:∀ i:Nat,((fun _:Nat=>z.toList) i).length = s:=fun _=>by simpa using hz
 apply List.ext_getElem?
 intro t
 by_cases ht:t < n * s
 ·have h1:t / s < n:=by rw[Nat.div_lt_iff_lt_mul h0];exact ht
  have h2:t % s < s:=Nat.mod_lt _ h0
  have e:t = t / s * s+t % s:=by rw[Nat.mul_comm];exact (Nat.div_add_mod t s).symm
  have h3:=flat_get hl h2 h1
  rw[←e] at h3
  rw[h3]
  simp [madeCells,ht,hz,h2]
 ·have h1:(flat (fun _:Nat=>z.toList) n)[t]? = none:=by rw[List.getElem?_eq_none];rw[flat_len hl];omega
  rw[h1,List.getElem?_eq_none]
  simp [size_madeCells];omega
theorem Row.of_block {w:World}{base b:Nat}{e:TypeId}{s n:Nat}{cs:Array Value}{f:Nat→List Value}(h:w.heap[b]? = some (.cells cs e (0,0))) (hb:base≤b) (hf:∀ i,(f i).length = s) (hc:cs.toList = flat f n) (hn:n≤maxLen) :
  Row w base e s (.slice (some ⟨b,0,none⟩) n n) n f:=by
 have hs:cs.size = n * s:=by rw[←Array.length_toList,hc,flat_len hf]
 refine ⟨flat_len hf n,.inr ⟨b,n,cs,rfl,hb,h,Nat.le_refl _,hn,hs,?_⟩⟩
 rw[hc,List.take_of_length_le (by rw[flat_len hf];omega)]
theorem Row.of_made {w:World}{base b:Nat}{e:TypeId}{s n:Nat}{z:Array Value}(hz:z.size = s) (h0:0 < s) (h:w.heap[b]? = some (.cells (madeCells z (n * s)) e (0,0))) (hb:base≤b) (hn:n≤maxLen) :
  Row w base e s (.slice (some ⟨b,0,none⟩) n n) n (fun _=>z.toList) :=
 Row.of_block h hb (fun _=>by simpa using hz) (made_flat hz h0 n) hn
end Go.Proofs.YtdpoppilnokniaaGreatDoor
namespace Go.Proofs.YtdpoppilnokniaaGreatDoor
open Go.RowKit
set_option linter.unusedVariables false
def App (w:World) (base:Nat) (e:TypeId) (s:Nat) (v:Value) (n:Nat) (f:Nat→List Value):Prop :=
 Row w base e s v n f∨∃ ao,v = .slice ao n n∧SlE w s ao n f∧(ao = none→n = 0)
theorem App.below {w w':World}{base e s n:Nat}{v:Value}{f:Nat→List Value}(hf:∀ i,(f i).length = s) (h:App w base e s v n f) (hb:Below w.heap.size w w'):App w' base e s v n f:=by
 rcases h with h | ⟨ao,h1,h2,h3⟩
 ·exact .inl (Row.off (X:=fun _=>False) h (Off.of_below hb) (fun _ _ h=>h))
 ·exact .inr ⟨ao,h1,h2.below hf hb,h3⟩
section
variable {P:Program} {ops:Array Oper} {rest:List Oper} {o:Oper} {a:Act} {Q:Exit→Act→World→Prop}
end
end Go.Proofs.YtdpoppilnokniaaGreatDoor
namespace Go.Proofs.YtdpoppilnokniaaGreatDoor
open Go.RowKit
set_option linter.unusedVariables false
set_option linter.unusedSimpArgs false
theorem zeroCells_mem {z:Array Value}{n:Nat}{v:Value}(hz:∀ u∈z.toList,u.oneCell' = true) (h:v∈(Builtin.zeroCells z n).toList):v.oneCell' = true:=by
 simp only[Builtin.zeroCells,Array.toList_map,Array.toList_range,List.mem_map,List.mem_range] at h
 obtain ⟨i,hi,rfl⟩:=h
 have hs:0 < z.size:=by rcases Nat.eq_zero_or_pos z.size with h0 | h0;rw[h0] at hi;simp at hi;exact h0
 have hlt:=Nat.mod_lt i hs
 rw[getElem!_pos z _ hlt]
 exact hz _ (by simp)
theorem clear_rest {P:Program}{w:World}{base g n cap k s:Nat}{e t:TypeId}{f:Nat→List Value}{zv:Value}(hs:∀ i,(f i).length = s) (hr:Row w base e s (.slice (some ⟨g,0,none⟩) n cap) n f) (hk:k < n)
  (ht:P.underlying t = some (.slice e)) (hz:∀ w,(zeroValue e).run P w = .ok zv w) (hzs:zv.cells.size = s) (hz1:∀ u∈zv.cells.toList,u.oneCell' = true) :
  ∃ w',(∀ ty,(Builtin.clear_ #[t] ty #[.slice (some ⟨g,k * s,none⟩) (n - k) (cap - k)]).run P w = .ok (.tuple #[]) w')∧Row w' base e s (.slice (some ⟨g,0,none⟩) k cap) k f∧Off (fun b=>b = g) w w':=by
 rcases hr.2 with ⟨h,_⟩ | ⟨g',cap',cur,he,hb,hg,hn,hc,hsz,htk⟩
 ·cases h
 ·cases he
  have hlen:(Builtin.zeroCells zv.cells (n - k)).toList.length = (n - k) * s:=by simp [Builtin.zeroCells,hzs]
  have hle:k * s+(n - k) * s≤cap * s:=by rw[←Nat.add_mul,show k+(n - k) = n by omega];exact Nat.mul_le_mul_right s hn
  have hfit:k * s+0+(Builtin.zeroCells zv.cells (n - k)).toList.length≤cur.size:=by rw[hlen,hsz];omega
  have hrun:=run_storeCells_at P g (k * s) e _ 0 cur w hg hfit (fun v hv=>zeroCells_mem hz1 hv)
  refine ⟨w.setRow g (cur.toList.take (k * s+0) ++ (Builtin.zeroCells zv.cells (n - k)).toList ++ cur.toList.drop (k * s+0+(Builtin.zeroCells zv.cells (n - k)).toList.length)).toArray,fun ty=>?_,?_,?_⟩
  rotate_left
  ·refine ⟨flat_len hs k,.inr ⟨g,cap,_,rfl,hb,setRow_heap _ _ _ _ _ _ hg,by omega,hc,?_,?_⟩⟩
   ·simp only[List.size_toArray,List.length_append,List.length_take,List.length_drop,Array.length_toList] at hfit hlen ⊢;omega
   ·rw[List.append_assoc,Nat.add_zero]
    have hks:k * s≤cur.toList.length:=by simp only[Array.length_toList];omega
    show List.take (k * s) (List.take (k * s) cur.toList ++ _) = _
    rw[List.take_append_of_le_length (by rw[List.length_take];omega),List.take_take,Nat.min_self]
    have:=congrArg (List.take (k * s)) htk
    rw[List.take_take,Nat.min_eq_left (Nat.mul_le_mul_right s (by omega)),flat_take hs (by omega)] at this
    exact this
  ·exact ⟨rfl,rfl,rfl,by simp,fun k _ hx=>setRow_other _ _ _ _ hx⟩
  ·have hu:=run_underlying (P:=P) (w:=w) ht
   obtain ⟨d,hd⟩:∃ d,n - k = d+1:=⟨n - k - 1,by omega⟩
   rw[hd] at hrun ⊢
   simp [Builtin.clear_,hu,hz,Result.andThen,hrun]
end Go.Proofs.YtdpoppilnokniaaGreatDoor
namespace Go.Proofs.YtdpoppilnokniaaGreatDoor
open Go.RowKit
section
variable {P:Program} {ops:Array Oper}
theorem off_setAt {w:World}{b:Nat}{o:Obj}:Off (fun k=>k = b) w (setAt w b o) :=
 ⟨rfl,rfl,rfl,by simp [setAt],fun k _ hk=>by show (w.heap.setIfInBounds b o)[k]? = _;rw[Array.getElem?_setIfInBounds_ne (Ne.symm hk)]⟩
def rowPlan (w0:World) (e:TypeId) (sz:Nat) (cn:Nat→Nat) (fn:Nat→Nat→List Value) (mains:List Nat) (al:List (Nat×(Nat→Value)×Obj)) (st:List (Nat×Nat)) (uses:Nat→List Nat):PlanO (Nat×Value) :=
 {K:=fun s w=>Below w0.heap.size w0 w∧(∀ b,s.2.ownBlock = some b→w0.heap.size≤b∧b < w.heap.size)∧(s.1 ≠ 0→Row w w0.heap.size e sz s.2 (cn s.1) (fn s.1)),
  D:=fun _ w=>Below w0.heap.size w0 w,mstep:=fun _ s s'=>s'.1 = s.1+1∧∃ ao c,s'.2 = .slice ao (cn s'.1) c,mval:=fun _ s=>s.2,mains:=mains,al:=al,st:=st,B0:=w0.heap.size,
  own:=fun s b=>s.2.ownBlock = some b,uses:=uses }
variable {w0:World} {e:TypeId} {sz:Nat} {cn:Nat→Nat} {fn:Nat→Nat→List Value} {mains:List Nat} {al:List (Nat×(Nat→Value)×Obj)} {st:List (Nat×Nat)} {uses:Nat→List Nat}
end
end Go.Proofs.YtdpoppilnokniaaGreatDoor
namespace Go.Proofs.YtdpoppilnokniaaGreatDoor
open Go.RowKit Go.ChangeShapes Go.WideShapes Go.Deep
set_option linter.unusedVariables false
set_option linter.unusedSimpArgs false
def inI (n:Int):Prop:=-9223372036854775808≤n∧n≤9223372036854775807
def irow (s:Nat) (F:Nat→Int):List Value:=(List.range s).map fun j=>.int .i64 (F j)
theorem irow_len (s:Nat) (F:Nat→Int):(irow s F).length = s:=by simp [irow]
structure Sl (w:World) (s:Nat) (ao:Option Addr) (m c:Nat) (f:Nat→List Value):Prop where
 hm:m≤c
 hc:c≤9223372036854775807
 hno:ao = none→m = 0∧c = 0
 len:∀ i,(f i).length = s
 sl:SlE w s ao m f
theorem Sl.below {w w':World}{s:Nat}{ao:Option Addr}{m c:Nat}{f:Nat→List Value}(h:Sl w s ao m c f) (hb:Below w.heap.size w w'):Sl w' s ao m c f:=⟨h.hm,h.hc,h.hno,h.len,h.sl.below h.len hb⟩
theorem Sl.off {X:Nat→Prop}{w w':World}{s:Nat}{ao:Option Addr}{m c:Nat}{f:Nat→List Value}(h:Sl w s ao m c f) (ho:Off X w w') (hX:∀ a,ao = some a→¬ X a.block):Sl w' s ao m c f:=⟨h.hm,h.hc,h.hno,h.len,h.sl.off h.len ho hX⟩
theorem Sl.congr {w:World}{s:Nat}{ao:Option Addr}{m c:Nat}{f f':Nat→List Value}(h:Sl w s ao m c f) (hf:∀ i,f i = f' i):Sl w s ao m c f':=by rw[←show f = f' from funext hf];exact h
theorem Row.toSl {w:World}{base:Nat}{e:TypeId}{s n:Nat}{v:Value}{f:Nat→List Value}(h:Row w base e s v n f) (hf:∀ i,(f i).length = s):∃ ao c,v = .slice ao n c∧Sl w s ao n c f:=by
 obtain ⟨ao,c,rfl,h1,h2,h3,h4⟩:=h.sl hf
 exact ⟨ao,c,rfl,h1,h2,h4,hf,h3⟩
theorem Sl.cell {w:World}{s:Nat}{ao:Option Addr}{m c:Nat}{f:Nat→List Value}(h:Sl w s ao m c f) {i:Nat}(hi:i < m):∃ g o,ao = some ⟨g,o,none⟩∧∀ j,j < s→w.cell? ⟨g,o+i * s+j,none⟩ = (f i)[j]?:=h.sl i hi
section
variable {H:Type} {enc:TypeId×Value→H} {P:Program} {W:World}
theorem open_rows {t e:TypeId}{fs:Array Field}{fuel:Nat}{cs:List Value}{x:DataW H×List MemPlace}(ht:P.underlying t = some (.slice e)) (he:P.underlying e = some (.struct fs))
  (hone:oneCellFields P fs = true) (hC:P.cellsOf e = fs.size) (h0:0 < fs.size) (hint:∀ (j:Nat) (f:Field),fs[j]? = some f→P.underlying f.type = some (.int .i64)) (h:DataW.trod enc P W 0 (fun _=>true) true fuel t cs = some x) :
  ∃ (a:Option Addr) (m c:Nat) (F:Nat→Nat→Int),cs = [.slice a m c]∧Sl W fs.size a m c (fun i=>irow fs.size (F i))∧∀ i,i < m→∀ j,j < fs.size→inI (F i j):=by
 rcases open_slice_fields ht he hone hC h with ⟨hcs,hx⟩ | ⟨a,len,cap,m,D,Pl,hcs,hb,hl,hm,hmm,hx,hi⟩
 ·exact ⟨none,0,0,fun _ _=>0,hcs,⟨by omega,by omega,fun _=>⟨rfl,rfl⟩,fun i=>irow_len _ _,fun i hi=>absurd hi (by omega)⟩,fun i hi=>absurd hi (by omega)⟩
 ·have hml:len≤m:=by rw[hmm];split <;> omega
  have key:∀ i j,∃ y:Int,i < len→j < fs.size→W.cell? (a.add (i * fs.size+j)) = some (.int .i64 y)∧inI y:=by
   intro i j
   by_cases hil:i < len
   ·by_cases hj:j < fs.size
    ·obtain ⟨ys,n,_,_,hlen,hf'⟩:=hi i (by omega)
     obtain ⟨v0,y0,hc0,_,ht0⟩:=hf' j _ (Array.getElem?_eq_getElem hj)
     obtain ⟨n0,e0,_,w0⟩:=DataW.trod_int (hint j _ (Array.getElem?_eq_getElem hj)) ht0
     simp at e0
     subst e0
     exact ⟨n0,fun _ _=>⟨hc0,bounds_i64 w0⟩⟩
    ·exact ⟨0,fun _ h=>absurd h hj⟩
   ·exact ⟨0,fun h=>absurd h hil⟩
  obtain ⟨F,hF⟩:=Classical.axiomOfChoice fun i=>Classical.axiomOfChoice (key i)
  refine ⟨some a,len,cap,F,hcs,⟨hl,by (unfold maxLen at hm;omega),fun h=>(by cases h),fun i=>irow_len _ _,fun i hil=>?_⟩,fun i hil j hj=>(hF i j hil hj).2⟩
  have ha:a = ⟨a.block,a.off,none⟩:=by
   have h00:=(hF 0 0 (by omega) h0).1
   simp [Addr.add] at h00
   exact addr_of_cell h00
  rw[ha]
  refine ⟨a.block,a.off,rfl,fun j hj=>?_⟩
  have:=(hF i j hil hj).1
  rw[ha,add_flat] at this
  rw[Nat.add_assoc,this]
  simp [irow,hj]
end
end Go.Proofs.YtdpoppilnokniaaGreatDoor
namespace Go.Proofs.YtdpoppilnokniaaGreatDoor
open Go.RowKit Go.ChangeShapes Go.WideShapes Go.Deep
set_option linter.unusedVariables false
section
variable {H:Type} {enc:TypeId×Value→H} {P:Program} {W:World}
theorem open_num_slice {t e:TypeId}{k:IntKind}{fuel:Nat}{cs:List Value}{x:DataW H×List MemPlace}(ht:P.underlying t = some (.slice e)) (he:P.underlying e = some (.int k)) (hc:P.cellsOf e = 1)
  (h:DataW.trod enc P W 0 (fun _=>true) true fuel t cs = some x):∃ (a:Option Addr) (m c:Nat) (F:Nat→Int),cs = [.slice a m c]∧Sl W 1 a m c (fun i=>[.int k (F i)])∧∀ i,i < m→(Lit.int k (F i)).wf = true:=by
 rcases open_ints ht he hc h with ⟨hcs,_⟩ | ⟨a,len,cap,zs,hcs,hb,hl,hm,hzl,_,hcell,hwf⟩
 ·exact ⟨none,0,0,fun _=>0,hcs,⟨by omega,by omega,fun _=>⟨rfl,rfl⟩,fun _=>rfl,fun i hi=>absurd hi (by omega)⟩,fun i hi=>absurd hi (by omega)⟩
 ·simp only[if_true] at hzl
  refine ⟨some a,len,cap,fun i=>zs.getD i 0,hcs,⟨hl,by unfold maxLen at hm;omega,fun h=>(by cases h),fun _=>rfl,fun i hi=>?_⟩,fun i hi=>?_⟩
  ·have ha:a = ⟨a.block,a.off,none⟩:=by
    have h00:=hcell 0 (by omega)
    simp [Addr.add] at h00
    exact addr_of_cell h00
   rw[ha]
   refine ⟨a.block,a.off,rfl,fun j hj=>?_⟩
   obtain rfl:j = 0:=by omega
   have:=hcell i (by omega)
   rw[ha,add_flat] at this
   simpa using this
  ·have hlt:i < zs.length:=by omega
   have:zs.getD i 0 = zs[i]:=by simp [List.getD,hlt]
   show (Lit.int k (zs.getD i 0)).wf = true
   rw[this]
   exact hwf _ (List.getElem_mem hlt)
theorem open_struct_cells {t:TypeId}{fs:Array Field}{fuel:Nat}{cs:List Value}{x:DataW H×List MemPlace}(ht:P.underlying t = some (.struct fs)) (hone:oneCellFields P fs = true) (hC:P.cellsOf t = fs.size)
  (h:DataW.trod enc P W 0 (fun _=>true) true fuel t cs = some x):cs.length = fs.size∧∀ (j:Nat) (f:Field),fs[j]? = some f→∃ (v:Value) (n:Nat) (y:DataW H×List MemPlace),cs[j]? = some v∧DataW.trod enc P W 0 (fun _=>true) true n f.type [v] = some y:=by
 obtain ⟨ys,n,_,_,hlen,hyl,hf⟩:=DataW.trod_struct ht h
 rw[hC] at hlen
 refine ⟨hlen,fun j f hj=>?_⟩
 obtain ⟨ho,hk⟩:=hone_of hone j f hj
 have hjl:j < fs.size:=(Array.getElem?_eq_some_iff.1 hj).1
 have h1:=hf j f hj
 rw[ho,hk] at h1
 have hone':(cs.drop j).take 1 = [cs[j]'(by omega)]:=by
  rw[List.drop_eq_getElem_cons (by omega)]
  rfl
 rw[hone',List.getElem?_eq_getElem (show j < ys.length by omega)] at h1
 exact ⟨_,n,_,List.getElem?_eq_getElem (by omega),h1⟩
theorem open_struct_ints {t:TypeId}{fs:Array Field}{base:Nat}{v:Value}{d:DataW H}{p:List MemPlace}(ht:P.underlying t = some (.struct fs)) (hone:oneCellFields P fs = true) (hC:P.cellsOf t = fs.size)
  (hint:∀ (j:Nat) (f:Field),fs[j]? = some f→P.underlying f.type = some (.int .i64)) (hv:Value.okWide P W .any base t v) (h:DataW.Trod enc P W 0 (fun _=>true) true t v d p) :
  ∃ F:Nat→Int,v = .agg (irow fs.size F).toArray∧∀ j,j < fs.size→inI (F j):=by
 obtain ⟨cs,rfl,hsz⟩:=okWide_struct ht hv
 obtain ⟨fuel,hf⟩:=h
 obtain ⟨hl,hc⟩:=open_struct_cells ht hone hC hf
 have key:∀ j,∃ y:Int,j < fs.size→cs[j]? = some (.int .i64 y)∧inI y:=by
  intro j
  by_cases hj:j < fs.size
  ·obtain ⟨v,n,y,h1,h2⟩:=hc j _ (Array.getElem?_eq_getElem hj)
   obtain ⟨n0,e0,_,w0⟩:=DataW.trod_int (hint j _ (Array.getElem?_eq_getElem hj)) h2
   simp at e0
   subst e0
   exact ⟨n0,fun _=>⟨by simpa [Value.cells] using h1,bounds_i64 w0⟩⟩
  ·exact ⟨0,fun h=>absurd h hj⟩
 obtain ⟨F,hF⟩:=Classical.axiomOfChoice key
 refine ⟨F,?_,fun j hj=>(hF j hj).2⟩
 congr 1
 apply Array.ext_getElem?
 intro j
 have hcl:cs.size = fs.size:=by simpa [Value.cells] using hl
 by_cases hj:j < fs.size
 ·rw[(hF j hj).1]
  simp [irow,hj]
 ·rw[Array.getElem?_eq_none (by omega),Array.getElem?_eq_none (by simp [irow];omega)]
end
end Go.Proofs.YtdpoppilnokniaaGreatDoor
