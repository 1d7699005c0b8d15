/- Theorems of this seat. -/
import Derived.Test.YtdpoppilnokniaaGreatDoorWBB
import Derived.Maps.OwnOps
import Derived.Maps.OwnSet
import Derived.Maps.Views
namespace Go.Proofs.YtdpoppilnokniaaGreatDoor
open Go.RowKit
set_option linter.unusedVariables false
theorem Row.typ {w:World}{base s n g:Nat}{e:TypeId}{v:Value}{f:Nat→List Value}(h:Row w base e s v n f) (hg:v.ownBlock = some g):∃ cs:Array Value,w.heap[g]? = some (.cells cs e (0,0)):=by
 rcases h.2 with ⟨hv,_⟩ | ⟨g',cap,cur,hv,_,hh,_⟩
 ·rw[hv] at hg;simp [Value.ownBlock] at hg
 ·rw[hv] at hg
  have:g' = g:=by simpa [Value.ownBlock] using hg
  subst this
  exact ⟨cur,hh⟩
def Odd' (w:World) (g:Nat) (e:TypeId):Prop:=∀ cs:Array Value,w.heap[g]? ≠ some (.cells cs e (0,0))
theorem odd_cells {w:World}{g:Nat}{e T:TypeId}{cs:Array Value}{fz:Nat×Nat}(h:w.heap[g]? = some (.cells cs T fz)) (hT:T ≠ e):Odd' w g e:=fun c hc=>by
 rw[h] at hc
 simp only[Option.some.injEq,Obj.cells.injEq] at hc
 exact hT hc.2.1
theorem odd_map {w:World}{g c:Nat}{e:TypeId}{es}(h:w.heap[g]? = some (.map es c)):Odd' w g e:=fun cs hc=>by
 rw[h] at hc
 simp at hc
theorem Row.unhit {w w':World}{base s n g:Nat}{e:TypeId}{v:Value}{f:Nat→List Value}(h:Row w base e s v n f) (hg:Odd' w g e) (ho:Off (fun b=>b = g) w w'):Row w' base e s v n f :=
 Row.off h ho (fun b hb hx=>by
  have hx:b = g:=hx
  subst hx
  obtain ⟨cs,hc⟩:=h.typ hb
  exact hg cs hc)
structure Fam (w:World) (base:Nat) (e:TypeId) (s n:Nat) (v:Nat→Value) (l:Nat→Nat) (f:Nat→Nat→List Value):Prop where
 row:∀ i,i < n→Row w base e s (v i) (l i) (f i)
 sep:∀ i j,i < n→j < n→i ≠ j→∀ g,(v i).ownBlock = some g→(v j).ownBlock ≠ some g
section
variable {w w':World} {base:Nat} {e:TypeId} {s n:Nat} {v:Nat→Value} {l:Nat→Nat} {f:Nat→Nat→List Value}
theorem Fam.none:Fam w base e s 0 v l f:=⟨fun i hi=>absurd hi (by omega),fun i j hi=>absurd hi (by omega)⟩
theorem Fam.congr {v':Nat→Value}{l':Nat→Nat}{f':Nat→Nat→List Value}(h:Fam w base e s n v l f) (hv:∀ i,i < n→v' i = v i) (hl:∀ i,i < n→l' i = l i) (hf:∀ i,i < n→∀ j,j < l i→f' i j = f i j):Fam w base e s n v' l' f' :=
 ⟨fun i hi=>by rw[hv i hi,hl i hi];exact Row.congr (h.row i hi) (fun j hj=>(hf i hi j hj).symm),fun i j hi hj hij g hg=>by rw[hv i hi] at hg;rw[hv j hj];exact h.sep i j hi hj hij g hg⟩
theorem Fam.off {X:Nat→Prop}(h:Fam w base e s n v l f) (ho:Off X w w') (hX:∀ i,i < n→∀ g,(v i).ownBlock = some g→¬ X g):Fam w' base e s n v l f :=
 ⟨fun i hi=>Row.off (h.row i hi) ho (hX i hi),h.sep⟩
theorem Fam.below (h:Fam w base e s n v l f) (hb:Below w.heap.size w w'):Fam w' base e s n v l f:=h.off (X:=fun _=>False) (Off.of_below hb) (fun _ _ _ _ h=>h)
theorem Fam.unhit {g:Nat}(h:Fam w base e s n v l f) (hg:Odd' w g e) (ho:Off (fun b=>b = g) w w'):Fam w' base e s n v l f :=
 ⟨fun i hi=>Row.unhit (h.row i hi) hg ho,h.sep⟩
theorem Fam.set {k:Nat}(h:Fam w base e s n v l f) (hk:k < n) (ho:Off (fun b=>(v k).ownBlock = some b) w w') {v':Value}{l':Nat}{f':Nat→List Value}(hr:Row w' base e s v' l' f') (hown:∀ g,v'.ownBlock = some g→(v k).ownBlock = some g∨w.heap.size≤g) :
  Fam w' base e s n (upd v k v') (upd l k l') (upd f k f'):=by
 have fresh:∀ i,i < n→i ≠ k→∀ g,v'.ownBlock = some g→(v i).ownBlock ≠ some g:=fun i hi hik g hg hi2=>by
  rcases hown g hg with h1 | h1
  ·exact h.sep i k hi hk hik g hi2 h1
  ·have:=(World.ownsRow.lt (h.row i hi) g hi2).2;omega
 refine ⟨fun i hi=>?_,fun i j hi hj hij g hg=>?_⟩
 ·by_cases e:i = k
  ·subst e;rw[upd_same,upd_same,upd_same];exact hr
  ·rw[upd_ne e,upd_ne e,upd_ne e]
   exact Row.off (h.row i hi) ho (fun b hb hx=>h.sep i k hi hk e b hb hx)
 ·by_cases e:i = k
  ·subst e
   rw[upd_same] at hg
   rw[upd_ne (fun e=>hij e.symm)]
   exact fresh j hj (fun e=>hij e.symm) g hg
  ·rw[upd_ne e] at hg
   by_cases e2:j = k
   ·subst e2;rw[upd_same];exact fun h2=>fresh i hi e g h2 hg
   ·rw[upd_ne e2];exact h.sep i j hi hj hij g hg
theorem Fam.push (h:Fam w base e s n v l f) {v':Value}{l':Nat}{f':Nat→List Value}(hr:Row w base e s v' l' f') (hown:∀ g,v'.ownBlock = some g→∀ i,i < n→(v i).ownBlock ≠ some g) :
  Fam w base e s (n+1) (upd v n v') (upd l n l') (upd f n f'):=by
 refine ⟨fun i hi=>?_,fun i j hi hj hij g hg=>?_⟩
 ·by_cases e:i = n
  ·subst e;rw[upd_same,upd_same,upd_same];exact hr
  ·rw[upd_ne e,upd_ne e,upd_ne e];exact h.row i (by omega)
 ·by_cases e:i = n
  ·subst e
   rw[upd_same] at hg
   rw[upd_ne (fun e=>hij e.symm)]
   exact hown g hg j (by omega)
  ·rw[upd_ne e] at hg
   by_cases e2:j = n
   ·subst e2;rw[upd_same];exact fun h2=>hown g h2 i (by omega) hg
   ·rw[upd_ne e2];exact h.sep i j (by omega) (by omega) hij g hg
end
end Go.Proofs.YtdpoppilnokniaaGreatDoor
namespace Go.Proofs.YtdpoppilnokniaaGreatDoor
open Go.RowKit Go.Maps
set_option linter.unusedVariables false
def IntSet (P:Program) (k e:TypeId) (w:World) (b n:Nat) (S:Int→Bool):Prop :=
 ∃ D:DataW Unit,w.ownsMap P k (plainElem P e) b n D∧IsMap D∧∀ x,D.atKey (.int .i64 x) (.lit (.bool false)) = .lit (.bool (S x))
theorem plain_bool_inv {P:Program}{e:TypeId}(he:P.underlying e = some .bool) {v:Value}{z:DataW Unit×List MemPlace}(h:plainElem P e v = some z):∃ x,v = .bool x∧z = (.lit (.bool x),[]):=by
 unfold plainElem at h
 rw[he] at h
 cases v <;> simp at h
 exact ⟨_,rfl,h.symm⟩
section
variable {P:Program} {k e:TypeId} {w:World} {b n:Nat} {S:Int→Bool}
theorem IntSet.made (P:Program) (k e:TypeId) (w:World):IntSet P k e (w.alloc (.map #[] 0)) w.heap.size 0 (fun _=>false) :=
 ⟨.map [],World.ownsMap_made w P k _,isMap_empty,fun x=>rfl⟩
theorem IntSet.off {X:Nat→Prop}{w':World}(h:IntSet P k e w b n S) (ho:Off X w w') (hX:¬ X b):IntSet P k e w' b n S:=by
 obtain ⟨D,⟨es,clock,hb,r⟩,h2⟩:=h
 exact ⟨D,⟨es,clock,(ho.block b (Array.getElem?_eq_some_iff.1 hb).1 hX).trans hb,r⟩,h2⟩
theorem IntSet.below {w':World}(h:IntSet P k e w b n S) (hb:Below w.heap.size w w'):IntSet P k e w' b n S:=h.off (X:=fun _=>False) (Off.of_below hb) (fun h=>h)
theorem IntSet.lt (h:IntSet P k e w b n S):b < w.heap.size:=by obtain ⟨D,h1,_⟩:=h;exact h1.lt
end
section
variable {P:Program} {k e t:TypeId} {w:World} {b n:Nat} {S:Int→Bool}
theorem IntSet.look (h:IntSet P k e w b n S) (hk:P.underlying k = some (.int .i64)) (ht:P.underlying t = some (.map k e)) (he:P.underlying e = some .bool) (hz:(zeroValue e).run P w = .ok (.bool false) w) (key:Int) (hw:(Lit.int .i64 key).wf = true) :
  (Instr.lookup t (.map (some b)) (.int .i64 key) false).run P w = .ok (.bool (S key)) w:=by
 obtain ⟨D,h1,_,h3⟩:=h
 obtain ⟨v,ps,hrun,hv⟩:=h1.lookup (int_keyed hk) ht hz (plainElem_bool he false) (keyOf_int_mk hk hw)
 rw[h3] at hv
 obtain ⟨y',rfl,hy'⟩:=plain_bool_inv he hv
 simp at hy'
 rw[hrun,hy'.1]
theorem IntSet.put (h:IntSet P k e w b n S) (hk:P.underlying k = some (.int .i64)) (ht:P.underlying t = some (.map k e)) (he:P.underlying e = some .bool) (hn:n < maxLen) (key:Int) (y:Bool) (hw:(Lit.int .i64 key).wf = true) :
  ∃ w',(Instr.mapUpdate t (.map (some b)) (.int .i64 key) (.bool y)).run P w = .ok () w'∧IntSet P k e w' b (n+1) (fun z=>if z = key then y else S z)∧Off (fun i=>i = b) w w':=by
 obtain ⟨D,h1,h2,h3⟩:=h
 obtain ⟨w',hrun,g1,g2⟩:=h1.update (int_keyed hk) ht hn (keyOf_int_mk hk hw) (plainElem_bool he y)
 refine ⟨w',hrun,⟨_,g1,h2.put _ _,fun z=>?_⟩,(Off.of_grown g2).mono (fun i _ hi=>by cases hi;rfl)⟩
 show _ = DataW.lit (Lit.bool (if z = key then y else S z))
 by_cases hz:z = key
 ·subst hz
  rw[if_pos rfl,atKey_put_same h2 (by simp [WideAt.IsKeyLit])]
 ·rw[if_neg hz,atKey_put_other (fun h=>hz (by cases h;rfl)),h3]
end
end Go.Proofs.YtdpoppilnokniaaGreatDoor
namespace Go.Proofs.YtdpoppilnokniaaGreatDoor
open Go.RowKit Go.Maps
set_option linter.unusedVariables false
def IntMap (P:Program) (k e:TypeId) (w:World) (b n:Nat) (S:Lit→Option Int):Prop :=
 ∃ D:DataW Unit,w.ownsMap P k (plainElem P e) b n D∧IsMap D∧∀ x,D.atKey x (.lit (.int .i64 0)) = .lit (.int .i64 ((S x).getD 0))∧Maps.has D x = (S x).isSome
section
variable {P:Program} {k e:TypeId} {w:World} {b n:Nat} {S:Lit→Option Int}
theorem IntMap.made (P:Program) (k e:TypeId) (w:World):IntMap P k e (w.alloc (.map #[] 0)) w.heap.size 0 (fun _=>none) :=
 ⟨.map [],World.ownsMap_made w P k _,isMap_empty,fun x=>⟨rfl,rfl⟩⟩
theorem IntMap.off {X:Nat→Prop}{w':World}(h:IntMap P k e w b n S) (ho:Off X w w') (hX:¬ X b):IntMap P k e w' b n S:=by
 obtain ⟨D,⟨es,clock,hb,r⟩,h2⟩:=h
 exact ⟨D,⟨es,clock,(ho.block b (Array.getElem?_eq_some_iff.1 hb).1 hX).trans hb,r⟩,h2⟩
theorem IntMap.below {w':World}(h:IntMap P k e w b n S) (hb:Below w.heap.size w w'):IntMap P k e w' b n S:=h.off (X:=fun _=>False) (Off.of_below hb) (fun h=>h)
theorem IntMap.lt (h:IntMap P k e w b n S):b < w.heap.size:=by obtain ⟨D,h1,_⟩:=h;exact h1.lt
theorem IntMap.block (h:IntMap P k e w b n S):∃ es clock,w.heap[b]? = some (.map es clock):=by
 obtain ⟨D,⟨es,clock,hb,r⟩,h2⟩:=h
 exact ⟨es,clock,hb⟩
end
section
variable {P:Program} {k e t:TypeId} {w:World} {b n:Nat} {S:Lit→Option Int}
theorem IntMap.look_ok (h:IntMap P k e w b n S) (K:Keyed P k) (ht:P.underlying t = some (.map k e)) (he:P.underlying e = some (.int .i64)) (hz:(zeroValue e).run P w = .ok (.int .i64 0) w) {key:Value}{kl:Lit}(hkey:keyOf P k key = some kl) :
  (Instr.lookup t (.map (some b)) key true).run P w = .ok (.tuple #[.int .i64 ((S kl).getD 0),.bool (S kl).isSome]) w:=by
 obtain ⟨D,h1,_,h3⟩:=h
 obtain ⟨v,ps,hrun,hv⟩:=h1.look_ok K ht hz (plainElem_int he (by decide)) hkey
 obtain ⟨c,rfl,hc,hwc⟩:=plainElem_int_inv he hv
 have e1:=(h3 kl).1
 simp only[Prod.mk.injEq] at hc
 rw[hc.1] at e1
 cases e1
 rw[hrun,(h3 kl).2]
theorem IntMap.look (h:IntMap P k e w b n S) (K:Keyed P k) (ht:P.underlying t = some (.map k e)) (he:P.underlying e = some (.int .i64)) (hz:(zeroValue e).run P w = .ok (.int .i64 0) w) {key:Value}{kl:Lit}(hkey:keyOf P k key = some kl) :
  (Instr.lookup t (.map (some b)) key false).run P w = .ok (.int .i64 ((S kl).getD 0)) w:=by
 obtain ⟨D,h1,_,h3⟩:=h
 obtain ⟨c,hrun,hat,_⟩:=h1.lookup_int K ht he hz hkey
 have e1:=(h3 kl).1
 rw[hat] at e1
 cases e1
 exact hrun
theorem IntMap.put (h:IntMap P k e w b n S) (K:Keyed P k) (ht:P.underlying t = some (.map k e)) (he:P.underlying e = some (.int .i64)) (hn:n < maxLen) {key:Value}{kl:Lit}(hkey:keyOf P k key = some kl) (hl:WideAt.IsKeyLit kl) (y:Int) (hy:(Lit.int .i64 y).wf = true) {S':Lit→Option Int}(h1':S' kl = some y) (h2':∀ z,z ≠ kl→S' z = S z) :
  ∃ w',(Instr.mapUpdate t (.map (some b)) key (.int .i64 y)).run P w = .ok () w'∧IntMap P k e w' b (n+1) S'∧Off (fun i=>i = b) w w':=by
 obtain ⟨D,h1,h2,h3⟩:=h
 obtain ⟨w',hrun,g1,g2⟩:=h1.update K ht hn hkey (plainElem_int he hy)
 refine ⟨w',hrun,⟨_,g1,h2.put _ _,fun z=>?_⟩,(Off.of_grown g2).mono (fun i _ hi=>by cases hi;rfl)⟩
 by_cases hz:z = kl
 ·subst hz
  rw[h1',atKey_put_same h2 hl,has_put_same h2 hl]
  exact ⟨rfl,rfl⟩
 ·rw[h2' z hz,atKey_put_other hz,has_put_other hz]
  exact h3 z
end
end Go.Proofs.YtdpoppilnokniaaGreatDoor
