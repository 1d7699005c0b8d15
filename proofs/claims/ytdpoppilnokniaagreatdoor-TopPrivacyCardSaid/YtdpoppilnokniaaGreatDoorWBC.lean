/- Theorems of this seat. -/
import Derived.Test.YtdpoppilnokniaaGreatDoorWBB
namespace Go.Proofs.YtdpoppilnokniaaGreatDoor
set_option linter.unusedVariables false
set_option linter.unusedSimpArgs false
/-! Lists of numbers in the order of the dictionary. -/
def cmpL:List Int→List Int→Int
 | a :: ar,b :: bs=>if a < b then -1 else if b < a then 1 else cmpL ar bs
 | _,_=>0
theorem cmpL_neg:∀ xs ys:List Int,cmpL ys xs = - cmpL xs ys
 | [],[]=>rfl
 | [],_ :: _=>rfl
 | _ :: _,[]=>rfl
 | a :: ar,b :: bs=>by
  have:=cmpL_neg ar bs
  unfold cmpL
  by_cases h1:a < b
  ·rw[if_neg (by omega),if_pos h1,if_pos h1];rfl
  ·by_cases h2:b < a
   ·rw[if_pos h2,if_neg h1,if_pos h2]
   ·rw[if_neg h2,if_neg h1,if_neg h1,if_neg h2,this]
theorem cmpL_self (xs:List Int):cmpL xs xs = 0:=by have:=cmpL_neg xs xs;omega
theorem cmpL_zero:∀ {xs ys:List Int},xs.length = ys.length→cmpL xs ys = 0→xs = ys
 | [],[],_,_=>rfl
 | a :: ar,b :: bs,hl,h=>by
  unfold cmpL at h
  by_cases h1:a < b
  ·rw[if_pos h1] at h;omega
  ·by_cases h2:b < a
   ·rw[if_neg h1,if_pos h2] at h;omega
   ·rw[if_neg h1,if_neg h2] at h
    have:a = b:=by omega
    rw[this,cmpL_zero (by simpa using hl) h]
theorem cmpL_trans:∀ {xs ys zs:List Int},xs.length = ys.length→ys.length = zs.length→cmpL xs ys < 0→cmpL ys zs < 0→cmpL xs zs < 0
 | [],[],_,_,_,h,_=>by simp [cmpL] at h
 | a :: ar,b :: bs,[],_,h2,_,_=>by simp at h2
 | a :: ar,b :: bs,c :: cs,l1,l2,h1,h2=>by
  have ih:=@cmpL_trans ar bs cs (by simpa using l1) (by simpa using l2)
  unfold cmpL at h1 h2 ⊢
  by_cases x1:a < b
  ·by_cases y1:b < c
   ·rw[if_pos (by omega)];omega
   ·by_cases y2:c < b
    ·rw[if_neg y1,if_pos y2] at h2;omega
    ·rw[if_pos (by omega)];omega
  ·by_cases x2:b < a
   ·rw[if_neg x1,if_pos x2] at h1;omega
   ·rw[if_neg x1,if_neg x2] at h1
    by_cases y1:b < c
    ·rw[if_pos (by omega)];omega
    ·by_cases y2:c < b
     ·rw[if_neg y1,if_pos y2] at h2;omega
     ·rw[if_neg y1,if_neg y2] at h2
      rw[if_neg (by omega),if_neg (by omega)]
      exact ih h1 h2
structure Ev where
 dev:Int
 seq:Int
 at':Int
 late:Int
 kind:Int
 bike:Int
 place:Int
 rider:Int
 ride:Int
deriving DecidableEq
instance:Inhabited Ev:=⟨⟨0,0,0,0,0,0,0,0,0⟩⟩
def keyE (e:Ev):List Int:=[e.at',e.dev,e.seq,e.late,e.kind,e.bike,e.place,e.rider,e.ride]
def keyD (e:Ev):List Int:=e.dev :: e.seq :: keyE e
theorem keyE_inj {a b:Ev}(h:keyE a = keyE b):a = b:=by
 obtain ⟨a1,a2,a3,a4,a5,a6,a7,a8,a9⟩:=a
 obtain ⟨b1,b2,b3,b4,b5,b6,b7,b8,b9⟩:=b
 simp [keyE] at h
 simp [h]
def cmpE (a b:Ev):Int:=cmpL (keyE a) (keyE b)
def cmpD (a b:Ev):Int:=cmpL (keyD a) (keyD b)
def ltE (a b:Ev):Bool:=decide (cmpE a b < 0)
def sameN (a b:Ev):Bool:=decide (a.dev = b.dev) && decide (a.seq = b.seq)
theorem sameN_iff {a b:Ev}:sameN a b = true↔a.dev = b.dev∧a.seq = b.seq:=by simp [sameN]
theorem ltE_irr (a:Ev):ltE a a = false:=by simp [ltE,cmpE,cmpL_self]
theorem ltE_trans {a b c:Ev}(h1:ltE a b = true) (h2:ltE b c = true):ltE a c = true:=by
 exact decide_eq_true (cmpL_trans (by rfl) (by rfl) (of_decide_eq_true h1) (of_decide_eq_true h2))
theorem ltE_total {a b:Ev}(h1:ltE a b = false) (h2:ltE b a = false):a = b:=by
 have h1:¬ cmpL (keyE a) (keyE b) < 0:=of_decide_eq_false h1
 have h2:¬ cmpL (keyE b) (keyE a) < 0:=of_decide_eq_false h2
 have:=cmpL_neg (keyE a) (keyE b)
 exact keyE_inj (cmpL_zero (by rfl) (by omega))
theorem ltE_asym {a b:Ev}(h:ltE a b = true):ltE b a = false:=by
 cases hb:ltE b a
 ·rfl
 ·have:=ltE_trans h hb;rw[ltE_irr] at this;cases this
theorem cmpD_zero {a b:Ev}(h:cmpD a b = 0):a = b:=by
 have:=cmpL_zero (by rfl) h
 simp [keyD] at this
 exact keyE_inj this.2.2
def SortedE (l:List Ev):Prop:=l.Pairwise (fun a b=>ltE a b = true)
theorem sorted_unique:∀ {l m:List Ev},SortedE l→SortedE m→(∀ x,x∈l↔x∈m)→l = m
 | [],[],_,_,_=>rfl
 | [],b :: m,_,_,h=>by have:=(h b).2 (by simp);cases this
 | a :: l,[],_,_,h=>by have:=(h a).1 (by simp);cases this
 | a :: l,b :: m,hl,hm,h=>by
  obtain ⟨l1,l2⟩:=List.pairwise_cons.1 hl
  obtain ⟨m1,m2⟩:=List.pairwise_cons.1 hm
  have hab:a = b:=by
   rcases List.mem_cons.1 ((h a).1 (by simp)) with e | e
   ·exact e
   ·rcases List.mem_cons.1 ((h b).2 (by simp)) with e2 | e2
    ·exact e2.symm
    ·have:=ltE_asym (m1 a e)
     rw[l1 b e2] at this;cases this
  subst hab
  rw[sorted_unique (l:=l) (m:=m) l2 m2 (fun x=>?_)]
  constructor
  ·intro hx
   rcases List.mem_cons.1 ((h x).1 (by simp [hx])) with e | e
   ·subst e;have:=l1 x hx;rw[ltE_irr] at this;cases this
   ·exact e
  ·intro hx
   rcases List.mem_cons.1 ((h x).2 (by simp [hx])) with e | e
   ·subst e;have:=m1 x hx;rw[ltE_irr] at this;cases this
   ·exact e
def Least (l:List Ev) (x:Ev):Prop:=x∈l∧∀ y∈l,y.dev = x.dev→y.seq = x.seq→ltE y x = false
def IsSet (l r:List Ev):Prop:=SortedE r∧∀ x,x∈r↔Least l x
theorem IsSet.unique {l r s:List Ev}(h1:IsSet l r) (h2:IsSet l s):r = s:=sorted_unique h1.1 h2.1 (fun x=>(h1.2 x).trans (h2.2 x).symm)
theorem IsSet.congr {l m r:List Ev}(h:IsSet l r) (hm:∀ x,x∈l↔x∈m):IsSet m r:=by
 refine ⟨h.1,fun x=>(h.2 x).trans ?_⟩
 unfold Least
 rw[hm]
 exact ⟨fun ⟨a,b⟩=>⟨a,fun y hy=>b y ((hm y).2 hy)⟩,fun ⟨a,b⟩=>⟨a,fun y hy=>b y ((hm y).1 hy)⟩⟩
theorem least_exists:∀ {l:List Ev}{x:Ev},x∈l→∃ y,Least l y∧y.dev = x.dev∧y.seq = x.seq∧(ltE y x = true∨y = x)
 | a :: l,x,h=>by
  by_cases hs:∃ z∈l,z.dev = x.dev∧z.seq = x.seq
  ·obtain ⟨z,hz,z1,z2⟩:=hs
   obtain ⟨y,⟨y1,y2⟩,y3,y4,y5⟩:=least_exists hz
   by_cases hx:a.dev = x.dev∧a.seq = x.seq
   ·cases hc:ltE a y
    ·refine ⟨y,⟨by simp [y1],fun v hv e1 e2=>?_⟩,by omega,by omega,?_⟩
     ·rcases List.mem_cons.1 hv with e | e
      ·subst e;exact hc
      ·exact y2 v e e1 e2
     ·rcases List.mem_cons.1 h with e | e
      ·subst e
       cases hcy:ltE y x
       ·exact .inr (ltE_total hcy hc)
       ·exact .inl rfl
      ·have:=y2 x e (by omega) (by omega)
       cases hcy:ltE y x
       ·exact .inr (ltE_total hcy this)
       ·exact .inl rfl
    ·refine ⟨a,⟨by simp,fun v hv e1 e2=>?_⟩,hx.1,hx.2,?_⟩
     ·rcases List.mem_cons.1 hv with e | e
      ·subst e;exact ltE_irr _
      ·have:=y2 v e (by omega) (by omega)
       cases hva:ltE v a
       ·rfl
       ·have:=ltE_trans hva hc
        rw[y2 v e (by omega) (by omega)] at this;cases this
     ·rcases List.mem_cons.1 h with e | e
      ·exact .inr e.symm
      ·have hyx:=y2 x e (by omega) (by omega)
       left
       cases hcy:ltE y x
       ·rw[←ltE_total hcy hyx];exact hc
       ·exact ltE_trans hc hcy
   ·refine ⟨y,⟨by simp [y1],fun v hv e1 e2=>?_⟩,by omega,by omega,?_⟩
    ·rcases List.mem_cons.1 hv with e | e
     ·subst e;exact absurd ⟨by omega,by omega⟩ hx
     ·exact y2 v e e1 e2
    ·rcases List.mem_cons.1 h with e | e
     ·subst e;exact absurd ⟨rfl,rfl⟩ hx
     ·have:=y2 x e (by omega) (by omega)
      cases hcy:ltE y x
      ·exact .inr (ltE_total hcy this)
      ·exact .inl rfl
  ·have hxa:x = a:=by
    rcases List.mem_cons.1 h with e | e
    ·exact e
    ·exact absurd ⟨x,e,rfl,rfl⟩ hs
   subst hxa
   refine ⟨x,⟨by simp,fun v hv e1 e2=>?_⟩,rfl,rfl,.inr rfl⟩
   rcases List.mem_cons.1 hv with e | e
   ·subst e;exact ltE_irr _
   ·exact absurd ⟨v,e,e1,e2⟩ hs
end Go.Proofs.YtdpoppilnokniaaGreatDoor
namespace Go.Proofs.YtdpoppilnokniaaGreatDoor
set_option linter.unusedVariables false
set_option linter.unusedSimpArgs false
def firstsE:List Ev→List Ev
 | []=>[]
 | a :: l=>match firstsE l with
  | []=>[a]
  | b :: r=>if sameN a b = true then a :: r else a :: b :: r
theorem firstsE_head (a:Ev) (l:List Ev):∃ r,firstsE (a :: l) = a :: r:=by
 unfold firstsE
 split
 ·exact ⟨_,rfl⟩
 ·split <;> exact ⟨_,rfl⟩
def SortedD (l:List Ev):Prop:=l.Pairwise (fun a b=>¬ cmpD b a < 0)
theorem cmpD_ltE {a b:Ev}(h:a.dev = b.dev) (h2:a.seq = b.seq):cmpD a b = cmpE a b:=by
 unfold cmpD keyD cmpL
 rw[if_neg (by omega),if_neg (by omega)]
 unfold cmpL
 rw[if_neg (by omega),if_neg (by omega)]
 rfl
theorem between {a b c:Ev}(h1:¬ cmpD b a < 0) (h2:¬ cmpD c b < 0) (hd:a.dev = c.dev) (hs:a.seq = c.seq):b.dev = a.dev∧b.seq = a.seq:=by
 unfold cmpD keyD cmpL at h1 h2
 by_cases x1:b.dev < a.dev
 ·rw[if_pos x1] at h1;omega
 ·rw[if_neg x1] at h1
  by_cases x2:a.dev < b.dev
  ·rw[if_pos (show c.dev < b.dev by omega)] at h2;omega
  ·rw[if_neg x2] at h1
   rw[if_neg (by omega),if_neg (by omega)] at h2
   unfold cmpL at h1 h2
   by_cases y1:b.seq < a.seq
   ·rw[if_pos y1] at h1;omega
   ·by_cases y2:a.seq < b.seq
    ·rw[if_pos (show c.seq < b.seq by omega)] at h2;omega
    ·exact ⟨by omega,by omega⟩
theorem firstsE_spec:∀ {l:List Ev},SortedD l→(∀ x,x∈firstsE l↔Least l x)∧(firstsE l).Pairwise (fun a b=>sameN a b = false)
 | [],_=>⟨fun x=>by simp [firstsE,Least],List.Pairwise.nil⟩
 | a :: l,h=>by
  obtain ⟨h1,h2⟩:=List.pairwise_cons.1 h
  obtain ⟨i1,i2⟩:=firstsE_spec h2
  have hle:∀ y∈l,y.dev = a.dev→y.seq = a.seq→ltE y a = false:=fun y hy e1 e2=>by
   have:=h1 y hy
   rw[cmpD_ltE e1 e2] at this
   exact decide_eq_false this
  have hLa:Least (a :: l) a:=⟨by simp,fun y hy e1 e2=>by
   rcases List.mem_cons.1 hy with e | e
   ·subst e;exact ltE_irr _
   ·exact hle y e e1 e2⟩
   -- an event of another number is the least of the longer list just if it is of the shorter
  have other:∀ x,sameN a x = false→(Least (a :: l) x↔Least l x):=fun x hx=>by
   have hne:¬ (a.dev = x.dev∧a.seq = x.seq):=fun hh=>by rw[sameN_iff.2 hh] at hx;cases hx
   constructor
   ·rintro ⟨m1,m2⟩
    refine ⟨?_,fun y hy=>m2 y (by simp [hy])⟩
    rcases List.mem_cons.1 m1 with e | e
    ·subst e;exact absurd ⟨rfl,rfl⟩ hne
    ·exact e
   ·rintro ⟨m1,m2⟩
    refine ⟨by simp [m1],fun y hy e1 e2=>?_⟩
    rcases List.mem_cons.1 hy with e | e
    ·subst e;exact absurd ⟨e1,e2⟩ hne
    ·exact m2 y e e1 e2
  have same:∀ x,sameN a x = true→Least (a :: l) x→x = a:=fun x hx hL=>by
   obtain ⟨e1,e2⟩:=sameN_iff.1 hx
   have p1:=hL.2 a (by simp) e1 e2
   have p2:=hLa.2 x hL.1 e1.symm e2.symm
   exact ltE_total p2 p1
  unfold firstsE
  cases hf:firstsE l with
  | nil =>
   have hl:l = []:=by
    cases l with
    | nil=>rfl
    | cons b r=>obtain ⟨q,hq⟩:=firstsE_head b r;rw[hq] at hf;cases hf
   subst hl
   refine ⟨fun x=>?_,by simp⟩
   simp
   constructor
   ·rintro rfl;exact hLa
   ·intro hL;simpa using hL.1
  | cons b r =>
   have hbl:l ≠ []:=by rintro rfl;simp [firstsE] at hf
   obtain ⟨c,l',rfl⟩:=List.exists_cons_of_ne_nil hbl
   have hbc:b = c:=by
    obtain ⟨q,hq⟩:=firstsE_head c l'
    rw[hq] at hf;cases hf;rfl
   subst hbc
   rw[hf] at i1 i2
   obtain ⟨j1,j2⟩:=List.pairwise_cons.1 i2
     -- all later firsts are of another number than a
   have hr:∀ x∈r,sameN a x = false:=fun x hx=>by
    cases hs:sameN a x
    ·rfl
    ·obtain ⟨e1,e2⟩:=sameN_iff.1 hs
     have hxl:x∈b :: l':=((i1 x).1 (by simp [hx])).1
     have hxb:x∈l':=by
      rcases List.mem_cons.1 hxl with e | e
      ·subst e;have:=j1 x hx
       rw[sameN_iff.2 ⟨rfl,rfl⟩] at this;cases this
      ·exact e
     have hb1:=h1 b (by simp)
     have hb2:=(List.pairwise_cons.1 h2).1 x hxb
     obtain ⟨f1,f2⟩:=between hb1 hb2 e1 e2
     have:=j1 x hx
     rw[sameN_iff.2 ⟨by omega,by omega⟩] at this;cases this
   dsimp only
   by_cases hs:sameN a b = true
   ·rw[if_pos hs]
    refine ⟨fun x=>?_,List.pairwise_cons.2 ⟨hr,j2⟩⟩
    simp only[List.mem_cons]
    constructor
    ·rintro (rfl | hx)
     ·exact hLa
     ·exact (other x (hr x hx)).2 ((i1 x).1 (by simp [hx]))
    ·intro hL
     cases hsx:sameN a x
     ·have:=(i1 x).2 ((other x hsx).1 hL)
      rcases List.mem_cons.1 this with e | e
      ·subst e;rw[hs] at hsx;cases hsx
      ·exact .inr e
     ·exact .inl (same x hsx hL)
   ·rw[if_neg hs]
    have hs:sameN a b = false:=by cases h:sameN a b;rfl;exact absurd h hs
    refine ⟨fun x=>?_,List.pairwise_cons.2 ⟨fun x hx=>?_,i2⟩⟩
    ·rw[List.mem_cons]
     constructor
     ·rintro (rfl | hx)
      ·exact hLa
      ·have hsx:sameN a x = false:=by
        rcases List.mem_cons.1 hx with e | e
        ·subst e;exact hs
        ·exact hr x e
       exact (other x hsx).2 ((i1 x).1 hx)
     ·intro hL
      cases hsx:sameN a x
      ·exact .inr ((i1 x).2 ((other x hsx).1 hL))
      ·exact .inl (same x hsx hL)
    ·rcases List.mem_cons.1 hx with e | e
     ·subst e;exact hs
     ·exact hr x e
theorem isSet_sorted {l d r:List Ev}(hp:∀ x,x∈d↔x∈l) (hs:SortedD d) (hr:∀ x,x∈r↔x∈firstsE d) (hnd:r.Pairwise (fun a b=>ltE b a = false)) (hn:r.Nodup):IsSet l r:=by
 obtain ⟨f1,_⟩:=firstsE_spec hs
 have h1:IsSet d r:=by
  refine ⟨?_,fun x=>(hr x).trans (f1 x)⟩
  have hn':r.Pairwise (fun a b=>a ≠ b):=hn
  refine List.Pairwise.imp (fun {a b} h=>?_) (hnd.and hn')
  cases hc:ltE a b
  ·exact absurd (ltE_total hc h.1) h.2
  ·rfl
 exact h1.congr hp
/-! The reference's way. -/
def dropN (l:List Ev) (e:Ev):List Ev:=l.filter (fun x=>!sameN x e)
def lesserE (l:List Ev) (e:Ev):Ev:=l.foldl (fun e x=>if sameN x e = true∧ltE x e = true then x else e) e
def insE:List Ev→Ev→List Ev
 | [],e=>[e]
 | a :: l,e=>if ltE a e = true then a :: insE l e else e :: a :: l
theorem insE_mem {e x:Ev}:∀ {l:List Ev},x∈insE l e↔x = e∨x∈l
 | []=>by simp [insE]
 | a :: l=>by
  unfold insE
  split
  ·simp only[List.mem_cons,insE_mem (l:=l)]
   constructor
   ·rintro (h | h | h)
    ·exact .inr (.inl h)
    ·exact .inl h
    ·exact .inr (.inr h)
   ·rintro (h | h | h)
    ·exact .inr (.inl h)
    ·exact .inl h
    ·exact .inr (.inr h)
  ·simp
theorem insE_sorted {e:Ev}:∀ {l:List Ev},SortedE l→e ∉ l→SortedE (insE l e)
 | [],_,_=>List.pairwise_singleton _ _
 | a :: l,h,hn=>by
  obtain ⟨h1,h2⟩:=List.pairwise_cons.1 h
  simp only[List.mem_cons,not_or] at hn
  unfold insE
  split
  ·rename_i hae
   refine List.pairwise_cons.2 ⟨fun x hx=>?_,insE_sorted h2 hn.2⟩
   rcases insE_mem.1 hx with e1 | e1
   ·subst e1;exact hae
   ·exact h1 x e1
  ·rename_i hae
   have hea:ltE e a = true:=by
    cases hc:ltE e a
    ·exact absurd (ltE_total hc (by cases h:ltE a e;rfl;exact absurd h hae)) hn.1
    ·rfl
   refine List.pairwise_cons.2 ⟨fun x hx=>?_,h⟩
   rcases List.mem_cons.1 hx with e1 | e1
   ·subst e1;exact hea
   ·exact ltE_trans hea (h1 x e1)
theorem lesserE_spec:∀ (l:List Ev) (e:Ev),sameN (lesserE l e) e = true∧(lesserE l e = e∨lesserE l e∈l)∧ltE e (lesserE l e) = false∧∀ x∈l,sameN x e = true→ltE x (lesserE l e) = false
 | [],e=>⟨by simp [lesserE,sameN],.inl rfl,ltE_irr e,fun x hx=>by cases hx⟩
 | a :: l,e=>by
  by_cases hc:sameN a e = true∧ltE a e = true
  ·have hl:lesserE (a :: l) e = lesserE l a:=by unfold lesserE;rw[List.foldl_cons,if_pos hc]
   rw[hl]
   obtain ⟨h1,h2,h3,h4⟩:=lesserE_spec l a
   obtain ⟨s1,s2⟩:=sameN_iff.1 hc.1
   obtain ⟨t1,t2⟩:=sameN_iff.1 h1
   have hem:ltE e (lesserE l a) = false:=by
    cases hx:ltE e (lesserE l a)
    ·rfl
    ·have:=ltE_trans hc.2 hx;rw[h3] at this;cases this
   refine ⟨sameN_iff.2 ⟨by omega,by omega⟩,.inr ?_,hem,fun x hx hs=>?_⟩
   ·rcases h2 with e1 | e1
    ·rw[e1];simp
    ·simp [e1]
   ·rcases List.mem_cons.1 hx with e1 | e1
    ·subst e1;exact h3
    ·obtain ⟨u1,u2⟩:=sameN_iff.1 hs
     exact h4 x e1 (sameN_iff.2 ⟨by omega,by omega⟩)
  ·have hl:lesserE (a :: l) e = lesserE l e:=by unfold lesserE;rw[List.foldl_cons,if_neg hc]
   rw[hl]
   obtain ⟨h1,h2,h3,h4⟩:=lesserE_spec l e
   refine ⟨h1,?_,h3,fun x hx hs=>?_⟩
   ·rcases h2 with e1 | e1
    ·exact .inl e1
    ·exact .inr (by simp [e1])
   ·rcases List.mem_cons.1 hx with e1 | e1
    ·subst e1
     cases hx:ltE x (lesserE l e)
     ·rfl
     ·have hxe:ltE x e = false:=by
       cases h:ltE x e
       ·rfl
       ·exact absurd ⟨hs,h⟩ hc
      cases hme:ltE (lesserE l e) e
      ·rw[ltE_total hme h3] at hx;rw[hxe] at hx;cases hx
      ·have:=ltE_trans hx hme;rw[hxe] at this;cases this
    ·exact h4 x e1 hs
def withE (r:List Ev) (e:Ev):List Ev:=insE (dropN r e) (lesserE r e)
theorem isSet_with {l r:List Ev}{e:Ev}(h:IsSet l r):IsSet (l ++ [e]) (withE r e):=by
 obtain ⟨h1,h2,h3,h4⟩:=lesserE_spec r e
 obtain ⟨hs,hm⟩:=h
 obtain ⟨s1,s2⟩:=sameN_iff.1 h1
 have hdrop:∀ x,x∈dropN r e↔x∈r∧sameN x e = false:=fun x=>by simp [dropN]
 refine ⟨insE_sorted (List.Pairwise.filter _ hs) (fun hx=>by rw[((hdrop _).1 hx).2] at h1;cases h1),fun x=>?_⟩
 unfold withE
 rw[insE_mem,hdrop,hm]
 -- the new least event of this number
 have hM:Least (l ++ [e]) (lesserE r e):=by
  refine ⟨?_,fun y hy e1 e2=>?_⟩
  ·rcases h2 with h | h
   ·rw[h];simp
   ·have:=((hm _).1 h).1;simp [this]
  ·rcases List.mem_append.1 hy with hy | hy
   ·obtain ⟨z,hz,z1,z2,z3⟩:=least_exists hy
    have hzr:=(hm z).2 hz
    have hzm:=h4 z hzr (sameN_iff.2 ⟨by omega,by omega⟩)
    rcases z3 with z3 | z3
    ·cases hc:ltE y (lesserE r e)
     ·rfl
     ·have:=ltE_trans z3 hc;rw[hzm] at this;cases this
    ·rw[←z3];exact hzm
   ·simp at hy;rw[hy];exact h3
 constructor
 ·rintro (rfl | ⟨hL,hx⟩)
  ·exact hM
  ·refine ⟨by simp [hL.1],fun y hy e1 e2=>?_⟩
   rcases List.mem_append.1 hy with hy | hy
   ·exact hL.2 y hy e1 e2
   ·simp at hy;subst hy
    rw[sameN_iff.2 ⟨e1.symm,e2.symm⟩] at hx;cases hx
 ·intro hL
  cases hx:sameN x e
  ·right
   refine ⟨⟨?_,fun y hy=>hL.2 y (by simp [hy])⟩,rfl⟩
   rcases List.mem_append.1 hL.1 with h | h
   ·exact h
   ·simp at h;subst h
    rw[sameN_iff.2 ⟨rfl,rfl⟩] at hx;cases hx
  ·left
   obtain ⟨e1,e2⟩:=sameN_iff.1 hx
   exact ltE_total (hM.2 x hL.1 (by omega) (by omega)) (hL.2 _ hM.1 (by omega) (by omega))
def setE (l:List Ev):List Ev:=l.foldl withE []
theorem isSet_setE:∀ l,IsSet l (setE l):=by
 have key:∀ (l m r:List Ev),IsSet m r→IsSet (m ++ l) (l.foldl withE r):=by
  intro l
  induction l with
  | nil=>intro m r h;simpa using h
  | cons a l ih =>
   intro m r h
   have:=ih (m ++ [a]) (withE r a) (isSet_with h)
   simpa using this
 intro l
 have:=key l [] [] ⟨List.Pairwise.nil,fun x=>by simp [Least]⟩
 show IsSet l (l.foldl withE [])
 simpa using this
end Go.Proofs.YtdpoppilnokniaaGreatDoor
namespace Go.Proofs.YtdpoppilnokniaaGreatDoor
set_option linter.unusedVariables false
set_option linter.unusedSimpArgs false
theorem sameN_comm (a b:Ev):sameN a b = sameN b a:=by
 unfold sameN
 rw[decide_eq_decide.2 (⟨Eq.symm,Eq.symm⟩:a.dev = b.dev↔b.dev = a.dev),decide_eq_decide.2 (⟨Eq.symm,Eq.symm⟩:a.seq = b.seq↔b.seq = a.seq)]
theorem firstsE_cons (c:Ev) (l:List Ev) {d:Ev}{r:List Ev}(h:firstsE l = d :: r):firstsE (c :: l) = if sameN c d = true then c :: r else c :: d :: r:=by
 rw[firstsE,h]
theorem firstsE_snoc:∀ (l:List Ev) (a x:Ev),firstsE (l ++ [a,x]) = if sameN a x = true then firstsE (l ++ [a]) else firstsE (l ++ [a]) ++ [x]
 | [],a,x=>by
  have h1:firstsE [x] = x :: []:=rfl
  rw[List.nil_append,firstsE_cons a [x] h1]
  split <;> rfl
 | c :: l,a,x=>by
  have ih:=firstsE_snoc l a x
  obtain ⟨d,r,hd⟩:∃ d r,firstsE (l ++ [a]) = d :: r:=by
   cases l with
   | nil=>exact ⟨a,[],rfl⟩
   | cons b l'=>obtain ⟨q,hq⟩:=firstsE_head b (l' ++ [a]);exact ⟨b,q,hq⟩
  rw[List.cons_append,List.cons_append,firstsE_cons c _ hd]
  by_cases hs:sameN a x = true
  ·rw[if_pos hs] at ih ⊢
   rw[firstsE_cons c _ (ih.trans hd)]
  ·rw[if_neg hs] at ih ⊢
   rw[hd,List.cons_append] at ih
   rw[firstsE_cons c _ ih]
   split <;> rfl
theorem firsts_step (F:Nat→Ev) {q:Nat}(hq:0 < q):firstsE (ents F (q+1)) = if sameN (F (q - 1)) (F q) = true then firstsE (ents F q) else firstsE (ents F q) ++ [F q]:=by
 obtain ⟨p,rfl⟩:∃ p,q = p+1:=⟨q - 1,by omega⟩
 rw[ents_succ F (p+1),ents_succ F p,List.append_assoc,Nat.add_sub_cancel]
 exact firstsE_snoc (ents F p) (F p) (F (p+1))
theorem firsts_few (F:Nat→Ev) {n:Nat}(h:n < 2):firstsE (ents F n) = ents F n:=by
 have:n = 0∨n = 1:=by omega
 rcases this with rfl | rfl <;> rfl
theorem pairwise_ents {α:Type}{R:α→α→Prop}{F:Nat→α}{n:Nat}(h:∀ i j,i < j→j < n→R (F i) (F j)):(ents F n).Pairwise R:=by
 rw[List.pairwise_iff_getElem]
 intro i j hi hj hij
 simp only[ents,List.length_map,List.length_range] at hi hj
 simp only[ents,List.getElem_map,List.getElem_range]
 exact h i j hij hj
theorem set_of_sorts {l:List Ev}{D R:Nat→Ev}{n m:Nat}(h1:(ents D n).Perm l) (h2:∀ i j,i < j→j < n→¬ cmpD (D j) (D i) < 0) (h3:(ents R m).Perm (firstsE (ents D n))) (h4:∀ i j,i < j→j < m→ltE (R j) (R i) = false):ents R m = setE l:=by
 have hs:SortedD (ents D n):=pairwise_ents h2
 have hf:=(firstsE_spec hs).2
 have hn:(ents R m).Nodup:=by
  refine (h3.nodup_iff).2 ?_
  refine List.Pairwise.imp (fun {a b} h e=>?_) hf
  subst e
  rw[sameN_iff.2 ⟨rfl,rfl⟩] at h;cases h
 exact (isSet_sorted (fun x=>h1.mem_iff) hs (fun x=>h3.mem_iff) (pairwise_ents h4) hn).unique (isSet_setE l)
theorem insE_len (e:Ev):∀ l:List Ev,(insE l e).length = l.length+1
 | []=>rfl
 | a :: l=>by
  unfold insE
  split
  ·simp [insE_len e l]
  ·simp
theorem withE_len (r:List Ev) (e:Ev):(withE r e).length≤r.length+1:=by
 unfold withE
 rw[insE_len]
 exact Nat.succ_le_succ (List.length_filter_le _ _)
theorem foldl_withE_len:∀ (l r:List Ev),(l.foldl withE r).length≤r.length+l.length
 | [],r=>by simp
 | a :: l,r=>by
  have h1:=foldl_withE_len l (withE r a)
  have h2:=withE_len r a
  simp only[List.foldl_cons,List.length_cons]
  omega
theorem setE_len (l:List Ev):(setE l).length≤l.length:=by
 have:=foldl_withE_len l []
 simpa [setE] using this
end Go.Proofs.YtdpoppilnokniaaGreatDoor
namespace Go.Proofs.YtdpoppilnokniaaGreatDoor
set_option linter.unusedVariables false
theorem mem_setE {l:List Ev}{x:Ev}:x∈setE l↔Least l x:=(isSet_setE l).2 x
end Go.Proofs.YtdpoppilnokniaaGreatDoor
