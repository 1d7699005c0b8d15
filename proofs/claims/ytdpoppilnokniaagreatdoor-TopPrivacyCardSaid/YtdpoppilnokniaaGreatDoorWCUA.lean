/- Theorems of this seat. -/
import Derived.Test.YtdpoppilnokniaaGreatDoorWBB
import Derived.Test.YtdpoppilnokniaaGreatDoorWC
namespace Go.Proofs.YtdpoppilnokniaaGreatDoor
set_option linter.unusedVariables false
set_option linter.unusedSimpArgs false
structure Sp where
 wh:Int
 pl:Int
 rd:Int
 ps:Bool
structure Tr where
 id:Int
 rider:Int
 bike:Int
 opn:Bool
structure CSt where
 F:Nat→Sp
 k:Nat
 G:Nat→Tr
def parkB (x:Sp):Bool:=decide (x.wh = 1) || decide (x.wh = 2)
def cntN (F:Nat→Sp) (wh pl:Int):Nat→Nat
 | 0=>0
 | n+1=>cntN F wh pl n+if (F n).wh = wh∧(F n).pl = pl then 1 else 0
theorem cntN_le (F:Nat→Sp) (wh pl:Int):∀ n,cntN F wh pl n≤n
 | 0=>Nat.le_refl _
 | n+1=>by have:=cntN_le F wh pl n;unfold cntN;split <;> omega
def findI (G:Nat→Tr) (id:Int):Nat→Int
 | 0=>-1
 | k+1=>if 0≤findI G id k then findI G id k else if (G k).id = id then (k:Int) else -1
theorem findI_no {G:Nat→Tr}{id:Int}:∀ {k:Nat},(∀ j,j < k→(G j).id ≠ id)→findI G id k = -1
 | 0,_=>rfl
 | k+1,h=>by
  rw[findI,findI_no (k:=k) (fun j hj=>h j (by omega)),if_neg (by omega),if_neg (h k (by omega))]
theorem findI_yes {G:Nat→Tr}{id:Int}:∀ {k i:Nat},i < k→(∀ j,j < i→(G j).id ≠ id)→(G i).id = id→findI G id k = (i:Int)
 | k+1,i,hi,hn,he=>by
  rcases Nat.lt_or_ge i k with h | h
  ·have:=findI_yes (k:=k) h hn he
   rw[findI,this,if_pos (by omega)]
  ·obtain rfl:i = k:=by omega
   rw[findI,findI_no hn,if_neg (by omega),if_pos he]
theorem findI_spec {G:Nat→Tr}{id:Int}:∀ {k:Nat},(findI G id k = -1∧∀ j,j < k→(G j).id ≠ id)∨(∃ i:Nat,findI G id k = (i:Int)∧i < k∧(G i).id = id∧∀ j,j < i→(G j).id ≠ id)
 | 0=>.inl ⟨rfl,fun j hj=>absurd hj (by omega)⟩
 | k+1=>by
  rcases findI_spec (G:=G) (id:=id) (k:=k) with ⟨h1,h2⟩ | ⟨i,h1,h2,h3,h4⟩
  ·by_cases he:(G k).id = id
   ·exact .inr ⟨k,findI_yes (by omega) h2 he,by omega,he,h2⟩
   ·have h3:∀ j,j < k+1→(G j).id ≠ id:=fun j hj=>by
     rcases Nat.lt_or_ge j k with h | h
     ·exact h2 j h
     ·obtain rfl:j = k:=by omega
      exact he
    exact .inl ⟨findI_no h3,h3⟩
  ·exact .inr ⟨i,findI_yes (by omega) h4 h3,by omega,h3,h4⟩
def ridesB (G:Nat→Tr) (rider:Int):Nat→Bool
 | 0=>false
 | k+1=>ridesB G rider k || ((G k).opn && decide ((G k).rider = rider))
theorem ridesB_iff {G:Nat→Tr}{rider:Int}:∀ {k:Nat},ridesB G rider k = true↔∃ i,i < k∧(G i).opn = true∧(G i).rider = rider
 | 0=>by simp [ridesB]
 | k+1=>by
  rw[ridesB,Bool.or_eq_true,ridesB_iff (k:=k),Bool.and_eq_true,decide_eq_true_iff]
  constructor
  ·rintro (⟨i,h1,h2⟩ | h)
   ·exact ⟨i,by omega,h2⟩
   ·exact ⟨k,by omega,h⟩
  ·rintro ⟨i,h1,h2⟩
   rcases Nat.lt_or_ge i k with h | h
   ·exact .inl ⟨i,h,h2⟩
   ·obtain rfl:i = k:=by omega
    exact .inr h2
def faultK (f:Fl) (s:CSt) (e:Ev):Int :=
 if e.kind = 1 then (if parkB (s.F e.bike.toNat) = true then 23 else if 0 < cntN s.F 1 e.place f.bikes.toNat then 22 else 0)
 else if e.kind = 2 then (if parkB (s.F e.bike.toNat) = true then 23 else 0)
 else if e.kind = 3 then (if parkB (s.F e.bike.toNat) = false then 23 else if 0≤findI s.G e.ride s.k then 6 else if ridesB s.G e.rider s.k = true then 22 else 0)
 else if e.kind = 4 then (if findI s.G e.ride s.k < 0∨(s.G (findI s.G e.ride s.k).toNat).opn = false then 7 else if parkB (s.F e.bike.toNat) = false then 23 else if (s.F (s.G (findI s.G e.ride s.k).toNat).bike.toNat).ps = true then 12 else 0)
 else if e.kind = 5 then (if (s.F e.bike.toNat).wh ≠ 3 then 23 else if (s.F e.bike.toNat).ps = true then 12 else 0)
 else if e.kind = 6 then (if (s.F e.bike.toNat).wh ≠ 3 then 23 else if (s.F e.bike.toNat).ps = false then 12 else 0)
 else if e.kind = 7 then (if (s.F e.bike.toNat).wh = 3∨(s.F e.bike.toNat).wh = 4 then 23 else if f.T e.place.toNat≤cntN s.F 4 e.place f.bikes.toNat then 24 else 0)
 else if e.kind = 8 then (if (s.F e.bike.toNat).wh = 3∨(s.F e.bike.toNat).wh = 5 then 23 else 0)
 else if e.kind = 9 then (if (s.F e.bike.toNat).wh = 5∨(s.F e.bike.toNat).wh = 6 then 23 else 0)
 else 0
def faultE (f:Fl) (s:CSt) (e:Ev):Int:=if checkE f e ≠ 0 then checkE f e else if e.kind = 10 then 0 else faultK f s e
def putS (s:CSt) (b:Nat) (x:Sp):CSt :=
 ⟨upd s.F b x,s.k,if (s.F b).wh = 3 then upd s.G (findI s.G (s.F b).rd s.k).toNat { s.G (findI s.G (s.F b).rd s.k).toNat with opn:=false } else s.G⟩
def applyK (s:CSt) (e:Ev):CSt :=
 if e.kind = 1 then putS s e.bike.toNat ⟨1,e.place,0,false⟩
 else if e.kind = 2 then putS s e.bike.toNat ⟨2,e.place,0,false⟩
 else if e.kind = 7 then putS s e.bike.toNat ⟨4,e.place,0,false⟩
 else if e.kind = 8 then putS s e.bike.toNat ⟨5,0,0,false⟩
 else if e.kind = 9 then putS s e.bike.toNat ⟨6,0,0,false⟩
 else if e.kind = 3 then ⟨upd s.F e.bike.toNat ⟨3,0,e.ride,false⟩,s.k+1,upd s.G s.k ⟨e.ride,e.rider,e.bike,true⟩⟩
 else if e.kind = 4 then ⟨upd (upd s.F (s.G (findI s.G e.ride s.k).toNat).bike.toNat (s.F e.bike.toNat)) e.bike.toNat ⟨3,0,e.ride,false⟩,s.k,upd s.G (findI s.G e.ride s.k).toNat { s.G (findI s.G e.ride s.k).toNat with bike:=e.bike }⟩
 else if e.kind = 5 then ⟨upd s.F e.bike.toNat { s.F e.bike.toNat with ps:=true },s.k,s.G⟩
 else if e.kind = 6 then ⟨upd s.F e.bike.toNat { s.F e.bike.toNat with ps:=false },s.k,s.G⟩
 else s
structure Inv (n:Nat) (s:CSt):Prop where
 one:∀ i j,i < s.k→j < s.k→(s.G i).id = (s.G j).id→i = j
 opn:∀ i,i < s.k→(s.G i).opn = true→∃ b:Nat,(s.G i).bike = (b:Int)∧b < n∧(s.F b).wh = 3∧(s.F b).rd = (s.G i).id
 rid:∀ b,b < n→(s.F b).wh = 3→∃ i,i < s.k∧(s.G i).id = (s.F b).rd∧(s.G i).opn = true∧(s.G i).bike = (b:Int)
theorem Inv.find {n:Nat}{s:CSt}(h:Inv n s) {i:Nat}(hi:i < s.k):findI s.G (s.G i).id s.k = (i:Int):=by
 rcases findI_spec (G:=s.G) (id:=(s.G i).id) (k:=s.k) with ⟨h1,h2⟩ | ⟨j,h1,h2,h3,h4⟩
 ·exact absurd rfl (h2 i hi)
 ·rw[h1,h.one j i h2 hi h3]
def startS:CSt:=⟨fun _=>⟨5,0,0,false⟩,0,fun _=>⟨0,0,0,false⟩⟩
theorem Inv.start (n:Nat):Inv n startS:=⟨fun i j hi=>absurd hi (by simp [startS]),fun i hi=>absurd hi (by simp [startS]),fun b _ h=>by simp [startS] at h⟩
theorem Inv.put {n:Nat}{s:CSt}(h:Inv n s) {b:Nat}(hb:b < n) {x:Sp}(hx:x.wh ≠ 3):Inv n (putS s b x):=by
 by_cases hw:(s.F b).wh = 3
 ·obtain ⟨i,hi,h1,h2,h3⟩:=h.rid b hb hw
  have hf:findI s.G (s.F b).rd s.k = (i:Int):=by rw[←h1];exact h.find hi
  have e:putS s b x = ⟨upd s.F b x,s.k,upd s.G i { s.G i with opn:=false }⟩:=by unfold putS;rw[if_pos hw,hf];rfl
  rw[e]
  have hid:∀ j,(upd s.G i { s.G i with opn:=false } j).id = (s.G j).id:=fun j=>by
   unfold upd
   split
   ·rename_i hj
    rw[hj]
   ·rfl
  refine ⟨fun j j' hj hj' he=>?_,fun j hj ho=>?_,fun b' hb' hw'=>?_⟩
  ·rw[hid,hid] at he
   exact h.one j j' hj hj' he
  ·have hji:j ≠ i:=fun e=>by subst e;simp [upd] at ho
   simp only[upd,if_neg hji] at ho ⊢
   obtain ⟨b',k1,k2,k3,k4⟩:=h.opn j hj ho
   refine ⟨b',k1,k2,?_⟩
   have:b' ≠ b:=fun e=>by
    subst e
    exact hji (h.one j i hj hi (by rw[←k4,h1]))
   simp only[if_neg this]
   exact ⟨k3,k4⟩
  ·have hne:b' ≠ b:=fun e=>by subst e;simp [upd] at hw';exact hx hw'
   simp only[upd,if_neg hne] at hw' ⊢
   obtain ⟨j,k1,k2,k3,k4⟩:=h.rid b' hb' hw'
   refine ⟨j,k1,?_⟩
   have:j ≠ i:=fun e=>by subst e;rw[h3] at k4;omega
   simp only[if_neg this]
   exact ⟨k2,k3,k4⟩
 ·have e:putS s b x = ⟨upd s.F b x,s.k,s.G⟩:=by unfold putS;rw[if_neg hw]
  rw[e]
  refine ⟨h.one,fun j hj ho=>?_,fun b' hb' hw'=>?_⟩
  ·obtain ⟨b',k1,k2,k3,k4⟩:=h.opn j hj ho
   refine ⟨b',k1,k2,?_⟩
   have:b' ≠ b:=fun e=>by subst e;exact hw k3
   simp only[upd,if_neg this]
   exact ⟨k3,k4⟩
  ·have hne:b' ≠ b:=fun e=>by subst e;simp [upd] at hw';exact hx hw'
   simp only[upd,if_neg hne] at hw' ⊢
   exact h.rid b' hb' hw'
theorem parkB_iff {x:Sp}:parkB x = true↔x.wh = 1∨x.wh = 2:=by simp [parkB]
theorem Inv.begin {n:Nat}{s:CSt}(h:Inv n s) {b:Nat}(hb:b < n) (hp:(s.F b).wh ≠ 3) {id rider:Int}(hf:findI s.G id s.k < 0) (ps:Bool):Inv n ⟨upd s.F b ⟨3,0,id,ps⟩,s.k+1,upd s.G s.k ⟨id,rider,(b:Int),true⟩⟩:=by
 have hno:∀ j,j < s.k→(s.G j).id ≠ id:=by
  rcases findI_spec (G:=s.G) (id:=id) (k:=s.k) with ⟨_,h2⟩ | ⟨j,h1,_⟩
  ·exact h2
  ·omega
 refine ⟨fun i j hi hj he=>?_,fun j hj ho=>?_,fun b' hb' hw'=>?_⟩
 ·simp only[upd] at he
  simp only at hi hj
  split at he <;> split at he
  ·omega
  ·exact absurd he.symm (hno j (by omega))
  ·exact absurd he (hno i (by omega))
  ·exact h.one i j (by omega) (by omega) he
 ·simp only[upd] at ho ⊢
  simp only at hj
  by_cases hjk:j = s.k
  ·simp only[if_pos hjk]
   exact ⟨b,rfl,hb,by simp⟩
  ·simp only[if_neg hjk] at ho ⊢
   obtain ⟨b',k1,k2,k3,k4⟩:=h.opn j (by omega) ho
   have:b' ≠ b:=fun e=>by subst e;exact hp k3
   exact ⟨b',k1,k2,by simp only[if_neg this];exact ⟨k3,k4⟩⟩
 ·by_cases hbb:b' = b
  ·subst hbb
   exact ⟨s.k,by simp,by simp [upd]⟩
  ·simp only[upd,if_neg hbb] at hw' ⊢
   obtain ⟨j,k1,k2,k3,k4⟩:=h.rid b' hb' hw'
   have:j ≠ s.k:=by omega
   refine ⟨j,by omega,?_⟩
   simp only[if_neg this]
   exact ⟨k2,k3,k4⟩
theorem Inv.swap {n:Nat}{s:CSt}(h:Inv n s) {b:Nat}(hb:b < n) (hp:(s.F b).wh ≠ 3) {i:Nat}(hi:i < s.k) (ho:(s.G i).opn = true) (ps:Bool) :
  Inv n ⟨upd (upd s.F (s.G i).bike.toNat (s.F b)) b ⟨3,0,(s.G i).id,ps⟩,s.k,upd s.G i { s.G i with bike:=(b:Int) }⟩:=by
 obtain ⟨a,a1,a2,a3,a4⟩:=h.opn i hi ho
 have hab:a ≠ b:=fun e=>by subst e;exact hp a3
 rw[a1,Int.toNat_natCast]
 have hid:∀ j,(upd s.G i { s.G i with bike:=(b:Int) } j).id = (s.G j).id:=fun j=>by
   unfold upd
   split
   ·rename_i hj
    rw[hj]
   ·rfl
 refine ⟨fun j j' hj hj' he=>?_,fun j hj hoj=>?_,fun b' hb' hw'=>?_⟩
 ·rw[hid,hid] at he
  exact h.one j j' hj hj' he
 ·by_cases hji:j = i
  ·subst hji
   exact ⟨b,by simp [upd],hb,by simp [upd],by simp [upd]⟩
  ·simp only[upd,if_neg hji] at hoj ⊢
   obtain ⟨b',k1,k2,k3,k4⟩:=h.opn j hj hoj
   have n1:b' ≠ b:=fun e=>by subst e;exact hp k3
   have n2:b' ≠ a:=fun e=>by
    subst e
    exact hji (h.one j i hj hi (by rw[←k4,a4]))
   refine ⟨b',k1,k2,?_⟩
   simp only[if_neg n1,if_neg n2]
   exact ⟨k3,k4⟩
 ·by_cases hbb:b' = b
  ·subst hbb
   exact ⟨i,hi,by simp [upd],by simp [upd,ho],by simp [upd]⟩
  ·simp only[upd,if_neg hbb] at hw' ⊢
   by_cases hba:b' = a
   ·subst hba
    simp only[if_pos] at hw'
    exact absurd hw' hp
   ·simp only[if_neg hba] at hw' ⊢
    obtain ⟨j,k1,k2,k3,k4⟩:=h.rid b' hb' hw'
    have:j ≠ i:=fun e=>by subst e;rw[a1] at k4;omega
    refine ⟨j,k1,?_⟩
    simp only[if_neg this]
    exact ⟨k2,k3,k4⟩
theorem Inv.pause {n:Nat}{s:CSt}(h:Inv n s) (b:Nat) (ps:Bool):Inv n ⟨upd s.F b { s.F b with ps:=ps },s.k,s.G⟩:=by
 have hw:∀ b',(upd s.F b { s.F b with ps:=ps } b').wh = (s.F b').wh∧(upd s.F b { s.F b with ps:=ps } b').rd = (s.F b').rd:=fun b'=>by
  unfold upd
  split
  ·rename_i hj
   subst hj
   exact ⟨rfl,rfl⟩
  ·exact ⟨rfl,rfl⟩
 refine ⟨h.one,fun j hj ho=>?_,fun b' hb' hw'=>?_⟩
 ·obtain ⟨b',k1,k2,k3,k4⟩:=h.opn j hj ho
  exact ⟨b',k1,k2,by rw[(hw b').1];exact k3,by rw[(hw b').2];exact k4⟩
 ·rw[(hw b').1] at hw'
  obtain ⟨j,k1,k2,k3,k4⟩:=h.rid b' hb' hw'
  exact ⟨j,k1,by rw[(hw b').2];exact k2,k3,k4⟩
theorem bike_in {f:Fl}{e:Ev}(h:checkE f e = 0):0≤e.bike∧e.bike < f.bikes:=by
 unfold checkE at h
 split at h
 ·rename_i h1;exact absurd h h1
 split at h
 ·simp at h
 split at h
 ·simp at h
 split at h
 ·simp at h
 rename_i hb
 have hb:(inB e.bike 0 (f.bikes - 1) && !(decide (e.kind = 10) && !decide (e.bike = 0))) = true:=by
  cases hh:(inB e.bike 0 (f.bikes - 1) && !(decide (e.kind = 10) && !decide (e.bike = 0)))
  ·exact absurd hh hb
  ·rfl
 rw[Bool.and_eq_true] at hb
 have:=inB_iff.1 hb.1
 omega
theorem kind_in {f:Fl}{e:Ev}(h:checkE f e = 0):1≤e.kind∧e.kind≤10:=by
 unfold checkE at h
 split at h
 ·rename_i h1;exact absurd h h1
 split at h
 ·simp at h
 split at h
 ·simp at h
 rename_i hb
 exact inB_iff.1 (by simpa using hb)
theorem Inv.step {f:Fl}{s:CSt}{e:Ev}(h:Inv f.bikes.toNat s) (hc:checkE f e = 0) (hf:faultK f s e = 0):Inv f.bikes.toNat (applyK s e):=by
 obtain ⟨b1,b2⟩:=bike_in hc
 have hb:e.bike.toNat < f.bikes.toNat:=by omega
 have hcast:((e.bike.toNat:Nat):Int) = e.bike:=by omega
 unfold applyK
 unfold faultK at hf
 split
 ·exact h.put hb (by simp)
 split
 ·exact h.put hb (by simp)
 split
 ·exact h.put hb (by simp)
 split
 ·exact h.put hb (by simp)
 split
 ·exact h.put hb (by simp)
 rename_i n1 n2 n7 n8 n9
 rw[if_neg n1,if_neg n2] at hf
 split
 ·rename_i n3
  rw[if_pos n3] at hf
  split at hf
  ·simp at hf
  split at hf
  ·simp at hf
  rename_i p1 p2
  rw[←hcast]
  refine h.begin hb ?_ (by omega) false
  have:parkB (s.F e.bike.toNat) = true:=by simpa using p1
  rw[parkB_iff] at this
  omega
 rename_i n3
 rw[if_neg n3] at hf
 split
 ·rename_i n4
  rw[if_pos n4] at hf
  split at hf
  ·simp at hf
  split at hf
  ·simp at hf
  rename_i p1 p2
  have hp:(s.F e.bike.toNat).wh ≠ 3:=by
   have:parkB (s.F e.bike.toNat) = true:=by simpa using p2
   rw[parkB_iff] at this
   omega
  rcases findI_spec (G:=s.G) (id:=e.ride) (k:=s.k) with ⟨q1,_⟩ | ⟨i,q1,q2,q3,_⟩
  ·exact absurd (.inl (by omega)) p1
  ·rw[q1,Int.toNat_natCast] at p1 ⊢
   have ho:(s.G i).opn = true:=by
    cases hh:(s.G i).opn
    ·exact absurd (.inr hh) p1
    ·rfl
   have:=h.swap hb hp q2 ho false
   rw[q3,hcast] at this
   exact this
 split
 ·exact h.pause _ _
 split
 ·exact h.pause _ _
 exact h
/-! A run. -/
def stepE (f:Fl) (a:CSt×List Ev) (e:Ev):CSt×List Ev:=if checkE f e = 0∧e.kind ≠ 10∧faultK f a.1 e = 0 then (applyK a.1 e,a.2 ++ [e]) else a
def runE (f:Fl) (l:List Ev):CSt×List Ev:=(setE l).foldl (stepE f) (startS,[])
theorem step_no {f:Fl}{a:CSt×List Ev}{e:Ev}(h:checkE f e ≠ 0∨e.kind = 10∨faultK f a.1 e ≠ 0):stepE f a e = a:=by
 unfold stepE
 rw[if_neg]
 rintro ⟨h1,h2,h3⟩
 rcases h with h | h | h
 ·exact h h1
 ·exact h2 h
 ·exact h h3
theorem step_yes {f:Fl}{a:CSt×List Ev}{e:Ev}(h1:checkE f e = 0) (h2:e.kind ≠ 10) (h3:faultK f a.1 e = 0):stepE f a e = (applyK a.1 e,a.2 ++ [e]):=by
 unfold stepE
 rw[if_pos ⟨h1,h2,h3⟩]
theorem Inv.stepE {f:Fl}{a:CSt×List Ev}(h:Inv f.bikes.toNat a.1) (e:Ev):Inv f.bikes.toNat (stepE f a e).1:=by
 unfold Go.Proofs.YtdpoppilnokniaaGreatDoor.stepE
 split
 ·rename_i hh
  exact h.step hh.1 hh.2.2
 ·exact h
theorem Inv.fold {f:Fl}:∀ (l:List Ev) {a:CSt×List Ev},Inv f.bikes.toNat a.1→Inv f.bikes.toNat (l.foldl (Go.Proofs.YtdpoppilnokniaaGreatDoor.stepE f) a).1
 | [],_,h=>h
 | e :: l,_,h=>Inv.fold l (h.stepE e)
theorem Inv.run (f:Fl) (l:List Ev):Inv f.bikes.toNat (runE f l).1:=Inv.fold _ (Inv.start _)
end Go.Proofs.YtdpoppilnokniaaGreatDoor
namespace Go.Proofs.YtdpoppilnokniaaGreatDoor
set_option linter.unusedVariables false
set_option linter.unusedSimpArgs false
def Path (f:Fl):CSt→List Ev→Prop
 | _,[]=>True
 | s,e :: l=>checkE f e = 0∧e.kind ≠ 10∧faultK f s e = 0∧Path f (applyK s e) l
theorem path_snoc {f:Fl}:∀ {l:List Ev}{s:CSt}{e:Ev},Path f s l→checkE f e = 0→e.kind ≠ 10→faultK f (l.foldl applyK s) e = 0→Path f s (l ++ [e])
 | [],_,_,_,h1,h2,h3=>⟨h1,h2,h3,trivial⟩
 | x :: l,_,_,h,h1,h2,h3=>⟨h.1,h.2.1,h.2.2.1,path_snoc (l:=l) h.2.2.2 h1 h2 h3⟩
theorem fold_path {f:Fl}{s0:CSt}:∀ (l:List Ev) (a:CSt×List Ev),Path f s0 a.2→a.1 = a.2.foldl applyK s0→Path f s0 (l.foldl (stepE f) a).2∧(l.foldl (stepE f) a).1 = (l.foldl (stepE f) a).2.foldl applyK s0
 | [],a,h1,h2=>⟨h1,h2⟩
 | e :: l,a,h1,h2=>by
  rw[List.foldl_cons]
  by_cases h:checkE f e = 0∧e.kind ≠ 10∧faultK f a.1 e = 0
  ·rw[step_yes h.1 h.2.1 h.2.2]
   refine fold_path l _ (path_snoc h1 h.1 h.2.1 (by rw[←h2];exact h.2.2)) ?_
   rw[List.foldl_append,←h2];rfl
  ·have:stepE f a e = a:=by unfold stepE;rw[if_neg h]
   rw[this]
   exact fold_path l a h1 h2
theorem run_path (f:Fl) (l:List Ev):Path f startS (runE f l).2∧(runE f l).1 = (runE f l).2.foldl applyK startS:=fold_path _ (startS,[]) trivial rfl
theorem fold_sub {f:Fl}:∀ (l:List Ev) (a:CSt×List Ev),∃ m,(l.foldl (stepE f) a).2 = a.2 ++ m∧m.Sublist l
 | [],a=>⟨[],by simp,List.Sublist.refl _⟩
 | e :: l,a=>by
  rw[List.foldl_cons]
  by_cases h:checkE f e = 0∧e.kind ≠ 10∧faultK f a.1 e = 0
  ·rw[step_yes h.1 h.2.1 h.2.2]
   obtain ⟨m,h1,h2⟩:=fold_sub (f:=f) l (applyK a.1 e,a.2 ++ [e])
   exact ⟨e :: m,by rw[h1];simp,h2.cons_cons e⟩
  ·have:stepE f a e = a:=by unfold stepE;rw[if_neg h]
   rw[this]
   obtain ⟨m,h1,h2⟩:=fold_sub (f:=f) l a
   exact ⟨m,h1,h2.cons e⟩
theorem run_sub (f:Fl) (l:List Ev):(runE f l).2.Sublist (setE l):=by
 obtain ⟨m,h1,h2⟩:=fold_sub (f:=f) (setE l) (startS,[])
 unfold runE
 rw[h1]
 exact h2
def onB (truck:Int) (x:Sp):Bool:=decide (x.wh = 4) && decide (x.pl = truck)
def b2i (b:Bool):Int:=if b = true then 1 else 0
def loadB (truck:Int) (e:Ev):Bool:=decide (e.kind = 7) && decide (e.place = truck)
def mvP (truck t:Int):(Nat→Bool)→List Ev→Int→Int→Int×Int
 | _,[],a,b=>(a,b)
 | on,e :: l,a,b=>if t < e.at' then (a,b) else mvP truck t (upd on e.bike.toNat (loadB truck e)) l (a+b2i (loadB truck e)) (b+b2i (on e.bike.toNat))
def mvR (n:Nat) (truck t:Int):CSt→List Ev→Int→Int→Int×Int
 | _,[],a,b=>(a,b)
 | s,e :: l,a,b=>if t < e.at' then (a,b) else mvR n truck t (applyK s e) l (a+max 0 ((cntN (applyK s e).F 4 truck n:Int) - cntN s.F 4 truck n)) (b+max 0 ((cntN s.F 4 truck n:Int) - cntN (applyK s e).F 4 truck n))
end Go.Proofs.YtdpoppilnokniaaGreatDoor
