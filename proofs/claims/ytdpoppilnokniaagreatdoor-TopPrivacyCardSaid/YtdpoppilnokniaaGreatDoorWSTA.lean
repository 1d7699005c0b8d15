/- Theorems of this seat. -/
import Derived.Test.YtdpoppilnokniaaGreatDoorWDSA
import Derived.Test.YtdpoppilnokniaaGreatDoorWKA
import Derived.Test.YtdpoppilnokniaaGreatDoorWCUA
namespace Go.Proofs.YtdpoppilnokniaaGreatDoor
open Go.RowKit Go.ChangeShapes Go.WideShapes Go.Deep
set_option linter.unusedVariables false
set_option linter.unusedSimpArgs false
structure Leg where
 bike:Int
 f0:Int
 f1:Int
 t0:Int
 t1:Int
def lgs (x:Leg):List Value:=[.int .i64 x.bike,.int .i64 x.f0,.int .i64 x.f1,.int .i64 x.t0,.int .i64 x.t1]
structure Pau where
 f0:Int
 f1:Int
 t0:Int
 t1:Int
def pas (x:Pau):List Value:=[.int .i64 x.f0,.int .i64 x.f1,.int .i64 x.t0,.int .i64 x.t1]
def sps (x:Sp):List Value:=[.int .i64 x.wh,.int .i64 x.pl,.int .i64 x.rd,.bool x.ps]
def nuR (F:Nat→Int):Nat→List Value:=fun i=>[.int .i64 (F i)]
def boR (F:Nat→Bool):Nat→List Value:=fun i=>[.bool (F i)]
def clo (F:Nat→Rid):Nat→Nat
 | 0=>0
 | n+1=>clo F n+(if (F n).op = false then 1 else 0)
theorem clo_congr {F G:Nat→Rid}:∀ {n:Nat},(∀ i,i < n→(G i).op = (F i).op)→clo G n = clo F n
 | 0,_=>rfl
 | n+1,h=>by unfold clo;rw[clo_congr (fun i hi=>h i (by omega)),h n (by omega)]
theorem clo_upd {F:Nat→Rid}{x:Rid}{k:Nat}:∀ {n:Nat},clo (upd F k x) n≤clo F n+1
 | 0=>by unfold clo;omega
 | n+1=>by
  unfold clo
  by_cases e:n = k
  ·subst e
   rw[clo_congr (F:=F) (G:=upd F n x) (fun i hi=>by rw[upd_ne (by omega)]),upd_same]
   split <;> split <;> omega
  ·have h:=clo_upd (F:=F) (x:=x) (k:=k) (n:=n)
   rw[upd_ne e]
   omega
theorem clo_same {F:Nat→Rid}{x:Rid}{k:Nat}(h:x.op = (F k).op) {n:Nat}:clo (upd F k x) n = clo F n:=clo_congr (fun i hi=>by
 by_cases e:i = k
 ·subst e;rw[upd_same];exact h
 ·rw[upd_ne e])
structure Parts where
 n:Nat
 rv:Value
 pv:Value
 F:Nat→Rid
 V:Nat→Int
 Z:Nat→Sp
 L:Nat→Nat→Leg
 Q:Nat→Nat→Pau
 B:Nat→Bool
 mp:Lit→Option Int
 mn:Nat
 m:Nat
structure StPlace where
 base:Nat
 S:Nat
 M:Nat
 G:Nat
 P:Nat
 N:Nat
structure St (o:StPlace) (w:World) (t:Nat) (x:Parts):Prop where
 box:w.heap[o.S]? = some (.cells #[x.rv,.map (some o.M),.slice (some ⟨o.G,0,none⟩) o.N o.N,x.pv,.slice (some ⟨o.P,0,none⟩) o.N o.N] 79 (0,0))
 lo:o.base≤o.S∧o.base≤o.M
 map:IntMap Tryz.prog 3 3 w o.M x.mn x.mp
 riding:Row w o.base 3 1 (.slice (some ⟨o.G,0,none⟩) o.N o.N) o.N (nuR x.V)
 spots:Row w o.base 112 4 (.slice (some ⟨o.P,0,none⟩) o.N o.N) o.N (fun i=>sps (x.Z i))
 rides:RdR w o.base x.rv x.n x.F
 paused:Row w o.base 4 1 x.pv x.n (boR x.B)
 legs:Fam w o.base 67 5 x.n (fun i=>.slice (x.F i).la (x.F i).ln (x.F i).lc) (fun i=>(x.F i).ln) (fun i j=>lgs (x.L i j))
 pauses:Fam w o.base 108 4 x.n (fun i=>.slice (x.F i).pa (x.F i).pn (x.F i).pc) (fun i=>(x.F i).pn) (fun i j=>pas (x.Q i j))
 lens:∀ i,i < x.n→1≤(x.F i).ln∧(x.F i).ln≤t∧(x.F i).pn≤t
 bike:∀ i,i < x.n→∀ j,j < (x.F i).ln→0≤(x.L i j).bike∧(x.L i j).bike < o.N
 rid:∀ b,b < o.N→-1≤x.V b∧x.V b < x.m
 mpr:∀ kl k,x.mp kl = some k→0≤k∧k < x.m
 cnt:x.n+clo x.F x.n≤t∧x.mn≤t
 s0:∀ i,i < x.n→inI (x.F i).s0
 pls:∀ i,i < x.n→inI (x.F i).fp∧inI (x.F i).pl
 spp:∀ b,b < o.N→inI (x.Z b).pl
 few:t≤1000∧o.N≤1000
theorem St.below {o:StPlace}{w w':World}{t:Nat}{x:Parts}(h:St o w t x) (hb:Below w.heap.size w w'):St o w' t x :=
 {h with
  box:=(hb.block _ (block_lt h.box)).trans h.box
  map:=h.map.below hb
  riding:=Row.off (X:=fun _=>False) h.riding (Off.of_below hb) (fun _ _ h=>h)
  spots:=Row.off (X:=fun _=>False) h.spots (Off.of_below hb) (fun _ _ h=>h)
  rides:=Row.off (X:=fun _=>False) h.rides (Off.of_below hb) (fun _ _ h=>h)
  paused:=Row.off (X:=fun _=>False) h.paused (Off.of_below hb) (fun _ _ h=>h)
  legs:=h.legs.below hb
  pauses:=h.pauses.below hb }
theorem St.told {o:StPlace}{w:World}{t t':Nat}{x:Parts}(h:St o w t x) (ht:t≤t') (hf:t'≤1000):St o w t' x :=
 {h with lens:=fun i hi=>⟨(h.lens i hi).1,Nat.le_trans (h.lens i hi).2.1 ht,Nat.le_trans (h.lens i hi).2.2 ht⟩,cnt:=⟨Nat.le_trans h.cnt.1 ht,Nat.le_trans h.cnt.2 ht⟩,few:=⟨hf,h.few.2⟩ }
section
variable {o:StPlace} {w w':World} {t:Nat} {x:Parts}
theorem St.mNe (h:St o w t x) {g:Nat}{cs:Array Value}{T:TypeId}{fz:Nat×Nat}(hg:w.heap[g]? = some (.cells cs T fz)):o.M ≠ g:=fun e=>by
 obtain ⟨es,c,hb⟩:=h.map.block
 rw[e,hg] at hb
 simp at hb
theorem St.boxOff {g:Nat}(h:St o w t x) (hg:Odd' w g 79) (ho:Off (fun b=>b = g) w w'):w'.heap[o.S]? = some (.cells #[x.rv,.map (some o.M),.slice (some ⟨o.G,0,none⟩) o.N o.N,x.pv,.slice (some ⟨o.P,0,none⟩) o.N o.N] 79 (0,0)) :=
 (ho.block _ (block_lt h.box) (fun e=>hg _ (by have e:o.S = g:=e;rw[←e];exact h.box))).trans h.box
theorem St.mapOff {g:Nat}{cs:Array Value}{T:TypeId}{fz:Nat×Nat}(h:St o w t x) (hg:w.heap[g]? = some (.cells cs T fz)) (ho:Off (fun b=>b = g) w w'):IntMap Tryz.prog 3 3 w' o.M x.mn x.mp :=
 h.map.off ho (fun e=>h.mNe hg e)
theorem St.setV (h:St o w t x) {b:Nat}(hb:b < o.N) {k:Int}(hk:-1≤k∧k < x.m):St o (w.setCell ⟨o.G,b,none⟩ (.int .i64 k)) t { x with V:=upd x.V b k }:=by
 have ho:Off (fun q=>q = o.G) w (w.setCell ⟨o.G,b,none⟩ (.int .i64 k)):=off_putCells (X:=fun q=>q = o.G) rfl [.int .i64 k] b w (Off.refl _ _)
 obtain ⟨cs,hc⟩:=h.riding.typ (g:=o.G) rfl
 have od:∀ {e:TypeId},3 ≠ e→Odd' w o.G e:=fun he=>odd_cells hc he
 exact { h with
  box:=h.boxOff (od (by decide)) ho
  map:=h.mapOff hc ho
  riding:=by
   have h1:=Row.store h.riding (fun i=>rfl) hb (j:=0) (by decide) (.int .i64 k)
   rw[Nat.mul_one,Nat.add_zero] at h1
   refine Row.congr h1 (fun j _=>?_)
   show _ = [Value.int .i64 (upd x.V b k j)]
   by_cases e:j = b
   ·subst e;rw[upd_same,upd_same];rfl
   ·rw[upd_ne e,upd_ne e];rfl
  spots:=Row.unhit h.spots (od (by decide)) ho
  rides:=Row.unhit h.rides (od (by decide)) ho
  paused:=Row.unhit h.paused (od (by decide)) ho
  legs:=h.legs.unhit (od (by decide)) ho
  pauses:=h.pauses.unhit (od (by decide)) ho
  rid:=fun c hc=>by
   show -1≤upd x.V b k c∧upd x.V b k c < x.m
   by_cases e:c = b
   ·subst e;rw[upd_same];exact hk
   ·rw[upd_ne e];exact h.rid c hc }
end
end Go.Proofs.YtdpoppilnokniaaGreatDoor
namespace Go.Proofs.YtdpoppilnokniaaGreatDoor
open Go.RowKit Go.ChangeShapes Go.WideShapes Go.Deep
set_option linter.unusedVariables false
set_option linter.unusedSimpArgs false
set_option linter.unnecessarySimpa false
theorem updLen {s:Nat}{f:Nat→List Value}(hs:∀ i,(f i).length = s) (i j:Nat) (u:Value):∀ k,(upd f i ((f i).set j u) k).length = s:=fun k=>by
 by_cases e:k = i
 ·subst e;rw[upd_same,List.length_set];exact hs k
 ·rw[upd_ne e];exact hs k
theorem Row.store2 {w:World}{base g n c s:Nat}{e:TypeId}{f:Nat→List Value}(h:Row w base e s (.slice (some ⟨g,0,none⟩) n c) n f) (hs:∀ i,(f i).length = s) {i j:Nat}(hi:i < n) (hj:j+1 < s) (u u':Value) :
  Row ((w.setCell ⟨g,i * s+j,none⟩ u).setCell ⟨g,i * s+j+1,none⟩ u') base e s (.slice (some ⟨g,0,none⟩) n c) n (upd f i (((f i).set j u).set (j+1) u')):=by
 have h1:=Row.store h hs hi (j:=j) (by omega) u
 have h2:=Row.store h1 (updLen hs i j u) hi (j:=j+1) hj u'
 refine Row.congr h2 (fun k _=>?_)
 by_cases e:k = i
 ·subst e;rw[upd_same,upd_same,upd_same]
 ·rw[upd_ne e,upd_ne e,upd_ne e]
theorem off_set {w:World}{g a:Nat}{u:Value}:Off (fun b=>b = g) w (w.setCell ⟨g,a,none⟩ u):=off_putCells (X:=fun q=>q = g) rfl [u] a w (Off.refl _ _)
theorem off_set2 {w:World}{g a c:Nat}{u v:Value}:Off (fun b=>b = g) w ((w.setCell ⟨g,a,none⟩ u).setCell ⟨g,c,none⟩ v):=(off_set (w:=w)).trans off_set (fun _ _ h=>h)
section
variable {o:StPlace} {w w':World} {t:Nat} {x:Parts}
structure StKept (o:StPlace) (w':World) (x:Parts) (P:TypeId→Prop):Prop where
 box:¬ P 79→w'.heap[o.S]? = some (.cells #[x.rv,.map (some o.M),.slice (some ⟨o.G,0,none⟩) o.N o.N,x.pv,.slice (some ⟨o.P,0,none⟩) o.N o.N] 79 (0,0))
 map:IntMap Tryz.prog 3 3 w' o.M x.mn x.mp
 riding:¬ P 3→Row w' o.base 3 1 (.slice (some ⟨o.G,0,none⟩) o.N o.N) o.N (nuR x.V)
 spots:¬ P 112→Row w' o.base 112 4 (.slice (some ⟨o.P,0,none⟩) o.N o.N) o.N (fun i=>sps (x.Z i))
 rides:¬ P 71→RdR w' o.base x.rv x.n x.F
 paused:¬ P 4→Row w' o.base 4 1 x.pv x.n (boR x.B)
 legs:¬ P 67→Fam w' o.base 67 5 x.n (fun i=>.slice (x.F i).la (x.F i).ln (x.F i).lc) (fun i=>(x.F i).ln) (fun i j=>lgs (x.L i j))
 pauses:¬ P 108→Fam w' o.base 108 4 x.n (fun i=>.slice (x.F i).pa (x.F i).pn (x.F i).pc) (fun i=>(x.F i).pn) (fun i j=>pas (x.Q i j))
theorem St.mem (h:St o w t x):StKept o w x (fun _=>False):=⟨fun _=>h.box,h.map,fun _=>h.riding,fun _=>h.spots,fun _=>h.rides,fun _=>h.paused,fun _=>h.legs,fun _=>h.pauses⟩
theorem StKept.next {P:TypeId→Prop}(h:StKept o w x P) {g:Nat}{cs:Array Value}{T:TypeId}{fz:Nat×Nat}(hg:w.heap[g]? = some (.cells cs T fz)) (ho:Off (fun b=>b = g) w w'):StKept o w' x (fun e=>P e∨e = T):=by
 have od:∀ {e:TypeId},¬ (P e∨e = T)→Odd' w g e:=fun he=>odd_cells hg (fun e=>he (.inr e.symm))
 have np:∀ {e:TypeId},¬ (P e∨e = T)→¬ P e:=fun he h=>he (.inl h)
 refine ⟨fun e=>?_,h.map.off ho (fun e=>?_),fun e=>Row.unhit (h.riding (np e)) (od e) ho,fun e=>Row.unhit (h.spots (np e)) (od e) ho,fun e=>Row.unhit (h.rides (np e)) (od e) ho,fun e=>Row.unhit (h.paused (np e)) (od e) ho,fun e=>(h.legs (np e)).unhit (od e) ho,fun e=>(h.pauses (np e)).unhit (od e) ho⟩
 ·have hb:=h.box (np e)
  exact (ho.block _ (block_lt hb) (fun e2=>od e _ (by have e2:o.S = g:=e2;rw[←e2];exact hb))).trans hb
 ·have e:o.M = g:=e
  obtain ⟨es,c,hb⟩:=h.map.block
  rw[e,hg] at hb
  simp at hb
theorem StKept.below {P:TypeId→Prop}(h:StKept o w x P) (hb:Below w.heap.size w w'):StKept o w' x P :=
 ⟨fun e=>(hb.block _ (block_lt (h.box e))).trans (h.box e),h.map.below hb,fun e=>Row.off (X:=fun _=>False) (h.riding e) (Off.of_below hb) (fun _ _ h=>h),fun e=>Row.off (X:=fun _=>False) (h.spots e) (Off.of_below hb) (fun _ _ h=>h),fun e=>Row.off (X:=fun _=>False) (h.rides e) (Off.of_below hb) (fun _ _ h=>h),fun e=>Row.off (X:=fun _=>False) (h.paused e) (Off.of_below hb) (fun _ _ h=>h),fun e=>(h.legs e).below hb,fun e=>(h.pauses e).below hb⟩
theorem St.kept {g:Nat}{cs:Array Value}{T:TypeId}{fz:Nat×Nat}(h:St o w t x) (hg:w.heap[g]? = some (.cells cs T fz)) (ho:Off (fun b=>b = g) w w'):StKept o w' x (fun e=>e = T):=by
 have k:=h.mem.next hg ho
 exact ⟨fun e=>k.box (by simpa using e),k.map,fun e=>k.riding (by simpa using e),fun e=>k.spots (by simpa using e),fun e=>k.rides (by simpa using e),fun e=>k.paused (by simpa using e),fun e=>k.legs (by simpa using e),fun e=>k.pauses (by simpa using e)⟩
theorem own_typ {base s n g c:Nat}{e:TypeId}{f:Nat→List Value}{m:Nat}(h:Row w base e s (.slice (some ⟨g,0,none⟩) m c) n f):∃ cs:Array Value,w.heap[g]? = some (.cells cs e (0,0)):=Row.typ h rfl
theorem St.setZ (h:St o w t x) {b:Nat}(hb:b < o.N) (z:Sp) (hz:inI z.pl):St o (putCells w o.P (b * 4) (sps z)) t { x with Z:=upd x.Z b z }:=by
 have ho:Off (fun q=>q = o.P) w (putCells w o.P (b * 4) (sps z)):=off_putCells (X:=fun q=>q = o.P) rfl _ _ w (Off.refl _ _)
 obtain ⟨cs,hc⟩:=own_typ h.spots
 have k:=h.kept hc ho
 exact { h with
  box:=k.box (by decide),map:=k.map,riding:=k.riding (by decide),rides:=k.rides (by decide),paused:=k.paused (by decide),legs:=k.legs (by decide),pauses:=k.pauses (by decide)
  spp:=fun j hj=>by
   show inI (upd x.Z b z j).pl
   by_cases e:j = b
   ·subst e;rw[upd_same];exact hz
   ·rw[upd_ne e];exact h.spp j hj
  spots:=Row.congr (Row.put h.spots (fun i=>rfl) hb (sps z) rfl) fun j _=>by
   show _ = sps (upd x.Z b z j)
   by_cases e:j = b
   ·subst e;rw[upd_same,upd_same]
   ·rw[upd_ne e,upd_ne e] }
theorem St.setB (h:St o w t x) {g c k:Nat}(hp:x.pv = .slice (some ⟨g,0,none⟩) x.n c) (hk:k < x.n) (v:Bool):St o (w.setCell ⟨g,k,none⟩ (.bool v)) t { x with B:=upd x.B k v }:=by
 have ho:Off (fun q=>q = g) w (w.setCell ⟨g,k,none⟩ (.bool v)):=off_set
 have hR:=h.paused
 rw[hp] at hR
 obtain ⟨cs,hc⟩:=own_typ hR
 have kk:=h.kept hc ho
 exact { h with
  box:=kk.box (by decide),map:=kk.map,riding:=kk.riding (by decide),spots:=kk.spots (by decide),rides:=kk.rides (by decide),legs:=kk.legs (by decide),pauses:=kk.pauses (by decide)
  paused:=by
   show Row _ _ _ _ x.pv _ _
   rw[hp]
   have h1:=Row.store hR (fun i=>rfl) hk (j:=0) (by decide) (.bool v)
   rw[Nat.mul_one,Nat.add_zero] at h1
   refine Row.congr h1 (fun j _=>?_)
   show _ = [Value.bool (upd x.B k v j)]
   by_cases e:j = k
   ·subst e;rw[upd_same,upd_same];rfl
   ·rw[upd_ne e,upd_ne e];rfl }
theorem St.setQ (h:St o w t x) {g k j:Nat}(hk:k < x.n) (hp:(x.F k).pa = some ⟨g,0,none⟩) (hj:j < (x.F k).pn) (a b:Int) :
  ∃ y,St o ((w.setCell ⟨g,j * 4+2,none⟩ (.int .i64 a)).setCell ⟨g,j * 4+3,none⟩ (.int .i64 b)) t { x with Q:=upd x.Q k (upd (x.Q k) j y) }:=by
 refine ⟨⟨(x.Q k j).f0,(x.Q k j).f1,a,b⟩,?_⟩
 have ho:Off (fun q=>q = g) w ((w.setCell ⟨g,j * 4+2,none⟩ (.int .i64 a)).setCell ⟨g,j * 4+3,none⟩ (.int .i64 b)):=off_set2
 have hR:=h.pauses.row k hk
 rw[hp] at hR
 obtain ⟨cs,hc⟩:=own_typ hR
 have kk:=h.kept hc ho
 have h1:=Row.store2 hR (fun i=>rfl) hj (j:=2) (by decide) (.int .i64 a) (.int .i64 b)
 exact { h with
  box:=kk.box (by decide),map:=kk.map,riding:=kk.riding (by decide),spots:=kk.spots (by decide),rides:=kk.rides (by decide),paused:=kk.paused (by decide),legs:=kk.legs (by decide)
  pauses:=by
   have h2:=h.pauses.set hk (ho.mono (Y:=fun b=>(Value.slice (x.F k).pa (x.F k).pn (x.F k).pc).ownBlock = some b) (fun i _ hi=>by rw[hp];have hi:i = g:=hi;subst hi;rfl)) h1 (fun q hq=>.inl (by rw[hp];exact hq))
   refine Fam.congr h2 (fun i hi=>?_) (fun i hi=>?_) (fun i hi m hm=>?_)
   ·by_cases e:i = k
    ·subst e;rw[upd_same,hp]
    ·rw[upd_ne e]
   ·by_cases e:i = k
    ·subst e;rw[upd_same]
    ·rw[upd_ne e]
   ·show pas (upd x.Q k (upd (x.Q k) j _) i m) = _
    by_cases e:i = k
    ·subst e
     rw[upd_same,upd_same]
     by_cases e2:m = j
     ·subst e2;rw[upd_same,upd_same];rfl
     ·rw[upd_ne e2,upd_ne e2]
    ·rw[upd_ne e,upd_ne e] }
theorem St.setL (h:St o w t x) {g k j:Nat}(hk:k < x.n) (hp:(x.F k).la = some ⟨g,0,none⟩) (hj:j < (x.F k).ln) (a b:Int) :
  ∃ y,y.bike = (x.L k j).bike∧St o ((w.setCell ⟨g,j * 5+3,none⟩ (.int .i64 a)).setCell ⟨g,j * 5+4,none⟩ (.int .i64 b)) t { x with L:=upd x.L k (upd (x.L k) j y) }:=by
 refine ⟨⟨(x.L k j).bike,(x.L k j).f0,(x.L k j).f1,a,b⟩,rfl,?_⟩
 have ho:Off (fun q=>q = g) w ((w.setCell ⟨g,j * 5+3,none⟩ (.int .i64 a)).setCell ⟨g,j * 5+4,none⟩ (.int .i64 b)):=off_set2
 have hR:=h.legs.row k hk
 rw[hp] at hR
 obtain ⟨cs,hc⟩:=own_typ hR
 have kk:=h.kept hc ho
 have h1:=Row.store2 hR (fun i=>rfl) hj (j:=3) (by decide) (.int .i64 a) (.int .i64 b)
 exact { h with
  box:=kk.box (by decide),map:=kk.map,riding:=kk.riding (by decide),spots:=kk.spots (by decide),rides:=kk.rides (by decide),paused:=kk.paused (by decide),pauses:=kk.pauses (by decide)
  legs:=by
   have h2:=h.legs.set hk (ho.mono (Y:=fun b=>(Value.slice (x.F k).la (x.F k).ln (x.F k).lc).ownBlock = some b) (fun i _ hi=>by rw[hp];have hi:i = g:=hi;subst hi;rfl)) h1 (fun q hq=>.inl (by rw[hp];exact hq))
   refine Fam.congr h2 (fun i hi=>?_) (fun i hi=>?_) (fun i hi m hm=>?_)
   ·by_cases e:i = k
    ·subst e;rw[upd_same,hp]
    ·rw[upd_ne e]
   ·by_cases e:i = k
    ·subst e;rw[upd_same]
    ·rw[upd_ne e]
   ·show lgs (upd x.L k (upd (x.L k) j _) i m) = _
    by_cases e:i = k
    ·subst e
     rw[upd_same,upd_same]
     by_cases e2:m = j
     ·subst e2;rw[upd_same,upd_same];rfl
     ·rw[upd_ne e2,upd_ne e2]
    ·rw[upd_ne e,upd_ne e]
  bike:=fun i hi m hm=>by
   show 0≤(upd x.L k (upd (x.L k) j _) i m).bike∧(upd x.L k (upd (x.L k) j _) i m).bike < o.N
   by_cases e:i = k
   ·subst e
    rw[upd_same]
    by_cases e2:m = j
    ·subst e2;rw[upd_same];exact h.bike i hi m hm
    ·rw[upd_ne e2];exact h.bike i hi m hm
   ·rw[upd_ne e];exact h.bike i hi m hm }
theorem St.setR (h:St o w t x) {g c k:Nat}(hk:k < x.n) (hrv:x.rv = .slice (some ⟨g,0,none⟩) x.n c) (ho:Off (fun b=>b = g) w w') (r:Rid)
  (hR:RdR w' o.base (.slice (some ⟨g,0,none⟩) x.n c) x.n (upd x.F k r)) (e1:r.la = (x.F k).la) (e2:r.ln = (x.F k).ln) (e3:r.lc = (x.F k).lc) (e4:r.pa = (x.F k).pa) (e5:r.pn = (x.F k).pn) (e6:r.pc = (x.F k).pc) (e7:r.s0 = (x.F k).s0) (e8:r.fp = (x.F k).fp) (e9:inI r.pl)
  {t':Nat} (ht:t≤t') (hf:t'≤1000) (hc:x.n+clo (upd x.F k r) x.n≤t'):St o w' t' { x with F:=upd x.F k r }:=by
 have hR0:=h.rides
 rw[hrv] at hR0
 obtain ⟨cs,hcs⟩:=own_typ hR0
 have kk:=h.kept hcs ho
 have cg:∀ {α:Type} (p:Rid→α),p r = p (x.F k)→∀ i,p (upd x.F k r i) = p (x.F i):=fun p hp i=>by
  by_cases e:i = k
  ·subst e;rw[upd_same];exact hp
  ·rw[upd_ne e]
 have ln:∀ i,(upd x.F k r i).ln = (x.F i).ln:=cg (fun r=>r.ln) e2
 have pn:∀ i,(upd x.F k r i).pn = (x.F i).pn:=cg (fun r=>r.pn) e5
 exact { h.told ht hf with
  box:=kk.box (by decide),map:=kk.map,riding:=kk.riding (by decide),spots:=kk.spots (by decide),paused:=kk.paused (by decide)
  rides:=by show RdR _ _ x.rv _ _;rw[hrv];exact hR
  legs:=Fam.congr (kk.legs (by decide)) (fun i _=>by show Value.slice _ _ _ = _;rw[cg (fun r=>r.la) e1 i,ln i,cg (fun r=>r.lc) e3 i]) (fun i _=>ln i) (fun i _ j _=>rfl)
  pauses:=Fam.congr (kk.pauses (by decide)) (fun i _=>by show Value.slice _ _ _ = _;rw[cg (fun r=>r.pa) e4 i,pn i,cg (fun r=>r.pc) e6 i]) (fun i _=>pn i) (fun i _ j _=>rfl)
  lens:=fun i hi=>by
   show 1≤(upd x.F k r i).ln∧(upd x.F k r i).ln≤t'∧(upd x.F k r i).pn≤t'
   rw[ln i,pn i]
   exact ⟨(h.lens i hi).1,Nat.le_trans (h.lens i hi).2.1 ht,Nat.le_trans (h.lens i hi).2.2 ht⟩
  bike:=fun i hi j hj=>h.bike i hi j (by rw[←ln i];exact hj)
  cnt:=⟨hc,Nat.le_trans h.cnt.2 ht⟩
  pls:=fun i hi=>⟨by show inI (upd x.F k r i).fp;rw[cg (fun r=>r.fp) e8 i];exact (h.pls i hi).1,by
   show inI (upd x.F k r i).pl
   by_cases e:i = k
   ·subst e;rw[upd_same];exact e9
   ·rw[upd_ne e];exact (h.pls i hi).2⟩
  s0:=fun i hi=>by show inI (upd x.F k r i).s0;rw[cg (fun r=>r.s0) e7 i];exact h.s0 i hi }
theorem updF {α:Type}(p:Rid→α) (F:Nat→Rid) (k:Nat) (r:Rid):∀ i,p (upd F k r i) = upd (fun i=>p (F i)) k (p r) i:=fun i=>by
 by_cases e:i = k
 ·subst e;rw[upd_same,upd_same]
 ·rw[upd_ne e,upd_ne e]
theorem upd_self {α:Type}(f:Nat→α) (k:Nat) {y:α}(h:y = f k) (i:Nat):upd f k y i = f i:=by
 by_cases e:i = k
 ·subst e;rw[upd_same,h]
 ·rw[upd_ne e]
theorem St.appL (h:St o w t x) {w2:World}{rg c k g' cap:Nat}(hk:k < x.n) (hrv:x.rv = .slice (some ⟨rg,0,none⟩) x.n c) (y:Leg) (hy:0≤y.bike∧y.bike < o.N)
  (hr:Row w2 o.base 67 5 (.slice (some ⟨g',0,none⟩) ((x.F k).ln+1) cap) ((x.F k).ln+1) (upd (fun j=>lgs (x.L k j)) (x.F k).ln (lgs y)))
  (ho:Off (fun b=>(Value.slice (x.F k).la (x.F k).ln (x.F k).lc).ownBlock = some b) w w2) (hg:(Value.slice (x.F k).la (x.F k).ln (x.F k).lc).ownBlock = some g'∨w.heap.size≤g') {t':Nat} (ht:t < t') (hf:t'≤1000) :
  St o (w2.setCell ⟨rg,k * 13+7,none⟩ (.slice (some ⟨g',0,none⟩) ((x.F k).ln+1) cap)) t' { x with F:=upd x.F k { x.F k with la:=some ⟨g',0,none⟩,ln:=(x.F k).ln+1,lc:=cap },L:=upd x.L k (upd (x.L k) (x.F k).ln y) }:=by
 have h0:=h.legs.row k hk
 have hl:=(h.lens k hk).1
 rcases Row.shape h0 with ⟨_,e0⟩ | ⟨g0,c0,e0,_,_,_,_⟩
 ·omega
 have e1:(x.F k).la = some ⟨g0,0,none⟩:=by have:=e0;simp only[Value.slice.injEq] at this;exact this.1
 have hown:∀ b,(Value.slice (x.F k).la (x.F k).ln (x.F k).lc).ownBlock = some b↔b = g0:=fun b=>by rw[e1];simp [Value.ownBlock,eq_comm]
 obtain ⟨cs0,hc0⟩:=Row.typ h0 ((hown g0).2 rfl)
 have ho':Off (fun b=>b = g0) w w2:=ho.mono (fun i _ hi=>(hown i).1 hi)
 have k1:=h.mem.next hc0 ho'
 have hR:=k1.rides (by simp)
 rw[hrv] at hR
 obtain ⟨cs1,hc1⟩:=own_typ hR
 have ho3:Off (fun b=>b = rg) w2 (w2.setCell ⟨rg,k * 13+7,none⟩ (.slice (some ⟨g',0,none⟩) ((x.F k).ln+1) cap)):=off_set
 have k2:=k1.next hc1 ho3
 have hL:=h.legs.set hk ho hr (fun q hq=>by
  have e:g' = q:=(by simpa [Value.ownBlock] using hq)
  subst e
  exact hg)
 have hL:=hL.unhit (odd_cells hc1 (by decide)) ho3
 have cl:clo (upd x.F k { x.F k with la:=some ⟨g',0,none⟩,ln:=(x.F k).ln+1,lc:=cap }) x.n = clo x.F x.n:=clo_same (by rfl)
 exact { h.told (Nat.le_of_lt ht) hf with
  box:=k2.box (by simp),map:=k2.map,riding:=k2.riding (by simp),spots:=k2.spots (by simp),paused:=k2.paused (by simp)
  rides:=by
   show RdR _ _ x.rv _ _
   rw[hrv]
   have h1:=Row.store hR (fun i=>rds_len (x.F i)) hk (j:=7) (by decide) (.slice (some ⟨g',0,none⟩) ((x.F k).ln+1) cap)
   refine Row.congr h1 (fun j _=>?_)
   show _ = rds (upd x.F k _ j)
   by_cases e:j = k
   ·subst e;rw[upd_same,upd_same];rfl
   ·rw[upd_ne e,upd_ne e]
  legs:=Fam.congr hL (fun i _=>by
    show Value.slice (upd x.F k _ i).la (upd x.F k _ i).ln (upd x.F k _ i).lc = _
    by_cases e:i = k
    ·subst e;rw[upd_same,upd_same]
    ·rw[upd_ne e,upd_ne e]) (fun i _=>updF (fun r=>r.ln) x.F k _ i) (fun i _ j _=>by
    show lgs (upd x.L k _ i j) = _
    by_cases e:i = k
    ·subst e
     rw[upd_same,upd_same]
     by_cases e2:j = (x.F i).ln
     ·subst e2;rw[upd_same,upd_same]
     ·rw[upd_ne e2,upd_ne e2]
    ·rw[upd_ne e,upd_ne e])
  pauses:=Fam.congr (k2.pauses (by simp)) (fun i _=>by
    show Value.slice (upd x.F k _ i).pa (upd x.F k _ i).pn (upd x.F k _ i).pc = _
    by_cases e:i = k
    ·subst e;rw[upd_same]
    ·rw[upd_ne e]) (fun i _=>(updF (fun r=>r.pn) x.F k _ i).trans (upd_self (fun i=>(x.F i).pn) k rfl i)) (fun i _ j _=>rfl)
  lens:=fun i hi=>by
   show 1≤(upd x.F k _ i).ln∧(upd x.F k _ i).ln≤t'∧(upd x.F k _ i).pn≤t'
   have a:=h.lens i hi
   by_cases e:i = k
   ·subst e;rw[upd_same];exact ⟨by show 1≤(x.F i).ln+1;omega,by show (x.F i).ln+1≤t';omega,by show (x.F i).pn≤t';omega⟩
   ·rw[upd_ne e];exact ⟨a.1,by omega,by omega⟩
  bike:=fun i hi j hj=>by
   show 0≤(upd x.L k _ i j).bike∧(upd x.L k _ i j).bike < o.N
   have hj:j < (upd x.F k { x.F k with la:=some ⟨g',0,none⟩,ln:=(x.F k).ln+1,lc:=cap } i).ln:=hj
   by_cases e:i = k
   ·subst e
    rw[upd_same] at hj ⊢
    have hj:j < (x.F i).ln+1:=hj
    by_cases e2:j = (x.F i).ln
    ·subst e2;rw[upd_same];exact hy
    ·rw[upd_ne e2];exact h.bike i hi j (by omega)
   ·rw[upd_ne e] at hj ⊢;exact h.bike i hi j hj
  cnt:=by
   show x.n+clo (upd x.F k _) x.n≤t'∧x.mn≤t'
   rw[cl]
   exact ⟨by have:=h.cnt.1;omega,by have:=h.cnt.2;omega⟩
  pls:=fun i hi=>⟨by show inI (upd x.F k _ i).fp;rw[updF (fun r=>r.fp) x.F k _ i,upd_self (fun i=>(x.F i).fp) k rfl i];exact (h.pls i hi).1,by show inI (upd x.F k _ i).pl;rw[updF (fun r=>r.pl) x.F k _ i,upd_self (fun i=>(x.F i).pl) k rfl i];exact (h.pls i hi).2⟩
  s0:=fun i hi=>by show inI (upd x.F k _ i).s0;rw[updF (fun r=>r.s0) x.F k _ i,upd_self (fun i=>(x.F i).s0) k rfl i];exact h.s0 i hi }
theorem St.appQ (h:St o w t x) {w2:World}{rg c k g' cap:Nat}(hk:k < x.n) (hrv:x.rv = .slice (some ⟨rg,0,none⟩) x.n c) (y:Pau)
  (hr:Row w2 o.base 108 4 (.slice (some ⟨g',0,none⟩) ((x.F k).pn+1) cap) ((x.F k).pn+1) (upd (fun j=>pas (x.Q k j)) (x.F k).pn (pas y)))
  (ho:Off (fun b=>(Value.slice (x.F k).pa (x.F k).pn (x.F k).pc).ownBlock = some b) w w2) (hg:(Value.slice (x.F k).pa (x.F k).pn (x.F k).pc).ownBlock = some g'∨w.heap.size≤g') {t':Nat} (ht:t < t') (hf:t'≤1000) :
  St o (w2.setCell ⟨rg,k * 13+8,none⟩ (.slice (some ⟨g',0,none⟩) ((x.F k).pn+1) cap)) t' { x with F:=upd x.F k { x.F k with pa:=some ⟨g',0,none⟩,pn:=(x.F k).pn+1,pc:=cap },Q:=upd x.Q k (upd (x.Q k) (x.F k).pn y) }:=by
 have h0:=h.pauses.row k hk
 have k1:StKept o w2 x (fun e=>False∨e = 108):=by
  rcases Row.shape h0 with ⟨e0,_⟩ | ⟨g0,c0,e0,_,_,_,_⟩
  ·have e1:(x.F k).pa = none:=by have:=e0;simp only[Value.slice.injEq] at this;exact this.1
   have hb:Below w.heap.size w w2:=ho.toBelow (Nat.le_refl _) (fun q _ hh=>by rw[e1] at hh;simp [Value.ownBlock] at hh)
   have kk:=h.mem.below hb
   exact ⟨fun e=>kk.box (fun h=>h),kk.map,fun e=>kk.riding (fun h=>h),fun e=>kk.spots (fun h=>h),fun e=>kk.rides (fun h=>h),fun e=>kk.paused (fun h=>h),fun e=>kk.legs (fun h=>h),fun e=>kk.pauses (fun h=>h)⟩
  ·have e1:(x.F k).pa = some ⟨g0,0,none⟩:=by have:=e0;simp only[Value.slice.injEq] at this;exact this.1
   have hown:∀ b,(Value.slice (x.F k).pa (x.F k).pn (x.F k).pc).ownBlock = some b↔b = g0:=fun b=>by rw[e1];simp [Value.ownBlock,eq_comm]
   obtain ⟨cs0,hc0⟩:=Row.typ h0 ((hown g0).2 rfl)
   exact h.mem.next hc0 (ho.mono (fun i _ hi=>(hown i).1 hi))
 have hR:=k1.rides (by simp)
 rw[hrv] at hR
 obtain ⟨cs1,hc1⟩:=own_typ hR
 have ho3:Off (fun b=>b = rg) w2 (w2.setCell ⟨rg,k * 13+8,none⟩ (.slice (some ⟨g',0,none⟩) ((x.F k).pn+1) cap)):=off_set
 have k2:=k1.next hc1 ho3
 have hL:=h.pauses.set hk ho hr (fun q hq=>by
  have e:g' = q:=(by simpa [Value.ownBlock] using hq)
  subst e
  exact hg)
 have hL:=hL.unhit (odd_cells hc1 (by decide)) ho3
 have cl:clo (upd x.F k { x.F k with pa:=some ⟨g',0,none⟩,pn:=(x.F k).pn+1,pc:=cap }) x.n = clo x.F x.n:=clo_same (by rfl)
 exact { h.told (Nat.le_of_lt ht) hf with
  box:=k2.box (by simp),map:=k2.map,riding:=k2.riding (by simp),spots:=k2.spots (by simp),paused:=k2.paused (by simp)
  rides:=by
   show RdR _ _ x.rv _ _
   rw[hrv]
   have h1:=Row.store hR (fun i=>rds_len (x.F i)) hk (j:=8) (by decide) (.slice (some ⟨g',0,none⟩) ((x.F k).pn+1) cap)
   refine Row.congr h1 (fun j _=>?_)
   show _ = rds (upd x.F k _ j)
   by_cases e:j = k
   ·subst e;rw[upd_same,upd_same];rfl
   ·rw[upd_ne e,upd_ne e]
  pauses:=Fam.congr hL (fun i _=>by
    show Value.slice (upd x.F k _ i).pa (upd x.F k _ i).pn (upd x.F k _ i).pc = _
    by_cases e:i = k
    ·subst e;rw[upd_same,upd_same]
    ·rw[upd_ne e,upd_ne e]) (fun i _=>updF (fun r=>r.pn) x.F k _ i) (fun i _ j _=>by
    show pas (upd x.Q k _ i j) = _
    by_cases e:i = k
    ·subst e
     rw[upd_same,upd_same]
     by_cases e2:j = (x.F i).pn
     ·subst e2;rw[upd_same,upd_same]
     ·rw[upd_ne e2,upd_ne e2]
    ·rw[upd_ne e,upd_ne e])
  legs:=Fam.congr (k2.legs (by simp)) (fun i _=>by
    show Value.slice (upd x.F k _ i).la (upd x.F k _ i).ln (upd x.F k _ i).lc = _
    by_cases e:i = k
    ·subst e;rw[upd_same]
    ·rw[upd_ne e]) (fun i _=>(updF (fun r=>r.ln) x.F k _ i).trans (upd_self (fun i=>(x.F i).ln) k rfl i)) (fun i _ j _=>rfl)
  lens:=fun i hi=>by
   show 1≤(upd x.F k _ i).ln∧(upd x.F k _ i).ln≤t'∧(upd x.F k _ i).pn≤t'
   have a:=h.lens i hi
   by_cases e:i = k
   ·subst e;rw[upd_same];exact ⟨by show 1≤(x.F i).ln;omega,by show (x.F i).ln≤t';omega,by show (x.F i).pn+1≤t';omega⟩
   ·rw[upd_ne e];exact ⟨a.1,by omega,by omega⟩
  bike:=fun i hi j hj=>h.bike i hi j (by
   have hj:j < (upd x.F k { x.F k with pa:=some ⟨g',0,none⟩,pn:=(x.F k).pn+1,pc:=cap } i).ln:=hj
   rw[updF (fun r=>r.ln) x.F k _ i,upd_self (fun i=>(x.F i).ln) k rfl i] at hj
   exact hj)
  cnt:=by
   show x.n+clo (upd x.F k _) x.n≤t'∧x.mn≤t'
   rw[cl]
   exact ⟨by have:=h.cnt.1;omega,by have:=h.cnt.2;omega⟩
  pls:=fun i hi=>⟨by show inI (upd x.F k _ i).fp;rw[updF (fun r=>r.fp) x.F k _ i,upd_self (fun i=>(x.F i).fp) k rfl i];exact (h.pls i hi).1,by show inI (upd x.F k _ i).pl;rw[updF (fun r=>r.pl) x.F k _ i,upd_self (fun i=>(x.F i).pl) k rfl i];exact (h.pls i hi).2⟩
  s0:=fun i hi=>by show inI (upd x.F k _ i).s0;rw[updF (fun r=>r.s0) x.F k _ i,upd_self (fun i=>(x.F i).s0) k rfl i];exact h.s0 i hi }
end
end Go.Proofs.YtdpoppilnokniaaGreatDoor
namespace Go.Proofs.YtdpoppilnokniaaGreatDoor
open Go.RowKit Go.ChangeShapes Go.WideShapes Go.Deep
set_option linter.unusedVariables false
set_option linter.unusedSimpArgs false
set_option linter.unnecessarySimpa false
section
variable {o:StPlace} {w w':World} {t:Nat} {x:Parts}
theorem StKept.mapped {P:TypeId→Prop}(h:StKept o w x P) (ho:Off (fun b=>b = o.M) w w') {mn:Nat}{mp:Lit→Option Int}(hm:IntMap Tryz.prog 3 3 w' o.M mn mp):StKept o w' { x with mp:=mp,mn:=mn } P:=by
 obtain ⟨es,c,hb⟩:=h.map.block
 have od:∀ {e:TypeId},Odd' w o.M e:=odd_map hb
 exact ⟨fun e=>by
  have hx:=h.box e
  refine (ho.block _ (block_lt hx) (fun e2=>?_)).trans hx
  have e2:o.S = o.M:=e2
  rw[e2,hb] at hx
  simp at hx,hm,fun e=>Row.unhit (h.riding e) od ho,fun e=>Row.unhit (h.spots e) od ho,fun e=>Row.unhit (h.rides e) od ho,fun e=>Row.unhit (h.paused e) od ho,fun e=>(h.legs e).unhit od ho,fun e=>(h.pauses e).unhit od ho⟩
theorem St.setM (h:St o w t x) (ho:Off (fun b=>b = o.M) w w') {mp:Lit→Option Int}(hm:IntMap Tryz.prog 3 3 w' o.M (x.mn+1) mp) {kl:Lit}{y:Int}(h1:mp kl = some y) (h2:∀ z,z ≠ kl→mp z = x.mp z) (hy:0≤y∧y < x.m) {t':Nat}(ht:t≤t') (hmn:x.mn+1≤t') (hf:t'≤1000) :
  St o w' t' { x with mp:=mp,mn:=x.mn+1 }:=by
 have k:=h.mem.mapped ho hm
 exact { h.told ht hf with
  box:=k.box (fun h=>h),map:=k.map,riding:=k.riding (fun h=>h),spots:=k.spots (fun h=>h),rides:=k.rides (fun h=>h),paused:=k.paused (fun h=>h),legs:=k.legs (fun h=>h),pauses:=k.pauses (fun h=>h)
  mpr:=fun z q hq=>by
   have hq:mp z = some q:=hq
   by_cases e:z = kl
   ·subst e;rw[h1] at hq;cases hq;exact hy
   ·rw[h2 z e] at hq;exact h.mpr z q hq
  cnt:=⟨by have:=h.cnt.1;show x.n+clo x.F x.n≤t';omega,hmn⟩ }
theorem St.raise (h:St o w t x) {m:Nat}(hm:x.m≤m):St o w t { x with m:=m } :=
 {h with rid:=fun b hb=>⟨(h.rid b hb).1,by have:=(h.rid b hb).2;show x.V b < (m:Int);omega⟩,mpr:=fun z q hq=>⟨(h.mpr z q hq).1,by have:=(h.mpr z q hq).2;show q < (m:Int);omega⟩ }
structure StMid (o:StPlace) (w:World) (t:Nat) (x:Parts) (rv:Value) (r:Rid) (y:Leg):Prop where
 kept:StKept o w x (fun e=>e = 71∨e = 79)
 box:w.heap[o.S]? = some (.cells #[rv,.map (some o.M),.slice (some ⟨o.G,0,none⟩) o.N o.N,x.pv,.slice (some ⟨o.P,0,none⟩) o.N o.N] 79 (0,0))
 rides:RdR w o.base rv (x.n+1) (upd x.F x.n r)
 leg:Row w o.base 67 5 (.slice r.la 1 1) 1 (fun _=>lgs y)
 lsep:∀ i,i < x.n→∀ g,(Value.slice (x.F i).la (x.F i).ln (x.F i).lc).ownBlock = some g→(Value.slice r.la 1 1).ownBlock ≠ some g
theorem StMid.below {rv:Value}{r:Rid}{y:Leg}(h:StMid o w t x rv r y) (hb:Below w.heap.size w w'):StMid o w' t x rv r y :=
 ⟨h.kept.below hb,(hb.block _ (block_lt h.box)).trans h.box,RdR.off (X:=fun _=>False) h.rides (Off.of_below hb) (fun _ _ h=>h),Row.off (X:=fun _=>False) h.leg (Off.of_below hb) (fun _ _ h=>h),h.lsep⟩
theorem St.born1 (h:St o w t x) {w2:World}{gl:Nat}(hgl:w.heap.size≤gl) (r:Rid) (y:Leg) (hla:r.la = some ⟨gl,0,none⟩) (hleg2:Row w2 o.base 67 5 (.slice (some ⟨gl,0,none⟩) 1 1) 1 (fun _=>lgs y))
  {v':Value} (ho:Off (fun b=>x.rv.ownBlock = some b) w w2) (hr:RdR w2 o.base v' (x.n+1) (upd x.F x.n r)):StMid o (w2.setCell ⟨o.S,0,none⟩ v') t x v' r y:=by
 have k0:=h.mem
 have k1:StKept o w2 x (fun e=>False∨e = 71):=by
  rcases Row.shape h.rides with ⟨e0,_⟩ | ⟨g0,c0,e0,_,_,_,_⟩
  ·have hb2:Below w.heap.size w w2:=ho.toBelow (Nat.le_refl _) (fun q _ hh=>by rw[e0] at hh;simp [Value.ownBlock] at hh)
   have kk:=k0.below hb2
   exact ⟨fun e=>kk.box (fun h=>h),kk.map,fun e=>kk.riding (fun h=>h),fun e=>kk.spots (fun h=>h),fun e=>kk.rides (fun h=>h),fun e=>kk.paused (fun h=>h),fun e=>kk.legs (fun h=>h),fun e=>kk.pauses (fun h=>h)⟩
  ·have hR:=k0.rides (fun h=>h)
   obtain ⟨cs0,hc0⟩:=Row.typ (g:=g0) hR (by rw[e0];rfl)
   exact k0.next hc0 (ho.mono (fun i _ hi=>by rw[e0] at hi;have:g0 = i:=(by simpa [Value.ownBlock] using hi);exact this.symm))
 have hbx:=k1.box (by simp)
 have ho3:Off (fun b=>b = o.S) w2 (w2.setCell ⟨o.S,0,none⟩ v'):=off_set
 have k2:=k1.next hbx ho3
 have od:∀ {e:TypeId},79 ≠ e→Odd' w2 o.S e:=fun he=>odd_cells hbx he
 refine ⟨⟨fun e=>k2.box (by simpa using e),k2.map,fun e=>k2.riding (by simpa using e),fun e=>k2.spots (by simpa using e),fun e=>k2.rides (by simpa using e),fun e=>k2.paused (by simpa using e),fun e=>k2.legs (by simpa using e),fun e=>k2.pauses (by simpa using e)⟩,?_,Row.unhit hr (od (by decide)) ho3,?_,fun i hi g hg=>?_⟩
 ·rw[setCell_at hbx,setAt_same (block_lt hbx)]
  rfl
 ·rw[hla];exact Row.unhit hleg2 (od (by decide)) ho3
 ·rw[hla]
  intro e
  have e:gl = g:=(by simpa [Value.ownBlock] using e)
  subst e
  have:=(World.ownsRow.lt (h.legs.row i hi) gl hg).2
  omega
theorem St.born2 (h0:St o w t x) {w3 w4:World}{rv:Value}{r:Rid}{y:Leg}(h:StMid o w3 t x rv r y) (hm:x.n+1≤x.m) {v':Value}(ho:Off (fun b=>x.pv.ownBlock = some b) w3 w4) (hr:Row w4 o.base 4 1 v' (x.n+1) (boR (upd x.B x.n false)))
  (hln:r.ln = 1∧r.lc = 1) (hpn:r.pa = none∧r.pn = 0∧r.pc = 0) (hop:r.op = true) (hs0:inI r.s0) (hpl:inI r.fp∧inI r.pl) (hy:0≤y.bike∧y.bike < o.N) {t':Nat} (ht:t≤t') (hcn:x.n+clo x.F x.n+1≤t') (hf:t'≤1000) :
  St o (w4.setCell ⟨o.S,3,none⟩ v') t' { x with n:=x.n+1,rv:=rv,pv:=v',F:=upd x.F x.n r,L:=upd x.L x.n (fun _=>y),B:=upd x.B x.n false }:=by
 have hpd:=h.kept.paused (by simp)
 have hx:w4.heap[o.S]? = w3.heap[o.S]?∧StKept o w4 x (fun e=>(e = 71∨e = 79)∨e = 4)∧RdR w4 o.base rv (x.n+1) (upd x.F x.n r)∧Row w4 o.base 67 5 (.slice r.la 1 1) 1 (fun _=>lgs y):=by
  rcases Row.shape hpd with ⟨e0,_⟩ | ⟨g0,c0,e0,_,_,_,_⟩
  ·have hb2:Below w3.heap.size w3 w4:=ho.toBelow (Nat.le_refl _) (fun q _ hh=>by rw[e0] at hh;simp [Value.ownBlock] at hh)
   have kk:=h.kept.below hb2
   refine ⟨hb2.block _ (block_lt h.box),⟨fun e=>kk.box (fun q=>e (.inl q)),kk.map,fun e=>kk.riding (fun q=>e (.inl q)),fun e=>kk.spots (fun q=>e (.inl q)),fun e=>kk.rides (fun q=>e (.inl q)),fun e=>kk.paused (fun q=>e (.inl q)),fun e=>kk.legs (fun q=>e (.inl q)),fun e=>kk.pauses (fun q=>e (.inl q))⟩,RdR.off (X:=fun _=>False) h.rides (Off.of_below hb2) (fun _ _ h=>h),Row.off (X:=fun _=>False) h.leg (Off.of_below hb2) (fun _ _ h=>h)⟩
  ·obtain ⟨cs0,hc0⟩:=Row.typ (g:=g0) hpd (by rw[e0];rfl)
   have ho':Off (fun b=>b = g0) w3 w4:=ho.mono (fun i _ hi=>by rw[e0] at hi;have:g0 = i:=(by simpa [Value.ownBlock] using hi);exact this.symm)
   refine ⟨ho'.block _ (block_lt h.box) (fun e=>?_),h.kept.next hc0 ho',Row.unhit h.rides (odd_cells hc0 (by decide)) ho',Row.unhit h.leg (odd_cells hc0 (by decide)) ho'⟩
   have e:o.S = g0:=e
   rw[←e,h.box] at hc0
   simp at hc0
 obtain ⟨x1,x2,x3,x4⟩:=hx
 have hbx:=x1.trans h.box
 have ho3:Off (fun b=>b = o.S) w4 (w4.setCell ⟨o.S,3,none⟩ v'):=off_set
 have k2:=x2.next hbx ho3
 have od:∀ {e:TypeId},79 ≠ e→Odd' w4 o.S e:=fun he=>odd_cells hbx he
 have cl:clo (upd x.F x.n r) (x.n+1) = clo x.F x.n:=by
  show clo (upd x.F x.n r) x.n+_ = _
  rw[upd_same,hop,clo_congr (F:=x.F) (fun i hi=>by rw[upd_ne (by omega)])]
  simp
 have hL:=(k2.legs (by simp)).push (v':=.slice r.la 1 1) (l':=1) (f':=fun _=>lgs y) (Row.unhit x4 (od (by decide)) ho3) (fun g hg i hi hh=>h.lsep i hi g hh hg)
 have hQ:=(k2.pauses (by simp)).push (v':=.slice none 0 0) (l':=0) (f':=fun _=>[]) ⟨rfl,.inl ⟨rfl,rfl⟩⟩ (fun g hg=>by simp [Value.ownBlock] at hg)
 exact { h0.told ht hf with
  box:=by rw[setCell_at hbx,setAt_same (block_lt hbx)];rfl
  map:=k2.map,riding:=k2.riding (by simp),spots:=k2.spots (by simp)
  rides:=Row.unhit x3 (od (by decide)) ho3
  paused:=Row.unhit hr (od (by decide)) ho3
  legs:=Fam.congr hL (fun i _=>by
    show Value.slice (upd x.F x.n r i).la (upd x.F x.n r i).ln (upd x.F x.n r i).lc = _
    by_cases e:i = x.n
    ·subst e;rw[upd_same,upd_same,hln.1,hln.2]
    ·rw[upd_ne e,upd_ne e]) (fun i _=>by
    show (upd x.F x.n r i).ln = _
    by_cases e:i = x.n
    ·subst e;rw[upd_same,upd_same,hln.1]
    ·rw[upd_ne e,upd_ne e]) (fun i _ j _=>by
    show lgs (upd x.L x.n _ i j) = _
    by_cases e:i = x.n
    ·subst e;rw[upd_same,upd_same]
    ·rw[upd_ne e,upd_ne e])
  pauses:=Fam.congr hQ (fun i _=>by
    show Value.slice (upd x.F x.n r i).pa (upd x.F x.n r i).pn (upd x.F x.n r i).pc = _
    by_cases e:i = x.n
    ·subst e;rw[upd_same,upd_same,hpn.1,hpn.2.1,hpn.2.2]
    ·rw[upd_ne e,upd_ne e]) (fun i _=>by
    show (upd x.F x.n r i).pn = _
    by_cases e:i = x.n
    ·subst e;rw[upd_same,upd_same,hpn.2.1]
    ·rw[upd_ne e,upd_ne e]) (fun i _ j hj=>by
    by_cases e:i = x.n
    ·subst e;rw[upd_same] at hj;omega
    ·rw[upd_ne e])
  lens:=fun i hi=>by
   show 1≤(upd x.F x.n r i).ln∧(upd x.F x.n r i).ln≤t'∧(upd x.F x.n r i).pn≤t'
   have hi:i < x.n+1:=hi
   by_cases e:i = x.n
   ·subst e;rw[upd_same,hln.1,hpn.2.1];omega
   ·rw[upd_ne e];have a:=h0.lens i (by omega);omega
  bike:=fun i hi j hj=>by
   have hi:i < x.n+1:=hi
   have hj:j < (upd x.F x.n r i).ln:=hj
   show 0≤(upd x.L x.n _ i j).bike∧(upd x.L x.n _ i j).bike < o.N
   by_cases e:i = x.n
   ·subst e;rw[upd_same];exact hy
   ·rw[upd_ne e] at hj ⊢;exact h0.bike i (by omega) j hj
  cnt:=by
   show x.n+1+clo (upd x.F x.n r) (x.n+1)≤t'∧x.mn≤t'
   rw[cl]
   exact ⟨by omega,by have:=h0.cnt.2;omega⟩
  pls:=fun i hi=>by
   have hi:i < x.n+1:=hi
   show inI (upd x.F x.n r i).fp∧inI (upd x.F x.n r i).pl
   by_cases e:i = x.n
   ·subst e;rw[upd_same];exact hpl
   ·rw[upd_ne e];exact h0.pls i (by omega)
  s0:=fun i hi=>by
   have hi:i < x.n+1:=hi
   show inI (upd x.F x.n r i).s0
   by_cases e:i = x.n
   ·subst e;rw[upd_same];exact hs0
   ·rw[upd_ne e];exact h0.s0 i (by omega) }
end
end Go.Proofs.YtdpoppilnokniaaGreatDoor
