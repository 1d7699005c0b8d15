/- Theorems of this seat. -/
import Derived.Test.YtdpoppilnokniaaGreatDoorWSTA
import Derived.BigQuiet
import Derived.WalkLawsBesides
import Derived.BigRegion
import Derived.Test.YtdpoppilnokniaaGreatDoorWKB
namespace Go.Proofs.YtdpoppilnokniaaGreatDoor
open Go.RowKit Go.ChangeShapes Go.WideShapes Go.Deep
set_option linter.unusedVariables false
set_option linter.unusedSimpArgs false
theorem al_at (w:World) (a:Obj) {k:Nat}(hk:w.heap.size = k):(w.alloc a).heap[k]? = some a:=by subst hk;exact heap_alloc_new w a
theorem al_keep {w:World}{i:Nat}{o:Obj}(h:w.heap[i]? = some o) (a:Obj):(w.alloc a).heap[i]? = some o:=by
 have bb:Below w.heap.size w (w.alloc a):=(Below.refl _ _).alloc (Nat.le_refl _) _
 exact (bb.block _ (block_lt h)).trans h
theorem St.rvAt {o:StPlace}{w:World}{t:Nat}{x:Parts}(h:St o w t x) {k:Nat}(hk:k < x.n):∃ g c,x.rv = .slice (some ⟨g,0,none⟩) x.n c∧g < w.heap.size∧x.n≤c∧c≤9223372036854775807∧o.base≤g∧RdAt w g (k * 13) (x.F k)∧(∀ i,w.frozen? ⟨g,i,none⟩ = false):=by
 rcases Row.shape h.rides with ⟨_,e⟩ | ⟨g,c,e,h1,h2,h3,h4⟩
 ·omega
 ·have hr:=h.rides
  rw[e] at hr
  exact ⟨g,c,e,h2,h3,h4,h1,RdR.at hr hk,fun i=>Row.free hr i⟩
theorem St.pvAt {o:StPlace}{w:World}{t:Nat}{x:Parts}(h:St o w t x) {k:Nat}(hk:k < x.n):∃ g c,x.pv = .slice (some ⟨g,0,none⟩) x.n c∧g < w.heap.size∧x.n≤c∧c≤9223372036854775807∧o.base≤g∧w.cell? ⟨g,k,none⟩ = some (.bool (x.B k))∧(∀ i,w.frozen? ⟨g,i,none⟩ = false):=by
 rcases Row.shape h.paused with ⟨_,e⟩ | ⟨g,c,e,h1,h2,h3,h4⟩
 ·omega
 ·have hr:=h.paused
  rw[e] at hr
  refine ⟨g,c,e,h2,h3,h4,h1,?_,fun i=>Row.free hr i⟩
  have:=Row.cell hr (fun i=>rfl) hk (j:=0) (by decide)
  rw[Nat.mul_one,Nat.add_zero] at this
  exact this
theorem St.paAt {o:StPlace}{w:World}{t:Nat}{x:Parts}(h:St o w t x) {k:Nat}(hk:k < x.n) (hp:0 < (x.F k).pn):∃ g,(x.F k).pa = some ⟨g,0,none⟩∧g < w.heap.size∧(x.F k).pn≤(x.F k).pc∧(x.F k).pc≤9223372036854775807∧o.base≤g∧(∀ i,w.frozen? ⟨g,i,none⟩ = false)∧(∃ cs:Array Value,w.heap[g]? = some (.cells cs 108 (0,0)))∧(∀ j,j < (x.F k).pn→w.cell? ⟨g,j * 4+2,none⟩ = some (.int .i64 (x.Q k j).t0)∧w.cell? ⟨g,j * 4+3,none⟩ = some (.int .i64 (x.Q k j).t1)):=by
 have hr:=h.pauses.row k hk
 rcases Row.shape hr with ⟨_,e⟩ | ⟨g,c,e,h1,h2,h3,h4⟩
 ·omega
 ·simp only[Value.slice.injEq] at e
  obtain ⟨e1,e2,e3⟩:=e
  rw[e1] at hr
  exact ⟨g,e1,h2,by rw[e3];exact h3,by rw[e3];exact h4,h1,fun i=>Row.free hr i,Row.typ hr rfl,fun j hj=>⟨Row.cell hr (fun i=>rfl) hj (j:=2) (by decide),Row.cell hr (fun i=>rfl) hj (j:=3) (by decide)⟩⟩
def PauT (w:World) (q:Nat):Prop:=(∃ (cs:Array Value) (fz:Nat×Nat),w.heap[q]? = some (.cells cs 4 fz))∨(∃ (cs:Array Value) (fz:Nat×Nat),w.heap[q]? = some (.cells cs 108 fz))
theorem PauT.not {w:World}{q:Nat}{cs:Array Value}{T:TypeId}{fz:Nat×Nat}(h:w.heap[q]? = some (.cells cs T fz)) (h1:T ≠ 4) (h2:T ≠ 108):¬ PauT w q:=fun e=>by
 rcases e with ⟨cs',fz',e⟩ | ⟨cs',fz',e⟩
 ·rw[h] at e;simp at e;exact h1 e.2.1
 ·rw[h] at e;simp at e;exact h2 e.2.1
set_option maxRecDepth 8000 in
set_option maxHeartbeats 8000000 in
theorem resume39 (o:StPlace) (w:World) (t:Nat) (x:Parts) (k:Nat) (a b:Int) (h:St o w t x) (hk:k < x.n) :
  Calls Tryz.prog 39 #[.pointer (some ⟨o.S,0,none⟩),.int .i64 k,.agg #[.int .i64 a,.int .i64 b]] w fun e w'=>e = .returned (.tuple #[])∧Below o.base w w'∧Off (PauT w) w w'∧∃ B' Q',St o w' t { x with B:=B',Q:=Q' }:=by
 have hnt:x.n≤1000:=by have:=h.cnt.1;have:=h.few.1;omega
 obtain ⟨rg,rc,erv,r1,r2,r3,r4,r5,r6⟩:=h.rvAt hk
 obtain ⟨pg,pc,epv,p1,p2,p3,p4,p5,p6⟩:=h.pvAt hk
 have hlp:=(h.lens k hk).2.2
 have BB:Hid (Below w.heap.size w (w.alloc (.cells #[.int .i64 a,.int .i64 b] 65))):=Lib.hid (by (repeat' (first | with_reducible (first | exact Below.refl _ _ | assumption | refine Below.drew ?_ | refine below_drewN ?_ _ | refine Below.alloc ?_ ?_ _ | refine Below.setCell ?_ ?_ _) | go_size)))
 have X0:=Lib.hid (al_at w (.cells #[.int .i64 a,.int .i64 b] 65) rfl)
 have H:=Lib.hid h
 obtain ⟨w1,hw1⟩:∃ w1,w1 = w.alloc (.cells #[.int .i64 a,.int .i64 b] 65):=⟨_,rfl⟩
 rw[←hw1] at BB X0
 have HW:=Lib.hid hw1
 clear hw1
 have H1:=Lib.hid (H.out.below BB.out)
 have hb:=H1.out.box
 rw[erv,epv] at hb
 have HB:=Lib.hid hb
 obtain ⟨gx,hgx⟩:∃ gx,gx = x.F k:=⟨_,rfl⟩
 rw[←hgx] at r5 hlp
 have HGX:=Lib.hid hgx
 clear h hb hgx
 obtain ⟨g1,g2,g3,g4,g5,g6,g7,g8,g9,g10,g11,g12,g13,g14,g15,g16,g17⟩:=gx
 dsimp only at hlp
 have s0:=cell_at HB.out 0
 have s3:=cell_at HB.out 3
 have sfr:=fun i=>free_at HB.out i
 have zs:=szs (block_lt HB.out)
 have f8:=cell_kept BB.out r5.c8
 have f9:=cell_kept BB.out p5
 dsimp only at f8 f9
 have q0:=cell_at X0.out 0
 have q1:=cell_at X0.out 1
 have zq:=szs (block_lt X0.out)
 have zr:=szs (Nat.lt_of_lt_of_le r1 BB.out.size)
 have zp:=szs (Nat.lt_of_lt_of_le p1 BB.out.size)
 have fp:∀ i,w1.frozen? ⟨pg,i,none⟩ = false:=by
  have hr:=H1.out.paused
  rw[epv] at hr
  exact fun i=>Row.free hr i
 clear r5 r6 p5 p6 r1 p1
 have hkI:(k:Int) < (x.n:Int):=by omega
 have ERV:=Lib.hid erv
 have EPV:=Lib.hid epv
 have OB1:Hid (Off (PauT w) w w1):=Lib.hid (Off.of_below BB.out)
 have pT:PauT w pg:=by
  have hr:=H.out.paused
  rw[epv] at hr
  obtain ⟨cs,hcs⟩:=own_typ hr
  exact .inl ⟨cs,_,hcs⟩
 have PT:=Lib.hid pT
 have OL:=Lib.hid (H.out.lo.1)
 have HPB:=Lib.hid p4
 -- the end: the ride does not pause any more
 have fin:Hid (∀ (w2:World) (Q':Nat→Nat→Pau),Below o.base w w2→Off (PauT w) w w2→St o w2 t { x with Q:=Q' }→Below o.base w (w2.setCell ⟨pg,k,none⟩ (.bool false))∧Off (PauT w) w (w2.setCell ⟨pg,k,none⟩ (.bool false))∧∃ B' Q',St o (w2.setCell ⟨pg,k,none⟩ (.bool false)) t { x with B:=B',Q:=Q' }):=Lib.hid (fun w2 Q' b2 o2 h2=>by
  have ho:Off (fun b=>b = pg) w2 (w2.setCell ⟨pg,k,none⟩ (.bool false)):=off_set
  exact ⟨b2.trans (ho.toBelow (Nat.le_trans (by have:=block_lt H.out.box;have:=H.out.lo.1;omega) o2.size) (fun q hq e=>by have e:q = pg:=e;omega)),o2.trans ho (fun q _ e=>by have e:q = pg:=e;subst e;exact pT),_,Q',h2.setB (g:=pg) (c:=pc) epv hk false⟩)
 clear erv epv pT p4
 have htt:=H.out.few.1
 have hlpI:(g12:Int)≤1000:=by omega
 obtain ⟨bk,hbk⟩:∃ bk,x.B k = bk:=⟨_,rfl⟩
 rw[hbk] at f9
 clear hbk
 have base:Hid (o.base≤w.heap.size):=Lib.hid (by
  have:=block_lt H.out.box
  have:=H.out.lo.1
  omega)
 by_cases hp:bk = true∧0 < g12
 ·obtain ⟨rfl,hp⟩:=hp
  obtain ⟨m,rfl⟩:∃ m,g12 = m+1:=⟨g12 - 1,by omega⟩
  have hpk:0 < (x.F k).pn:=by rw[←HGX.out];exact hp
  obtain ⟨g,e1,v1,v2,v3,v4,v5,⟨cs,v6⟩,v7⟩:=H.out.paAt hk hpk
  have v7:=v7 m (by rw[←HGX.out];exact Nat.lt_succ_self m)
  rw[←HGX.out] at e1 v2 v3
  dsimp only at e1 v2 v3
  subst e1
  have PG:Hid (PauT w g):=Lib.hid (.inr ⟨cs,_,v6⟩)
  have fg:∀ i,w1.frozen? ⟨g,i,none⟩ = false:=fun i=>by
   have v8:=(BB.out.block g v1).trans v6
   exact free_at v8 i
  have c2:=cell_kept BB.out v7.1
  have c3:=cell_kept BB.out v7.2
  have zg:=szs (Nat.lt_of_lt_of_le v1 BB.out.size)
  have HV:=Lib.hid v4
  have HS:Hid (∃ y,St o ((w1.setCell ⟨g,m * 4+2,none⟩ (.int .i64 a)).setCell ⟨g,m * 4+3,none⟩ (.int .i64 b)) t { x with Q:=upd x.Q k (upd (x.Q k) m y) }):=Lib.hid (H1.out.setQ hk (by rw[←HGX.out]) (by rw[←HGX.out];exact Nat.lt_succ_self m) a b)
  have ngp:g ≠ pg:=fun e=>by
   obtain ⟨cs',hcs⟩:=own_typ (e ▸ (by have hr:=H.out.paused;rw[EPV.out] at hr;exact hr:Row w o.base 4 1 (.slice (some ⟨pg,0,none⟩) x.n pc) x.n (boR x.B)))
   rw[←e] at *
   rw[v6] at hcs
   simp at hcs
  have ngs:g ≠ o.S:=fun e=>by
   have hx:=H.out.box
   rw[←e,v6] at hx
   simp at hx
  have ngs':o.S ≠ g:=fun e=>ngs e.symm
  have ngp':pg ≠ g:=fun e=>ngp e.symm
  have fin2:Hid (∃ y,Below o.base w (((w1.setCell ⟨g,m * 4+2,none⟩ (.int .i64 a)).setCell ⟨g,m * 4+3,none⟩ (.int .i64 b)).setCell ⟨pg,k,none⟩ (.bool false))∧Off (PauT w) w (((w1.setCell ⟨g,m * 4+2,none⟩ (.int .i64 a)).setCell ⟨g,m * 4+3,none⟩ (.int .i64 b)).setCell ⟨pg,k,none⟩ (.bool false))∧∃ B' Q',St o (((w1.setCell ⟨g,m * 4+2,none⟩ (.int .i64 a)).setCell ⟨g,m * 4+3,none⟩ (.int .i64 b)).setCell ⟨pg,k,none⟩ (.bool false)) t { x with B:=B',Q:=Q' }∧y = ()):=Lib.hid (by
   obtain ⟨y,hy⟩:=HS.out
   have ho:Off (fun b=>b = g) w1 ((w1.setCell ⟨g,m * 4+2,none⟩ (.int .i64 a)).setCell ⟨g,m * 4+3,none⟩ (.int .i64 b)):=off_set2
   have hbb:=(BB.out.mono base.out).trans (ho.toBelow (Nat.le_trans base.out BB.out.size) (fun q hq e=>by have e:q = g:=e;omega))
   obtain ⟨z1,z2,B2,Q2,z3⟩:=fin.out _ _ hbb (OB1.out.trans ho (fun q _ e=>by have e:q = g:=e;subst e;exact PG.out)) hy
   exact ⟨(),z1,z2,B2,Q2,z3,rfl⟩)
  clear v1 v4 v6 v7 HS fin
  go_enter Tryz.func39,Tryz.ntmps39
  go_simp
  iterate 8 (first | rw[←HW.out] | go_step)
  go_wp2_with fail
  go_returns
  obtain ⟨_,z1,z2,B2,Q2,z3,_⟩:=fin2.out
  exact ⟨rfl,z1,z2,B2,Q2,z3⟩
 ·have hp2:bk = false∨g12 = 0:=by
   cases bk
   ·exact .inl rfl
   ·exact .inr (by have:¬ 0 < g12:=fun h=>hp ⟨rfl,h⟩;omega)
  have fin2:=fin.out w1 x.Q (BB.out.mono base.out) OB1.out H1.out
  clear hp
  rcases hp2 with rfl | rfl
  ·go_enter Tryz.func39,Tryz.ntmps39
   go_simp
   iterate 8 (first | rw[←HW.out] | go_step)
   go_wp2_with fail
   go_returns
   exact ⟨rfl,fin2⟩
  ·go_enter Tryz.func39,Tryz.ntmps39
   go_simp
   iterate 8 (first | rw[←HW.out] | go_step)
   go_wp2_with fail
   all_goals go_returns
   all_goals exact ⟨rfl,fin2⟩
end Go.Proofs.YtdpoppilnokniaaGreatDoor
namespace Go.Proofs.YtdpoppilnokniaaGreatDoor
open Go.RowKit Go.ChangeShapes Go.WideShapes Go.Deep
set_option linter.unusedVariables false
set_option linter.unusedSimpArgs false
set_option linter.unnecessarySimpa false
theorem St.laAt {o:StPlace}{w:World}{t:Nat}{x:Parts}(h:St o w t x) {k:Nat}(hk:k < x.n):∃ g m,(x.F k).la = some ⟨g,0,none⟩∧(x.F k).ln = m+1∧g < w.heap.size∧m+1≤(x.F k).lc∧(x.F k).lc≤9223372036854775807∧o.base≤g∧(∀ i,w.frozen? ⟨g,i,none⟩ = false)∧(∃ cs:Array Value,w.heap[g]? = some (.cells cs 67 (0,0)))∧w.cell? ⟨g,m * 5,none⟩ = some (.int .i64 (x.L k m).bike)∧w.cell? ⟨g,m * 5+3,none⟩ = some (.int .i64 (x.L k m).t0)∧w.cell? ⟨g,m * 5+4,none⟩ = some (.int .i64 (x.L k m).t1)∧0≤(x.L k m).bike∧(x.L k m).bike < o.N:=by
 have hr:=h.legs.row k hk
 have hl:=(h.lens k hk).1
 rcases Row.shape hr with ⟨_,e⟩ | ⟨g,c,e,h1,h2,h3,h4⟩
 ·omega
 ·simp only[Value.slice.injEq] at e
  obtain ⟨e1,e2,e3⟩:=e
  rw[e1] at hr
  obtain ⟨m,hm⟩:∃ m,(x.F k).ln = m+1:=⟨(x.F k).ln - 1,by omega⟩
  have lt:m < (x.F k).ln:=by omega
  have bk:=h.bike k hk m lt
  exact ⟨g,m,e1,hm,h2,by rw[e3];omega,by rw[e3];exact h4,h1,fun i=>Row.free hr i,Row.typ hr rfl,Row.cell hr (fun i=>rfl) lt (j:=0) (by decide),Row.cell hr (fun i=>rfl) lt (j:=3) (by decide),Row.cell hr (fun i=>rfl) lt (j:=4) (by decide),bk.1,bk.2⟩
def endR (r:Rid) (a b wh pl:Int):Rid:={ r with e0:=a,e1:=b,op:=false,wh:=wh,pl:=pl }
theorem RdR.ended {w:World}{base g n c k:Nat}{F:Nat→Rid}(h:RdR w base (.slice (some ⟨g,0,none⟩) n c) n F) (hk:k < n) (a b wh pl:Int) :
  RdR (((((w.setCell ⟨g,k * 13+4,none⟩ (.int .i64 a)).setCell ⟨g,k * 13+5,none⟩ (.int .i64 b)).setCell ⟨g,k * 13+6,none⟩ (.bool false)).setCell ⟨g,k * 13+11,none⟩ (.int .i64 wh)).setCell ⟨g,k * 13+12,none⟩ (.int .i64 pl)) base (.slice (some ⟨g,0,none⟩) n c) n (upd F k (endR (F k) a b wh pl)):=by
 have l0:∀ i,(rds (F i)).length = 13:=fun i=>rds_len (F i)
 have h1:=Row.store h l0 hk (j:=4) (by decide) (.int .i64 a)
 have l1:=updLen l0 k 4 (.int .i64 a)
 have h2:=Row.store h1 l1 hk (j:=5) (by decide) (.int .i64 b)
 have l2:=updLen l1 k 5 (.int .i64 b)
 have h3:=Row.store h2 l2 hk (j:=6) (by decide) (.bool false)
 have l3:=updLen l2 k 6 (.bool false)
 have h4:=Row.store h3 l3 hk (j:=11) (by decide) (.int .i64 wh)
 have l4:=updLen l3 k 11 (.int .i64 wh)
 have h5:=Row.store h4 l4 hk (j:=12) (by decide) (.int .i64 pl)
 refine Row.congr h5 (fun j _=>?_)
 show _ = rds (upd F k _ j)
 by_cases e:j = k
 ·subst e;simp only[upd_same];rfl
 ·simp only[upd_ne e]
theorem off_ended {w:World}{g p:Nat}(a b wh pl:Int):Off (fun q=>q = g) w (((((w.setCell ⟨g,p+4,none⟩ (.int .i64 a)).setCell ⟨g,p+5,none⟩ (.int .i64 b)).setCell ⟨g,p+6,none⟩ (.bool false)).setCell ⟨g,p+11,none⟩ (.int .i64 wh)).setCell ⟨g,p+12,none⟩ (.int .i64 pl)) :=
 ((((off_set (w:=w)).trans off_set (fun _ _ h=>h)).trans off_set (fun _ _ h=>h)).trans off_set (fun _ _ h=>h)).trans off_set (fun _ _ h=>h)
def Told (o:StPlace) (w:World) (t:Nat) (e:Ending) (w':World):Prop:=e = .returned (.tuple #[])∧Below o.base w w'∧∃ x',x'.m = x'.n∧St o w' (t+1) x'
set_option maxRecDepth 8000 in
set_option maxHeartbeats 16000000 in
theorem leave40 (o:StPlace) (w:World) (t:Nat) (x:Parts) (c:Nat) (z:Sp) (a b:Int) (h:St o w t x) (hm:x.m = x.n) (hc:c < o.N) (ht:t < 1000) (hz2:inI z.pl) :
  Calls Tryz.prog 40 #[.pointer (some ⟨o.S,0,none⟩),.int .i64 c,.agg (sps z).toArray,.agg #[.int .i64 a,.int .i64 b]] w (Told o w t):=by
 obtain ⟨z1,z2,z3,z4⟩:=z
 have base:Hid (o.base≤w.heap.size):=Lib.hid (by
  have:=block_lt h.box
  have:=h.lo.1
  omega)
 have BB:Hid (Below w.heap.size w ((w.alloc (.cells #[.int .i64 z1,.int .i64 z2,.int .i64 z3,.bool z4] 112)).alloc (.cells #[.int .i64 a,.int .i64 b] 65))):=Lib.hid (by (repeat' (first | with_reducible (first | exact Below.refl _ _ | assumption | refine Below.drew ?_ | refine below_drewN ?_ _ | refine Below.alloc ?_ ?_ _ | refine Below.setCell ?_ ?_ _) | go_size)))
 have X0:=Lib.hid (al_keep (al_at w (.cells #[.int .i64 z1,.int .i64 z2,.int .i64 z3,.bool z4] 112) rfl) (.cells #[.int .i64 a,.int .i64 b] 65))
 have X1:=Lib.hid (al_at (w.alloc (.cells #[.int .i64 z1,.int .i64 z2,.int .i64 z3,.bool z4] 112)) (.cells #[.int .i64 a,.int .i64 b] 65) (k:=w.heap.size+1) (by simp))
 obtain ⟨w1,hw1⟩:∃ w1,w1 = (w.alloc (.cells #[.int .i64 z1,.int .i64 z2,.int .i64 z3,.bool z4] 112)).alloc (.cells #[.int .i64 a,.int .i64 b] 65):=⟨_,rfl⟩
 rw[←hw1] at BB X0 X1
 have HW:=Lib.hid hw1
 clear hw1
 have H1:=Lib.hid (h.below BB.out)
 have HM:=Lib.hid hm
 have hoN:=h.few.2
 have hP:o.base≤o.P∧o.P < w1.heap.size:=World.ownsRow.lt H1.out.spots o.P rfl
 have hG:o.base≤o.G∧o.G < w1.heap.size:=World.ownsRow.lt H1.out.riding o.G rfl
 have HP:=Lib.hid hP
 have HG:=Lib.hid hG
 have hHP:=Nat.lt_of_le_of_lt (Nat.le_of_lt_succ (Nat.lt_succ_of_lt (Nat.lt_of_succ_le (Nat.succ_le_of_lt (World.ownsRow.lt h.spots o.P rfl).2)))) (Nat.lt_succ_self _)
 have nP:o.P < w.heap.size:=(World.ownsRow.lt h.spots o.P rfl).2
 clear h hm hHP
 have hcI:(c:Int) < (o.N:Int):=by omega
 have s4:=cell_at H1.out.box 4
 have zs:=szs (block_lt H1.out.box)
 have q0:=cell_at X0.out 0
 have q1:=cell_at X0.out 1
 have q2:=cell_at X0.out 2
 have q3:=cell_at X0.out 3
 have zq:=szs (block_lt X0.out)
 have p0:w1.cell? ⟨o.P,c * 4,none⟩ = some (.int .i64 (x.Z c).wh):=Row.cell H1.out.spots (fun i=>rfl) hc (j:=0) (by decide)
 have p1:w1.cell? ⟨o.P,c * 4+1,none⟩ = some (.int .i64 (x.Z c).pl):=Row.cell H1.out.spots (fun i=>rfl) hc (j:=1) (by decide)
 have p2:w1.cell? ⟨o.P,c * 4+2,none⟩ = some (.int .i64 (x.Z c).rd):=Row.cell H1.out.spots (fun i=>rfl) hc (j:=2) (by decide)
 have p3:w1.cell? ⟨o.P,c * 4+3,none⟩ = some (.bool (x.Z c).ps):=Row.cell H1.out.spots (fun i=>rfl) hc (j:=3) (by decide)
 have fr:=fun i=>Row.free H1.out.spots i
 have zp:=szs hP.2
 unfold sps
 dsimp only
 go_enter Tryz.func40,Tryz.ntmps40
 go_simp
 iterate 12 (first | rw[←HW.out] | go_step)
 go_wp2_with fail
 (refine region_order (fun i:Nat=>World.drewN _ i) [] [0,1,2,3,4,5,6] 7 [] mixed (by kernel_rfl) ⟨1,rfl⟩ ?_;simp only[List.map_cons,List.map_nil,Array.getD_eq_getD_getElem?,List.getElem?_toArray,List.getElem?_cons_zero,List.getElem?_cons_succ,Option.getD_some];(repeat (refine wpPure_cons _ rfl (fun w'=>by go_simp;try rfl) ?_;dsimp only[Act.put]));refine wpPure_nil ?_;(repeat (any_goals (first | go_big_quiet_step (fail) | quiet_step (fail) | (refine wpQuiet_step (fun K hK=>?_);go_simp;split <;> (refine hK _ ?_;clear hK K)))));(all_goals (refine wpQuiet_nil (fun nq=>?_))))
 have bq:Below w1.heap.size w1 (w1.drewN nq):=below_drewN (Below.refl _ _) nq
 have S2:Hid (St o ((((w1.drewN nq).setCell ⟨o.P,c * 4,none⟩ (.int .i64 z1)).setCell ⟨o.P,c * 4+1,none⟩ (.int .i64 z2)).setCell ⟨o.P,c * 4+2,none⟩ (.int .i64 z3) |>.setCell ⟨o.P,c * 4+3,none⟩ (.bool z4)) t { x with Z:=upd x.Z c ⟨z1,z2,z3,z4⟩ }):=Lib.hid ((H1.out.below bq).setZ hc ⟨z1,z2,z3,z4⟩ hz2)
 have O2:Hid (Off (fun q=>q = o.P) w1 ((((w1.drewN nq).setCell ⟨o.P,c * 4,none⟩ (.int .i64 z1)).setCell ⟨o.P,c * 4+1,none⟩ (.int .i64 z2)).setCell ⟨o.P,c * 4+2,none⟩ (.int .i64 z3) |>.setCell ⟨o.P,c * 4+3,none⟩ (.bool z4))):=Lib.hid (off_putCells (X:=fun q=>q = o.P) rfl (sps ⟨z1,z2,z3,z4⟩) (c * 4) _ (Off.of_below bq))
 clear bq
 go_wp2_with fail
 refine onlyN_intro ?_
 obtain ⟨w2,hw2⟩:∃ w2,w2 = ((((w1.drewN nq).setCell ⟨o.P,c * 4,none⟩ (.int .i64 z1)).setCell ⟨o.P,c * 4+1,none⟩ (.int .i64 z2)).setCell ⟨o.P,c * 4+2,none⟩ (.int .i64 z3)).setCell ⟨o.P,c * 4+3,none⟩ (.bool z4):=⟨_,rfl⟩
 rw[←hw2] at S2 O2 ⊢
 clear hw2 s4 zs q0 q1 q2 q3 zq p0 p1 p2 p3 fr zp
 have X1b:=Lib.hid ((O2.out.block (w.heap.size+1) (block_lt X1.out) (fun e=>by have e:w.heap.size+1 = o.P:=e;omega)).trans X1.out)
 have X0b:=Lib.hid ((O2.out.block w.heap.size (block_lt X0.out) (fun e=>by have e:w.heap.size = o.P:=e;omega)).trans X0.out)
 have b2:=O2.out.toBelow (Nat.le_trans base.out BB.out.size) (fun q hq e=>by have e:q = o.P:=e;omega)
 have B2:=Lib.hid ((BB.out.mono base.out).trans b2)
 clear b2 X0 X1 O2 H1 HW BB
 have s2:=cell_at S2.out.box 2
 have zs:=szs (block_lt S2.out.box)
 have v0:w2.cell? ⟨o.G,c * 1+0,none⟩ = some (.int .i64 (x.V c)):=Row.cell S2.out.riding (fun i=>rfl) hc (j:=0) (by decide)
 rw[Nat.mul_one,Nat.add_zero] at v0
 have zg:=szs (World.ownsRow.lt S2.out.riding o.G rfl).2
 have hV:=S2.out.rid c hc
 dsimp only at hV
 obtain ⟨vk,hvk⟩:∃ vk,vk = x.V c:=⟨_,rfl⟩
 rw[←hvk] at hV v0
 clear hvk
 by_cases hneg:vk < 0
 ·have t1:decide (vk < 0) = true:=decide_eq_true hneg
  go_wp2_with fail
  go_returns
  exact ⟨rfl,B2.out,{ x with Z:=upd x.Z c ⟨z1,z2,z3,z4⟩ },HM.out,S2.out.told (Nat.le_succ t) (by omega)⟩
 ·obtain ⟨k,rfl⟩:=Int.eq_ofNat_of_zero_le (show 0≤vk by omega)
  have hk:k < x.n:=by have:=HM.out;omega
  have t1:decide ((k:Int) < 0) = false:=decide_eq_false hneg
  have r0:=cell_at X1b.out 0
  have r1:=cell_at X1b.out 1
  have zr:=szs (block_lt X1b.out)
  go_wp2_with fail
  refine (resume39 o w2 t _ k a b S2.out hk).mono ?_
  rintro e w3 ⟨rfl,b3,o3,Bx,Qx,h3⟩
  have S3:=Lib.hid h3
  have X1c:=Lib.hid ((o3.block (w.heap.size+1) (block_lt X1b.out) (PauT.not X1b.out (by decide) (by decide))).trans X1b.out)
  have X0c:=Lib.hid ((o3.block w.heap.size (block_lt X0b.out) (PauT.not X0b.out (by decide) (by decide))).trans X0b.out)
  have B3:=Lib.hid (B2.out.trans b3)
  have Z3:Hid (o.base≤w3.heap.size):=Lib.hid (by
   have:=block_lt h3.box
   have:=h3.lo.1
   omega)
  clear h3 o3 b3 S2 B2 X1b X0b s2 zs v0 zg r0 r1 zr
  obtain ⟨rg,rc,erv,i1,i2,i3,i4,i5,i6⟩:=S3.out.rvAt hk
  obtain ⟨g,m,ela,eln,j1,j2,j3,j4,j5,⟨cs,j6⟩,j7,j8,j9,j10,j11⟩:=S3.out.laAt hk
  dsimp only at erv ela eln i5 j2 j3 j7 j8 j9 j10 j11
  have hnt:x.n≤1000:=by have a1:=S3.out.cnt.1;dsimp only at a1;omega
  have hml:m < (x.F k).ln:=by omega
  have hm1:m+1≤1000:=by have a1:=(S3.out.lens k hk).2.1;dsimp only at a1;omega
  have hb:=S3.out.box
  rw[show (⟨x.n,x.rv,x.pv,x.F,x.V,upd x.Z c ⟨z1,z2,z3,z4⟩,x.L,Qx,Bx,x.mp,x.mn,x.m⟩:Parts).rv = .slice (some ⟨rg,0,none⟩) x.n rc from erv] at hb
  have ngs:g ≠ o.S:=fun e=>by
   rw[←e,j6] at hb
   simp at hb
  have ngs':o.S ≠ g:=fun e=>ngs e.symm
  have hrd:=S3.out.rides
  dsimp only at hrd
  rw[erv] at hrd
  obtain ⟨cs2,j12⟩:=own_typ hrd
  have ngr:g ≠ rg:=fun e=>by
   rw[←e,j6] at j12
   simp at j12
  have ngr':rg ≠ g:=fun e=>ngr e.symm
  have nq1:g ≠ w.heap.size+1:=fun e=>by
   rw[e,X1c.out] at j6
   simp at j6
  have nq1':w.heap.size+1 ≠ g:=fun e=>nq1 e.symm
  have nq0:g ≠ w.heap.size:=fun e=>by
   rw[e,X0c.out] at j6
   simp at j6
  have nr0:rg ≠ w.heap.size:=fun e=>by
   rw[e,X0c.out] at j12
   simp at j12
  have nr0':w.heap.size ≠ rg:=fun e=>nr0 e.symm
  have nr1:rg ≠ w.heap.size+1:=fun e=>by
   rw[e,X1c.out] at j12
   simp at j12
  have nr1':w.heap.size+1 ≠ rg:=fun e=>nr1 e.symm
  have s0:=cell_at hb 0
  have s2:=cell_at hb 2
  have zs:=szs (block_lt hb)
  have f7:=i5.c7
  rw[ela,eln] at f7
  have zr:=szs i1
  have zl:=szs j1
  have r0:=cell_at X1c.out 0
  have r1:=cell_at X1c.out 1
  have zx:=szs (block_lt X1c.out)
  have hkI:(k:Int) < (x.n:Int):=by omega
  have ERV:=Lib.hid erv
  have ELA:=Lib.hid ela
  have ELN:=Lib.hid eln
  have HI5:=Lib.hid i5
  clear erv ela eln i5 hrd j12 j6 j10 j11 hb
  go_wp2_with fail
  (refine region_order (fun i:Nat=>World.drewN _ i) [] [0,1,2,3,4,5,6,7,8,9,10,11,12] 13 [] mixed (by kernel_rfl) ⟨1,rfl⟩ ?_;simp only[List.map_cons,List.map_nil,Array.getD_eq_getD_getElem?,List.getElem?_toArray,List.getElem?_cons_zero,List.getElem?_cons_succ,Option.getD_some];(repeat (refine wpPure_cons _ rfl (fun w'=>by go_simp;try rfl) ?_;dsimp only[Act.put]));refine wpPure_nil ?_;(repeat (any_goals (first | go_big_quiet_step (fail) | quiet_step (fail) | (refine wpQuiet_step (fun K hK=>?_);go_simp;split <;> (refine hK _ ?_;clear hK K)))));(all_goals (refine wpQuiet_nil (fun nq=>?_))))
  have bq:Below w3.heap.size w3 (w3.drewN nq):=below_drewN (Below.refl _ _) nq
  have S4:Hid (∃ L4,St o (((w3.drewN nq).setCell ⟨g,m * 5+3,none⟩ (.int .i64 a)).setCell ⟨g,m * 5+3+1,none⟩ (.int .i64 b)) t ⟨x.n,x.rv,x.pv,x.F,x.V,upd x.Z c ⟨z1,z2,z3,z4⟩,L4,Qx,Bx,x.mp,x.mn,x.m⟩):=Lib.hid (by
   obtain ⟨y,_,hy⟩:=(S3.out.below bq).setL (g:=g) (j:=m) hk ELA.out hml a b
   exact ⟨_,hy⟩)
  have O4:Hid (Off (fun q=>q = g) w3 (((w3.drewN nq).setCell ⟨g,m * 5+3,none⟩ (.int .i64 a)).setCell ⟨g,m * 5+3+1,none⟩ (.int .i64 b))):=Lib.hid ((Off.of_below bq).trans off_set2 (fun _ _ h=>h))
  clear bq
  go_wp2_with fail
  refine onlyN_intro ?_
  obtain ⟨w4,hw4⟩:∃ w4,w4 = ((w3.drewN nq).setCell ⟨g,m * 5+3,none⟩ (.int .i64 a)).setCell ⟨g,m * 5+3+1,none⟩ (.int .i64 b):=⟨_,rfl⟩
  rw[←hw4] at S4 O4 ⊢
  clear hw4 s0 s2 zs f7 zr zl r0 r1 zx j5 j7 j8 j9 i6
  obtain ⟨L4,S4⟩:=S4.out
  replace S4:=Lib.hid S4
  have X1d:=Lib.hid ((O4.out.block (w.heap.size+1) (block_lt X1c.out) (fun e=>nq1' e)).trans X1c.out)
  have X0d:=Lib.hid ((O4.out.block w.heap.size (block_lt X0c.out) (fun e=>nq0 e.symm)).trans X0c.out)
  have B4:=Lib.hid (B3.out.trans (O4.out.toBelow Z3.out (fun q hq e=>by have e:q = g:=e;omega)))
  have Z4:=Lib.hid (Nat.le_trans Z3.out O4.out.size)
  have hrd:=S4.out.rides
  dsimp only at hrd
  rw[ERV.out] at hrd
  have i5:=RdR.at hrd hk
  have HRD:=Lib.hid hrd
  have fr:=fun i=>Row.free hrd i
  have f4:=i5.c4
  have f5:=i5.c5
  have f6:=i5.c6
  have f11:=i5.c11
  have f12:=i5.c12
  have zr:=szs (Nat.lt_of_lt_of_le i1 O4.out.size)
  have q0:=cell_at X0d.out 0
  have q1:=cell_at X0d.out 1
  have zq:=szs (block_lt X0d.out)
  have r0:=cell_at X1d.out 0
  have r1:=cell_at X1d.out 1
  have zx:=szs (block_lt X1d.out)
  clear hrd i5 S3 O4 X1c X0c B3 Z3
  go_wp2_with fail
  go_region
  obtain ⟨w5,hw5⟩:∃ w5,w5 = (((((w4.setCell ⟨rg,k * 13+4,none⟩ (.int .i64 a)).setCell ⟨rg,k * 13+4+1,none⟩ (.int .i64 b)).setCell ⟨rg,k * 13+6,none⟩ (.bool false)).setCell ⟨rg,k * 13+11,none⟩ (.int .i64 z1)).setCell ⟨rg,k * 13+12,none⟩ (.int .i64 z2)).drew:=⟨_,rfl⟩
  rw[←hw5]
  have O5:Off (fun q=>q = rg) w4 w5:=by rw[hw5];exact (off_ended a b z1 z2).drew
  have R5:RdR w5 o.base (.slice (some ⟨rg,0,none⟩) x.n rc) x.n (upd x.F k (endR (x.F k) a b z1 z2)):=by
   rw[hw5]
   exact RdR.off (X:=fun _=>False) (HRD.out.ended hk a b z1 z2) (Off.drew (Off.refl _ _)) (fun _ _ h=>h)
  have S5:=Lib.hid (S4.out.setR hk ERV.out O5 (endR (x.F k) a b z1 z2) R5 rfl rfl rfl rfl rfl rfl rfl rfl hz2 (Nat.le_succ t) (by omega) (by
   have h1:=S4.out.cnt.1
   have h2:=clo_upd (F:=x.F) (x:=endR (x.F k) a b z1 z2) (k:=k) (n:=x.n)
   dsimp only at h1
   show x.n+clo (upd x.F k (endR (x.F k) a b z1 z2)) x.n≤t+1
   omega))
  have B5:=Lib.hid (B4.out.trans (O5.toBelow Z4.out (fun q hq e=>by have e:q = rg:=e;omega)))
  have Z5:=Lib.hid (Nat.le_trans Z4.out O5.size)
  have hG6:=World.ownsRow.lt S5.out.riding o.G rfl
  have O6:Off (fun q=>q = o.G) w5 (w5.setCell ⟨o.G,c,none⟩ (.int .i64 (-1))):=off_set
  have B6:=Lib.hid (B5.out.trans (O6.toBelow Z5.out (fun q hq e=>by have e:q = o.G:=e;omega)))
  have S6:=Lib.hid (S5.out.setV hc (k:=-1) ⟨by omega,by show (-1:Int) < (x.m:Int);omega⟩)
  have s2:=cell_at S5.out.box 2
  have zs:=szs (block_lt S5.out.box)
  have v0:w5.cell? ⟨o.G,c * 1+0,none⟩ = some (.int .i64 (x.V c)):=Row.cell S5.out.riding (fun i=>rfl) hc (j:=0) (by decide)
  rw[Nat.mul_one,Nat.add_zero] at v0
  have zg:=szs hG6.2
  have frg:=fun i=>Row.free S5.out.riding i
  clear hw5 S4 f4 f5 f6 f11 f12 zr q0 q1 zq r0 r1 zx fr O5 R5 S5 O6 B5 Z5 hG6 HRD B4 X1d X0d Z4
  go_wp2_with fail
  go_returns
  refine ⟨rfl,B6.out,?_⟩
  have HMM:=HM.out
  refine Exists.intro _ (And.intro ?_ S6.out)
  exact HMM
end Go.Proofs.YtdpoppilnokniaaGreatDoor
namespace Go.Proofs.YtdpoppilnokniaaGreatDoor
open Go.RowKit Go.ChangeShapes Go.WideShapes Go.Deep
set_option linter.unusedVariables false
set_option linter.unusedSimpArgs false
set_option maxRecDepth 8000
theorem infoLg:(Tryz.prog.info? 67).map (fun i=>(i.zero,i.size,i.bytes)) = some (some (.agg #[.int .i64 0,.int .i64 0,.int .i64 0,.int .i64 0,.int .i64 0]),5,40):=by kernel_rfl
theorem infoPu:(Tryz.prog.info? 108).map (fun i=>(i.zero,i.size,i.bytes)) = some (some (.agg #[.int .i64 0,.int .i64 0,.int .i64 0,.int .i64 0]),4,32):=by kernel_rfl
theorem infoRd:(Tryz.prog.info? 71).map (fun i=>(i.zero,i.size,i.bytes)) = some (some (.agg #[.int .i64 0,.int .i64 0,.int .i64 0,.int .i64 0,.int .i64 0,.int .i64 0,.bool false,.slice none 0 0,.slice none 0 0,.int .i64 0,.int .i64 0,.int .i64 0,.int .i64 0]),13,136):=by kernel_rfl
theorem infoBo:(Tryz.prog.info? 4).map (fun i=>(i.zero,i.size,i.bytes)) = some (some (.bool false),1,1):=by kernel_rfl
theorem lgs_one (x:Leg):∀ u∈lgs x,u.oneCell' = true:=fun u hu=>by
 simp only[lgs,List.mem_cons,List.not_mem_nil,or_false] at hu
 rcases hu with rfl | rfl | rfl | rfl | rfl <;> rfl
theorem pas_one (x:Pau):∀ u∈pas x,u.oneCell' = true:=fun u hu=>by
 simp only[pas,List.mem_cons,List.not_mem_nil,or_false] at hu
 rcases hu with rfl | rfl | rfl | rfl <;> rfl
theorem rds_one (x:Rid):∀ u∈rds x,u.oneCell' = true:=fun u hu=>by
 simp only[rds,List.mem_cons,List.not_mem_nil,or_false] at hu
 rcases hu with rfl | rfl | rfl | rfl | rfl | rfl | rfl | rfl | rfl | rfl | rfl | rfl | rfl <;> rfl
section
variable {ops:Array Oper} {rest:List Oper} {o:Oper} {a:Act} {Q:Exit→Act→World→Prop}
theorem wpList_append_Rd (w:World) (hgd:o.guard = none) (x1 x2:Operand) (ho:o.op = .call { callee:=.builtin .append,args:=#[x1,x2],argTypes:=#[32,32] })
  (base:Nat) (v:Value) (n:Nat) (F:Nat→Rid) (hs:a.eval x1 = v) (h1:RdR w base v n F) (b1:Nat) (y:Rid) (hx:a.eval x2 = .slice (some ⟨b1,0,none⟩) 1 1) (ob:TypeId) (fz:Nat×Nat) (hb1:w.heap[b1]? = some (.cells (rds y).toArray ob fz)) (hn:n≤1000) (hb:base≤w.heap.size)
  (h:∀ g cap w',n+1≤cap→cap≤9223372036854775807→(v.ownBlock = some g∨w.heap.size≤g)→RdR w' base (.slice (some ⟨g,0,none⟩) (n+1) cap) (n+1) (upd F n y)→Off (fun i=>v.ownBlock = some i) w w'→wpList Tryz.prog ops Q rest (a.put o.dst (.slice (some ⟨g,0,none⟩) (n+1) cap)) w'):wpList Tryz.prog ops Q (o :: rest) a w:=by
 obtain ⟨i0,hi,hz0,hz1,hz2⟩:=info_parts infoRd
 refine wpList_append_row w hgd x1 x2 32 ho base 71 i0 _ 13 136 Tryz.underlying32 hi hz0 hz1 hz2 rfl (by decide) v n (fun i=>rds (F i)) hs h1 (fun i=>rds_len (F i)) b1 1 (rds y) hx rfl ob fz hb1 (rds_one y) (by omega) (by unfold maxLen;omega) hb ?_
 intro g cap w' k1 k2 k3 k4 k5 r b
 refine h g cap w' k1 k2 k5 (Row.congr r (fun i _=>?_)) ((Off.of_grown b).mono (fun i _ hh=>hh.symm))
 by_cases e:i = n
 ·subst e;rw[upd_same,upd_same]
 ·rw[upd_ne e,upd_ne e]
theorem wpList_append_Bo (w:World) (hgd:o.guard = none) (x1 x2:Operand) (ho:o.op = .call { callee:=.builtin .append,args:=#[x1,x2],argTypes:=#[38,38] })
  (base:Nat) (v:Value) (n:Nat) (B:Nat→Bool) (hs:a.eval x1 = v) (h1:Row w base 4 1 v n (boR B)) (b1:Nat) (y:Bool) (hx:a.eval x2 = .slice (some ⟨b1,0,none⟩) 1 1) (ob:TypeId) (fz:Nat×Nat) (hb1:w.heap[b1]? = some (.cells #[.bool y] ob fz)) (hn:n≤1000) (hb:base≤w.heap.size)
  (h:∀ g cap w',n+1≤cap→cap≤9223372036854775807→(v.ownBlock = some g∨w.heap.size≤g)→Row w' base 4 1 (.slice (some ⟨g,0,none⟩) (n+1) cap) (n+1) (boR (upd B n y))→Off (fun i=>v.ownBlock = some i) w w'→wpList Tryz.prog ops Q rest (a.put o.dst (.slice (some ⟨g,0,none⟩) (n+1) cap)) w'):wpList Tryz.prog ops Q (o :: rest) a w:=by
 obtain ⟨i0,hi,hz0,hz1,hz2⟩:=info_parts infoBo
 refine wpList_append_row w hgd x1 x2 38 ho base 4 i0 _ 1 1 Tryz.underlying38 hi hz0 hz1 hz2 rfl (by decide) v n (boR B) hs h1 (fun i=>rfl) b1 1 [.bool y] hx rfl ob fz hb1 (fun u hu=>by obtain rfl:=List.mem_singleton.1 hu;rfl) (by omega) (by unfold maxLen;omega) hb ?_
 intro g cap w' k1 k2 k3 k4 k5 r b
 refine h g cap w' k1 k2 k5 (Row.congr r (fun i _=>?_)) ((Off.of_grown b).mono (fun i _ hh=>hh.symm))
 show _ = [Value.bool (upd B n y i)]
 by_cases e:i = n
 ·subst e;rw[upd_same,upd_same]
 ·rw[upd_ne e,upd_ne e];rfl
end
end Go.Proofs.YtdpoppilnokniaaGreatDoor
