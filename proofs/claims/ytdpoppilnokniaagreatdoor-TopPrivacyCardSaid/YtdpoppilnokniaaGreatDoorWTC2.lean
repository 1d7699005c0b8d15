/- Theorems of this seat. -/
import Derived.Test.YtdpoppilnokniaaGreatDoorWTB8
import Derived.Test.YtdpoppilnokniaaGreatDoorWOPX
import Derived.Test.YtdpoppilnokniaaGreatDoorWRAX
import Derived.Test.YtdpoppilnokniaaGreatDoorWTBZ
import Derived.Test.YtdpoppilnokniaaGreatDoorWTKX
import Derived.Test.YtdpoppilnokniaaGreatDoorWKV
namespace Go.Proofs.YtdpoppilnokniaaGreatDoor
open Go.RowKit Go.ChangeShapes Go.WideShapes Go.Deep
set_option linter.unusedVariables false
set_option linter.unusedSimpArgs false
set_option linter.unnecessarySimpa false
theorem ridesIn {w:World}{base:Nat}{rv:Value}{n:Nat}{F:Nat→Rid}{L:Nat→Nat→Leg}{Q:Nat→Nat→Pau}(h:RidesO w base rv n F L Q):∃ ro c,rv = .slice ro n c∧RdsIn w ro n c F L Q∧(∀ a,ro = some a→a.block < w.heap.size):=by
 have hr:Row w base 71 13 rv n (fun i=>rds (F i)):=h.row
 rcases Row.shape hr with ⟨e,hn⟩ | ⟨g,cap,e,_,hg,_,_⟩
 ·obtain ⟨ao,c,e2,hs⟩:=Row.toSl hr (fun i=>rds_len (F i))
  refine ⟨ao,c,e2,⟨hs,fun i hi=>by omega⟩,fun a ha=>?_⟩
  rw[e] at e2
  simp only[Value.slice.injEq] at e2
  rw[←e2.1] at ha
  cases ha
 ·obtain ⟨ao,c,e2,hs⟩:=Row.toSl hr (fun i=>rds_len (F i))
  refine ⟨ao,c,e2,⟨hs,fun i hi=>⟨h.legs i hi,h.paus i hi,h.lens i hi⟩⟩,fun a ha=>?_⟩
  rw[e] at e2
  simp only[Value.slice.injEq] at e2
  rw[←e2.1] at ha
  cases ha
  exact hg
theorem rtE_ok {num den:Int}(h:rtE num den = true):(1≤den∧den≤num)∧num≤1024:=by
 unfold rtE at h
 simp only[Bool.and_eq_true,decide_eq_true_eq] at h
 omega
theorem rowSl {w:World}{base:Nat}{e:TypeId}{v:Value}{n:Nat}{f:Nat→Int}(h:Row w base e 1 v n (nuR f)):∃ ao c,v = .slice ao n c∧Sl w 1 ao n c (nuR f):=Row.toSl h (fun _=>rfl)
theorem leftIn {w w':World}{base:Nat}{v:Value}{ro:Option Addr}{n c m:Nat}{F:Nat→Rid}{L:Nat→Nat→Leg}{Q:Nat→Nat→Pau}{G:Nat→Nat}{k:Int×Int}(h:RdsIn w ro n c F L Q) (hb:Below w.heap.size w w') (hr:Row w' base 71 13 v m (fun i=>rds (F (G i)))) (hl:LeftR F k n m G) :
  ∃ ao c',v = .slice ao m c'∧RdsIn w' ao m c' (fun i=>F (G i)) (fun i=>L (G i)) (fun i=>Q (G i))∧(∀ a,ao = some a→a.block < w'.heap.size):=by
 rcases Row.shape hr with ⟨e,hn⟩ | ⟨g,cap,e,_,hg,_,_⟩
 ·obtain ⟨ao,c,e2,hs⟩:=Row.toSl hr (fun i=>rds_len (F (G i)))
  refine ⟨ao,c,e2,⟨hs,fun i hi=>by omega⟩,fun a ha=>?_⟩
  rw[e] at e2
  simp only[Value.slice.injEq] at e2
  rw[←e2.1] at ha
  cases ha
 ·obtain ⟨ao,c,e2,hs⟩:=Row.toSl hr (fun i=>rds_len (F (G i)))
  refine ⟨ao,c,e2,⟨hs,fun i hi=>(h.each (G i) (hl.lt i hi)).below hb⟩,fun a ha=>?_⟩
  rw[e] at e2
  simp only[Value.slice.injEq] at e2
  rw[←e2.1] at ha
  cases ha
  exact hg
theorem tabCk {Z:Nat→Int}{zn:Nat}{f t each:Int}{n:Nat}{F:Nat→Rid}{L:Nat→Nat→Leg}{Q:Nat→Nat→Pau}{s:Nat}(ok:TabOk Z zn (s:Int) f t each n F L Q):TCk (s:Int) (s:Int) (s * s) (celX Z zn (s:Int) f t each n F):=by
 have h1:=ok.sz
 refine ⟨h1,h1,by rw[Int.natCast_mul],fun i hi=>?_⟩
 have h2:=cellN_le Z zn (s:Int) each f t F n n i
 have h3:=ok.rides.few
 unfold celX
 omega
theorem pubCk {s:Int}{p:Nat}{X Y:Nat→Int}{n:Nat}(h:TCk s s p X) (hX:∀ i,i < p→0≤X i∧X i≤256) (hn:n≤33) (hY:∀ i,i < p→X i - n < Y i∧Y i < X i+n):TCk s s p Y :=
 ⟨h.1,h.2.1,h.2.2.1,fun i hi=>by
  have h1:=hX i hi
  have h2:=hY i hi
  omega⟩
def SeenC (X V:Nat→Int) (n:Nat) (W Y:Nat→Int) (j:Nat):Prop:=∀ i,i < j→0 < wtE n W (Y i - V i)∧X i - V i≤3∧V i - X i≤3
theorem SeenC.zero {X V:Nat→Int}{n:Nat}{W Y:Nat→Int}:SeenC X V n W Y 0:=fun i hi=>absurd hi (Nat.not_lt_zero _)
theorem SeenC.next {X V:Nat→Int}{n:Nat}{W Y:Nat→Int}{j:Nat}(h:SeenC X V n W Y j) (h1:0 < wtE n W (Y j - V j)) (h2:X j - V j≤3) (h3:V j - X j≤3):SeenC X V n W Y (j+1):=fun i hi=>by
 by_cases e:i = j
 ·subst e;exact ⟨h1,h2,h3⟩
 ·exact h i (by omega)
theorem SeenC.alk {X V:Nat→Int}{num den:Int}{n p:Nat}{Y:Nat→Int}(h:SeenC X V n (wts num den) Y p) (hr:(1≤den∧den≤num)∧num≤1024) (hY:∀ i,i < p→X i - n < Y i∧Y i < X i+n) :
  ∀ i,i < p→AlkI num den (X i) (V i) (wtE n (wts num den) (Y i - X i)) (wtE n (wts num den) (Y i - V i)):=fun i hi=>by
 obtain ⟨h1,h2,h3⟩:=h i hi
 have h4:=hY i hi
 refine ⟨(max (X i - V i) (V i - X i)).toNat,by omega,by omega,?_⟩
 exact wtE_alike hr.1.1 hr.1.2 (by omega) h1 (by omega)
theorem Row.other {w:World}{base b s n:Nat}{T T':TypeId}{v:Value}{f:Nat→List Value}{cs:Array Value}(h:Row w base T s v n f) (hb:w.heap[b]? = some (.cells cs T' (0,0))) (ht:T ≠ T'):∀ g,v.ownBlock = some g→¬ g = b:=fun g hq e=>by
 subst e
 rcases h.2 with h1 | ⟨g',cap,cur,rfl,hb',hg,_⟩
 ·rw[h1.1] at hq
  simp [Value.ownBlock] at hq
 ·simp [Value.ownBlock] at hq
  subst hq
  rw[hb] at hg
  simp only[Option.some.injEq,Obj.cells.injEq] at hg
  exact ht hg.2.1.symm
def prG (Z:Nat→Int) (zn:Nat) (size f t each:Int) (F:Nat→Rid) (L:Nat→Nat→Leg) (Q:Nat→Nat→Pau) (k:Int×Int) (n base:Nat):List Value→World→Prop
 | [],_=>True
 | [v1],w=>∃ m2 G,Row w base 71 13 v1 m2 (fun i=>rds (F (G i)))∧LeftR F k n m2 G
 | [v2,_],w=>∃ m2 G,LeftR F k n m2 G∧∃ a b o nn c e,v2 = .tuple #[.agg #[.int .i64 a,.int .i64 b,.slice o nn c],.int .i64 e]∧TabP Z zn size f t each m2 (fun i=>F (G i)) (fun i=>L (G i)) (fun i=>Q (G i)) base a b (.slice o nn c) e w
 | _,_=>False
def prS:List Value→Prop
 | [v1]=>∃ o n c,v1 = .slice o n c
 | [v2,_]=>∃ a b o nn c e,v2 = .tuple #[.agg #[.int .i64 a,.int .i64 b,.slice o nn c],.int .i64 e]
 | _=>False
theorem prG_below {Z:Nat→Int}{zn:Nat}{size f t each:Int}{F:Nat→Rid}{L:Nat→Nat→Leg}{Q:Nat→Nat→Pau}{k:Int×Int}{n base:Nat}:∀ (s:List Value) (w w':World),prG Z zn size f t each F L Q k n base s w→Below w.heap.size w w'→prG Z zn size f t each F L Q k n base s w'
 | [],_,_,_,_=>trivial
 | [v1],w,w',⟨m2,G,h1,h2⟩,hb=>⟨m2,G,Row.off (X:=fun _=>False) h1 (Off.of_below hb) (fun _ _ h=>h),h2⟩
 | [v2,_],w,w',⟨m2,G,h2,a,b,o,nn,c,e,he,h3,h4,h5⟩,hb=>⟨m2,G,h2,a,b,o,nn,c,e,he,h3,fun h=>⟨(h4 h).1,(h4 h).2.1,Row.off (X:=fun _=>False) (h4 h).2.2 (Off.of_below hb) (fun _ _ h=>h)⟩,h5⟩
 | _ :: _ :: _ :: _,_,_,h,_=>h.elim
def prO:List Value→Nat→Prop
 | [v1],b=>v1.ownBlock = some b
 | [v2,_],b=>∃ x y o n c e,v2 = .tuple #[.agg #[.int .i64 x,.int .i64 y,.slice o n c],.int .i64 e]∧e = 0∧(Value.slice o n c).ownBlock = some b
 | _,_=>False
theorem prG_set {Z:Nat→Int}{zn:Nat}{size f t each:Int}{F:Nat→Rid}{L:Nat→Nat→Leg}{Q:Nat→Nat→Pau}{k:Int×Int}{n base:Nat}:∀ (s:List Value) (w:World) (b:Nat) (o:Obj),¬ prO s b→prG Z zn size f t each F L Q k n base s w→prG Z zn size f t each F L Q k n base s (setAt w b o)
 | [],_,_,_,_,_=>trivial
 | [v1],w,b,ob,hn,⟨m2,G,h1,h2⟩=>⟨m2,G,Row.off (X:=fun q=>q = b) h1 off_setAt (fun g hg e=>hn (by subst e;exact hg)),h2⟩
 | [v2,_],w,b,ob,hn,⟨m2,G,h2,x,y,o,nn,c,e,he,h3,h4,h5⟩=>⟨m2,G,h2,x,y,o,nn,c,e,he,h3,fun h=>⟨(h4 h).1,(h4 h).2.1,Row.off (X:=fun q=>q = b) (h4 h).2.2 off_setAt (fun g hg e2=>hn (by subst e2;exact ⟨x,y,o,nn,c,e,he,h,hg⟩))⟩,h5⟩
 | _ :: _ :: _ :: _,_,_,_,_,h=>h.elim
theorem prO_lt {Z:Nat→Int}{zn:Nat}{size f t each:Int}{F:Nat→Rid}{L:Nat→Nat→Leg}{Q:Nat→Nat→Pau}{k:Int×Int}{n base:Nat}:∀ (s:List Value) (w:World) (b:Nat),prG Z zn size f t each F L Q k n base s w→prO s b→b < w.heap.size
 | [],_,_,_,h=>h.elim
 | [v1],w,b,⟨m2,G,h1,h2⟩,h=>(World.ownsRow.lt h1 b h).2
 | [v2,_],w,b,⟨m2,G,h2,x,y,o,nn,c,e,he,h3,h4,h5⟩,⟨x',y',o',nn',c',e',he',h0,hb⟩=>by
  rw[he] at he'
  simp only[Value.tuple.injEq,Array.mk.injEq,List.cons.injEq,Value.agg.injEq,Value.int.injEq,Value.slice.injEq,true_and,and_true] at he'
  obtain ⟨⟨rfl,rfl,rfl,rfl,rfl⟩,rfl⟩:=he'
  exact (World.ownsRow.lt (h4 h0).2.2 b hb).2
 | _ :: _ :: _ :: _,_,_,_,h=>h.elim
set_option maxRecDepth 8000 in
set_option maxHeartbeats 64000000 in
theorem run_topPrivacy {H:Type}{enc:TypeId×Value→H}(W:World) (hg:Sgn W) (base:Nat) (v0:Value) (d0:DataW H) (p0:List MemPlace) (hv0:Value.okWide Tryz.prog W .any base 24 v0) (h0:DataW.Trod enc Tryz.prog W 0 (fun _=>true) true 24 v0 d0 p0)
  (v1:Value) (d1:DataW H) (p1:List MemPlace) (hv1:Value.okWide Tryz.prog W .any base 25 v1) (h1:DataW.Trod enc Tryz.prog W 0 (fun _=>true) true 25 v1 d1 p1)
  (v2:Value) (d2:DataW H) (p2:List MemPlace) (hv2:Value.okWide Tryz.prog W .any base 29 v2) (h2:DataW.Trod enc Tryz.prog W 0 (fun _=>true) true 29 v2 d2 p2)
  (v3:Value) (d3:DataW H) (p3:List MemPlace) (hv3:Value.okWide Tryz.prog W .any base 48 v3) (h3:DataW.Trod enc Tryz.prog W 0 (fun _=>true) true 48 v3 d3 p3)
  (v4:Value) (d4:DataW H) (p4:List MemPlace) (hv4:Value.okWide Tryz.prog W .any base 3 v4) (h4:DataW.Trod enc Tryz.prog W 0 (fun _=>true) true 3 v4 d4 p4)
  (v5:Value) (d5:DataW H) (p5:List MemPlace) (hv5:Value.okWide Tryz.prog W .any base 50 v5) (h5:DataW.Trod enc Tryz.prog W 0 (fun _=>true) true 50 v5 d5 p5)
  (v6:Value) (d6:DataW H) (p6:List MemPlace) (hv6:Value.okWide Tryz.prog W .any base 51 v6) (h6:DataW.Trod enc Tryz.prog W 0 (fun _=>true) true 51 v6 d6 p6) :
  Calls Tryz.prog 4 #[v0,v1,v2,v3,v4,v5,v6] W fun e w'=>e = .returned (.bool true)∧Below W.heap.size W w':=by
 obtain ⟨fl,rfl,hf,_⟩:=open_fleet hv0 h0
 obtain ⟨ao,n,c,E,rfl,hs,hE⟩:=open_events hv1 h1
 obtain ⟨zo,zn,zc,Z,size,f,t,each,rfl,hz,hsz,hif,hit,hie⟩:=open_pub hv2 h2
 obtain ⟨rid,day,rfl,hird,hidy⟩:=open_who hv3 h3
 obtain ⟨rad,rfl,rfl,rfl,wl1⟩:=open_int Tryz.underlying3 hv4 h4
 obtain ⟨num,den,rfl,hnum,hden⟩:=open_ratio hv5 h5
 obtain ⟨uo,k,kc,U,rfl,hu,hU⟩:=open_words hv6 h6
 have hbl:=bounds_i64 wl1
 clear hv0 h0 hv1 h1 hv2 h2 hv3 h3 hv4 h4 hv5 h5 hv6 h6 wl1
 have hmc:=hs.hm
 have hcc:=hs.hc
 have hzm:=hz.hm
 have hzc:=hz.hc
 have hum:=hu.hm
 have huc:=hu.hc
 have B0:Hid (Below W.heap.size W (W.alloc (.cells fl.cells 24))):=Lib.hid (by (repeat' (first | with_reducible (first | exact Below.refl _ _ | assumption | refine Below.drew ?_ | refine below_drewN ?_ _ | refine Below.alloc ?_ ?_ _ | refine Below.setCell ?_ ?_ _) | go_size)));have X0:=Lib.hid (al_at W (.cells fl.cells 24) rfl);obtain ⟨w1,hw0⟩:∃ w1,w1 = W.alloc (.cells fl.cells 24):=⟨_,rfl⟩;rw[←hw0] at B0 X0;have HW0:=Lib.hid hw0;clear hw0;have z0:=szs (block_lt X0.out);skip
 have B1:Hid (Below w1.heap.size w1 (w1.alloc (.cells #[.slice zo zn zc,.int .i64 size,.int .i64 f,.int .i64 t,.int .i64 each] 29))):=Lib.hid (by (repeat' (first | with_reducible (first | exact Below.refl _ _ | assumption | refine Below.drew ?_ | refine below_drewN ?_ _ | refine Below.alloc ?_ ?_ _ | refine Below.setCell ?_ ?_ _) | go_size)));have X1:=Lib.hid (al_at w1 (.cells #[.slice zo zn zc,.int .i64 size,.int .i64 f,.int .i64 t,.int .i64 each] 29) rfl);obtain ⟨w2,hw1⟩:∃ w2,w2 = w1.alloc (.cells #[.slice zo zn zc,.int .i64 size,.int .i64 f,.int .i64 t,.int .i64 each] 29):=⟨_,rfl⟩;rw[←hw1] at B1 X1;have HW1:=Lib.hid hw1;clear hw1;have z1:=szs (block_lt X1.out);skip
 have B2:Hid (Below w2.heap.size w2 (w2.alloc (.cells #[.int .i64 rid,.int .i64 day] 48))):=Lib.hid (by (repeat' (first | with_reducible (first | exact Below.refl _ _ | assumption | refine Below.drew ?_ | refine below_drewN ?_ _ | refine Below.alloc ?_ ?_ _ | refine Below.setCell ?_ ?_ _) | go_size)));have X2:=Lib.hid (al_at w2 (.cells #[.int .i64 rid,.int .i64 day] 48) rfl);obtain ⟨wa,hw2⟩:∃ wa,wa = w2.alloc (.cells #[.int .i64 rid,.int .i64 day] 48):=⟨_,rfl⟩;rw[←hw2] at B2 X2;have HW2:=Lib.hid hw2;clear hw2;have z2:=szs (block_lt X2.out);skip
 have B3:Hid (Below wa.heap.size wa (wa.alloc (.cells #[.int .i64 num,.int .i64 den] 50))):=Lib.hid (by (repeat' (first | with_reducible (first | exact Below.refl _ _ | assumption | refine Below.drew ?_ | refine below_drewN ?_ _ | refine Below.alloc ?_ ?_ _ | refine Below.setCell ?_ ?_ _) | go_size)));have X3:=Lib.hid (al_at wa (.cells #[.int .i64 num,.int .i64 den] 50) rfl);obtain ⟨wb,hw3⟩:∃ wb,wb = wa.alloc (.cells #[.int .i64 num,.int .i64 den] 50):=⟨_,rfl⟩;rw[←hw3] at B3 X3;have HW3:=Lib.hid hw3;clear hw3;have z3:=szs (block_lt X3.out);skip
 have s1:w1.heap.size = W.heap.size+1:=by rw[HW0.out];simp
 have s2:w2.heap.size = W.heap.size+2:=by rw[HW1.out];simp [s1]
 have s3:wa.heap.size = W.heap.size+3:=by rw[HW2.out];simp [s2]
 rw[s1] at X1
 rw[s2] at X2
 rw[s3] at X3
 have HS:=Lib.hid (And.intro s1 (And.intro s2 s3))
 have HFC:Hid (fl.cells = #[.int .i64 fl.bikes,.int .i64 fl.riders,.int .i64 fl.devs,.slice fl.ad fl.nd fl.cd,.slice fl.a2 fl.nt fl.ct]):=Lib.hid rfl
 have B23:=B2.out.trans (B3.out.mono B2.out.size)
 have B13:=B1.out.trans (B23.mono B1.out.size)
 have BB:=Lib.hid (B0.out.trans (B13.mono B0.out.size))
 have XF:=Lib.hid ((B13.block _ (by omega)).trans X0.out)
 have XP:=Lib.hid ((B23.block _ (by omega)).trans X1.out)
 have XW:=Lib.hid ((B3.out.block _ (by omega)).trans X2.out)
 have HG:=Lib.hid hg
 have HF:=Lib.hid hf
 have HSv:=Lib.hid hs
 have HZ:=Lib.hid hz
 have HU:=Lib.hid hu
 have HUB:=Lib.hid hU
 have CF:=Lib.hid (few5 fl ao n c wb (hf.below BB.out) hmc hcc)
 have HIN:=Lib.hid (show ∀ e∈ents E n,inN e from fun e he=>by obtain ⟨i,hi,rfl⟩:=mem_ents.1 he;exact hE i hi)
 have CA:=Lib.hid (fun (hn:n < 1000) w' (b:Below wb.heap.size wb w')=>all7 fl ao n c E w' ((HF.out.below BB.out).below b) ((HSv.out.below BB.out).below b) hn HIN.out)
 rw[HFC.out] at XF HW0 CF CA ⊢
 clear hf hs hz hE hg s1 s2 s3 HFC hu hU B23 B13
 obtain ⟨fb,hfb⟩:∃ fb,fb = (decide (n≤40) && (decide (fl.nd≤40) && decide (fl.nt≤20))):=⟨_,rfl⟩
 rw[←hfb] at CF
 have HFB:=Lib.hid hfb
 clear hfb
 go_enter Tryz.func4,Tryz.ntmps4
 go_simp
 ((repeat ((fail_if_success (rw[←HW0.out]));go_step));rw[←HW0.out])
 go_simp
 ((repeat ((fail_if_success (rw[←HW1.out]));go_step));rw[←HW1.out])
 rw[HS.out.1]
 go_simp
 ((repeat ((fail_if_success (rw[←HW2.out]));go_step));rw[←HW2.out])
 rw[HS.out.2.1]
 go_simp
 ((repeat ((fail_if_success (rw[←HW3.out]));go_step));rw[←HW3.out])
 rw[HS.out.2.2]
 clear HW0 HW1 HW2 HW3 HS z0 z1 z2 z3 B0 B1 B2 B3 X0 X1 X2
 have x0:=cell_at XF.out 0
 have x1:=cell_at XF.out 1
 have x2:=cell_at XF.out 2
 have x3:=cell_at XF.out 3
 have x4:=cell_at XF.out 4
 have zx:=szs (block_lt XF.out)
 go_wp2_with fail
 refine CF.out.mono ?_
 rintro e w3 ⟨rfl,b3⟩
 have XF3:=Lib.hid ((b3.block _ (block_lt XF.out)).trans XF.out)
 have XP3:=Lib.hid ((b3.block _ (block_lt XP.out)).trans XP.out)
 have XW3:=Lib.hid ((b3.block _ (block_lt XW.out)).trans XW.out)
 have XR3:=Lib.hid ((b3.block _ (block_lt X3.out)).trans X3.out)
 have B23:=Lib.hid b3
 have BB3:=Lib.hid (BB.out.trans (b3.mono BB.out.size))
 clear x0 x1 x2 x3 x4 zx b3 XF XP XW X3 CF BB
 have y0:=cell_at XP3.out 0
 have y1:=cell_at XP3.out 1
 have y2:=cell_at XP3.out 2
 have y3:=cell_at XP3.out 3
 have y4:=cell_at XP3.out 4
 have zy:=szs (block_lt XP3.out)
 cases fb
 case false =>
  go_wp2_with fail
  refine (awake6 _ (HG.out.below (BB3.out))).mono ?_
  rintro e wz ⟨rfl,bz⟩
  have BZ:=Lib.hid ((BB3.out).trans (bz.mono (BB3.out).size))
  clear bz
  go_wp2_with fail
  go_returns
  exact ⟨rfl,BZ.out⟩
 have hn40:n≤40:=by
  have h:=HFB.out
  simp at h
  exact h.1
 clear HFB
 by_cases c2:(zn:Int) > 100
 ·have t2:decide ((zn:Int) > 100) = true:=decide_eq_true c2
  have t2o:decide (100 < (zn:Int)) = true:=decide_eq_true c2
  go_wp2_with fail
  refine (awake6 _ (HG.out.below (BB3.out))).mono ?_
  rintro e wz ⟨rfl,bz⟩
  have BZ:=Lib.hid ((BB3.out).trans (bz.mono (BB3.out).size))
  clear bz
  go_wp2_with fail
  go_returns
  exact ⟨rfl,BZ.out⟩
 have t2:decide ((zn:Int) > 100) = false:=decide_eq_false c2
 have t2o:decide (100 < (zn:Int)) = false:=decide_eq_false c2
 by_cases c3:size > 4
 ·have t3:decide (size > 4) = true:=decide_eq_true c3
  have t3o:decide (4 < size) = true:=decide_eq_true c3
  go_wp2_with fail
  refine (awake6 _ (HG.out.below (BB3.out))).mono ?_
  rintro e wz ⟨rfl,bz⟩
  have BZ:=Lib.hid ((BB3.out).trans (bz.mono (BB3.out).size))
  clear bz
  go_wp2_with fail
  go_returns
  exact ⟨rfl,BZ.out⟩
 have t3:decide (size > 4) = false:=decide_eq_false c3
 have t3o:decide (4 < size) = false:=decide_eq_false c3
 by_cases c4:(k:Int) > 200
 ·have t4:decide ((k:Int) > 200) = true:=decide_eq_true c4
  have t4o:decide (200 < (k:Int)) = true:=decide_eq_true c4
  go_wp2_with fail
  refine (awake6 _ (HG.out.below (BB3.out))).mono ?_
  rintro e wz ⟨rfl,bz⟩
  have BZ:=Lib.hid ((BB3.out).trans (bz.mono (BB3.out).size))
  clear bz
  go_wp2_with fail
  go_returns
  exact ⟨rfl,BZ.out⟩
 have t4:decide ((k:Int) > 200) = false:=decide_eq_false c4
 have t4o:decide (200 < (k:Int)) = false:=decide_eq_false c4
 have x0:=cell_at XF3.out 0
 have x1:=cell_at XF3.out 1
 have x2:=cell_at XF3.out 2
 have x3:=cell_at XF3.out 3
 have x4:=cell_at XF3.out 4
 have zx:=szs (block_lt XF3.out)
 go_wp2_with fail
 refine (CA.out (by omega) w3 B23.out).mono ?_
 rintro e w4 ⟨b4,hal⟩
 have XP4:=Lib.hid ((b4.block _ (block_lt XP3.out)).trans XP3.out)
 have XW4:=Lib.hid ((b4.block _ (block_lt XW3.out)).trans XW3.out)
 have XR4:=Lib.hid ((b4.block _ (block_lt XR3.out)).trans XR3.out)
 have BB4:=Lib.hid (BB3.out.trans (b4.mono BB3.out.size))
 clear x0 x1 x2 x3 x4 zx y0 y1 y2 y3 y4 zy b4 XF3 XP3 XW3 XR3 CA B23 BB3 t2 t2o t3 t3o t4 t4o
 have CM:=Lib.hid (Make10 rad num den w4)
 have r0:=cell_at XR4.out 0
 have r1:=cell_at XR4.out 1
 have zr:=szs (block_lt XR4.out)
 rcases hal with ⟨r,hr,rfl⟩ | ⟨rv,m,F0,F,L,Q,rfl,hro,hfrom,hcl,hm1⟩
 ·have tr:(r != 0) = true:=by simp [hr]
  clear hr
  go_wp2_with fail
  refine CM.out.mono ?_
  rintro e w5 ⟨⟨v,r',rfl,_,_,va,vn,vc,rfl⟩,b5⟩
  have BB5:=Lib.hid (BB4.out.trans (b5.mono BB4.out.size))
  clear r0 r1 zr b5 XP4 XW4 XR4 CM BB4
  have B6:Hid (Below w5.heap.size w5 (w5.alloc (.cells #[.slice va vn vc] 40))):=Lib.hid (by (repeat' (first | with_reducible (first | exact Below.refl _ _ | assumption | refine Below.drew ?_ | refine below_drewN ?_ _ | refine Below.alloc ?_ ?_ _ | refine Below.setCell ?_ ?_ _) | go_size)));have X6:=Lib.hid (al_at w5 (.cells #[.slice va vn vc] 40) rfl);obtain ⟨w6,hw6⟩:∃ w6,w6 = w5.alloc (.cells #[.slice va vn vc] 40):=⟨_,rfl⟩;rw[←hw6] at B6 X6;have HW6:=Lib.hid hw6;clear hw6;have z6:=szs (block_lt X6.out);skip
  go_simp
  ((repeat ((fail_if_success (rw[←HW6.out]));go_step));rw[←HW6.out])
  have BB6:=Lib.hid (BB5.out.trans (B6.out.mono BB5.out.size))
  clear HW6 X6 B6 z6 BB5
  go_wp2_with fail
  refine (awake6 _ (HG.out.below (BB6.out))).mono ?_
  rintro e wz ⟨rfl,bz⟩
  have BZ:=Lib.hid ((BB6.out).trans (bz.mono (BB6.out).size))
  clear bz
  go_wp2_with fail
  go_returns
  exact ⟨rfl,BZ.out⟩
 obtain ⟨ro,rc,rfl,hin,hao⟩:=ridesIn hro
 have HRO:=Lib.hid hro
 have HIR:=Lib.hid hin
 have HAO:=Lib.hid hao
 clear hro hin hao hfrom hcl
 go_wp2_with fail
 refine CM.out.mono ?_
 rintro e w5 ⟨⟨v,r,rfl,hmk,hmk2,wo,wn,wc,rfl⟩,b5⟩
 have HMK:=Lib.hid (And.intro hmk hmk2)
 have B45:=Lib.hid b5
 clear r0 r1 zr b5 CM hmk hmk2
 have B6:Hid (Below w5.heap.size w5 (w5.alloc (.cells #[.slice wo wn wc] 40))):=Lib.hid (by (repeat' (first | with_reducible (first | exact Below.refl _ _ | assumption | refine Below.drew ?_ | refine below_drewN ?_ _ | refine Below.alloc ?_ ?_ _ | refine Below.setCell ?_ ?_ _) | go_size)));have X6:=Lib.hid (al_at w5 (.cells #[.slice wo wn wc] 40) rfl);obtain ⟨w6,hw6⟩:∃ w6,w6 = w5.alloc (.cells #[.slice wo wn wc] 40):=⟨_,rfl⟩;rw[←hw6] at B6 X6;have HW6:=Lib.hid hw6;clear hw6;have z6:=szs (block_lt X6.out);skip
 go_simp
 ((repeat ((fail_if_success (rw[←HW6.out]));go_step));rw[←HW6.out])
 have B46:=Lib.hid (B45.out.trans (B6.out.mono B45.out.size))
 have XP6:=Lib.hid ((B46.out.block _ (block_lt XP4.out)).trans XP4.out)
 have XW6:=Lib.hid ((B46.out.block _ (block_lt XW4.out)).trans XW4.out)
 have XR6:=Lib.hid ((B46.out.block _ (block_lt XR4.out)).trans XR4.out)
 have BB6:=Lib.hid (BB4.out.trans (B46.out.mono BB4.out.size))
 have qn1:w5.heap.size < w6.heap.size:=z6.1
 clear HW6 z6 B45 BB4 XP4 XW4 XR4
 obtain ⟨qn,hqn⟩:∃ qn,qn = w5.heap.size:=⟨_,rfl⟩
 rw[←hqn] at X6 qn1 ⊢
 by_cases hr0:r = 0
 case neg =>
  have tr:(r != 0) = true:=by simp [hr0]
  go_wp2_with fail
  refine (awake6 _ (HG.out.below (BB6.out))).mono ?_
  rintro e wz ⟨rfl,bz⟩
  have BZ:=Lib.hid ((BB6.out).trans (bz.mono (BB6.out).size))
  clear bz
  go_wp2_with fail
  go_returns
  exact ⟨rfl,BZ.out⟩
 subst hr0
 obtain ⟨wo2,wc2,hwe,hW⟩:=rowSl (HMK.out.2 rfl)
 simp only[Value.slice.injEq] at hwe
 obtain ⟨rfl,hwn,rfl⟩:=hwe
 obtain ⟨⟨hr1,hr2⟩,hrt⟩:=HMK.out.1.1 rfl
 have HRT:=Lib.hid (rtE_ok hrt)
 obtain ⟨N,hN⟩:∃ N,N = rad.toNat+1:=⟨_,rfl⟩
 rw[←hN] at hW hwn
 rw[hwn] at X6 ⊢
 have HWN:=Lib.hid (show NOK N (wts num den) by rw[hN];exact wts_nok HRT.out.1.1 HRT.out.1.2 (by omega))
 have HW':=Lib.hid (hW.below B6.out)
 have HIR6:=Lib.hid (HIR.out.below B46.out)
 have HAO6:=Lib.hid (fun a (ha:ro = some a)=>Nat.lt_of_lt_of_le (HAO.out a ha) B46.out.size)
 have HPL:=Lib.hid HRO.out.pls
 have HS0:=Lib.hid HRO.out.s0
 have lw1:=hW.hm
 have lw2:=hW.hc
 clear HMK hrt hr1 hr2 hW B6 HIR HAO HRO hN B46 hqn hwn
 have CN:=Lib.hid (Noisy11 zo zn zc Z size ro m rc F L Q f t each wo N wc (wts num den) uo k kc U w6 (HZ.out.below BB6.out) HIR6.out hm1 HPL.out HAO6.out HW'.out (HG.out.below BB6.out) (HU.out.below BB6.out) HUB.out)
 have n0:=cell_at X6.out 0
 have zn0:=szs (block_lt X6.out)
 have y0:=cell_at XP6.out 0
 have y1:=cell_at XP6.out 1
 have y2:=cell_at XP6.out 2
 have y3:=cell_at XP6.out 3
 have y4:=cell_at XP6.out 4
 have zy:=szs (block_lt XP6.out)
 go_wp2_with fail
 refine CN.out.mono ?_
 rintro e w7 ⟨⟨cs,r,rfl,hc1,hc2,_⟩,b7⟩
 obtain ⟨c0,c1,c2',c3',c4',p5,m5,k5,p9,m9,k9,hcs⟩:∃ (c0 c1 c2' c3' c4':Int) (p5:Option Addr) (m5 k5:Nat) (p9:Option Addr) (m9 k9:Nat),cs = #[.int .i64 c0,.int .i64 c1,.int .i64 c2',.int .i64 c3',.int .i64 c4',.slice p5 m5 k5,.slice none 0 0,.slice none 0 0,.slice none 0 0,.slice p9 m9 k9]:=by
  by_cases hr0:r = 0
  ·obtain ⟨_,zv,wv,Y,he,q1,q2,_⟩:=hc2 hr0
   obtain ⟨_,_,rfl,_⟩:=rowSl q1
   obtain ⟨_,_,rfl,_⟩:=rowSl q2
   simp only[Value.agg.injEq] at he
   exact ⟨_,_,_,_,_,_,_,_,_,_,_,he⟩
  ·exact ⟨_,_,_,_,_,_,_,_,_,_,_,hc1 hr0⟩
 subst hcs
 have HC:=Lib.hid hc2
 have B67:=Lib.hid b7
 clear hc1 hc2 b7 CN n0 zn0 y0 y1 y2 y3 y4 zy
 have B8:Hid (Below w7.heap.size w7 (w7.alloc (.cells #[.int .i64 c0,.int .i64 c1,.int .i64 c2',.int .i64 c3',.int .i64 c4',.slice p5 m5 k5,.slice none 0 0,.slice none 0 0,.slice none 0 0,.slice p9 m9 k9] 42))):=Lib.hid (by (repeat' (first | with_reducible (first | exact Below.refl _ _ | assumption | refine Below.drew ?_ | refine below_drewN ?_ _ | refine Below.alloc ?_ ?_ _ | refine Below.setCell ?_ ?_ _) | go_size)));have X8:=Lib.hid (al_at w7 (.cells #[.int .i64 c0,.int .i64 c1,.int .i64 c2',.int .i64 c3',.int .i64 c4',.slice p5 m5 k5,.slice none 0 0,.slice none 0 0,.slice none 0 0,.slice p9 m9 k9] 42) rfl);obtain ⟨w8,hw8⟩:∃ w8,w8 = w7.alloc (.cells #[.int .i64 c0,.int .i64 c1,.int .i64 c2',.int .i64 c3',.int .i64 c4',.slice p5 m5 k5,.slice none 0 0,.slice none 0 0,.slice none 0 0,.slice p9 m9 k9] 42):=⟨_,rfl⟩;rw[←hw8] at B8 X8;have HW8:=Lib.hid hw8;clear hw8;have z8:=szs (block_lt X8.out);skip
 go_simp
 ((repeat ((fail_if_success (rw[←HW8.out]));go_step));rw[←HW8.out])
 have B68:=Lib.hid (B67.out.trans (B8.out.mono B67.out.size))
 have XP8:=Lib.hid ((B68.out.block _ (block_lt XP6.out)).trans XP6.out)
 have XW8:=Lib.hid ((B68.out.block _ (block_lt XW6.out)).trans XW6.out)
 have XR8:=Lib.hid ((B68.out.block _ (block_lt XR6.out)).trans XR6.out)
 have BB8:=Lib.hid (BB6.out.trans (B68.out.mono BB6.out.size))
 have B78:=B8
 have HIR8:=Lib.hid (HIR6.out.below B68.out)
 have HAO8:=Lib.hid (fun a (ha:ro = some a)=>Nat.lt_of_lt_of_le (HAO6.out a ha) B68.out.size)
 obtain ⟨qp,hqp⟩:∃ qp,qp = w7.heap.size:=⟨_,rfl⟩
 rw[←hqp] at X8 ⊢
 have qp1:qp < w8.heap.size:=by rw[hqp];exact z8.1
 clear HW8 z8 B8 XP6 XW6 XR6 BB6 X6 hqp HIR6 HAO6 HW' B67 qn1
 have CT:=Lib.hid (Table12 zo zn zc Z size ro m rc F L Q f t each w8 (HZ.out.below BB8.out) HIR8.out hm1 HPL.out HAO8.out)
 have y0:=cell_at XP8.out 0
 have y1:=cell_at XP8.out 1
 have y2:=cell_at XP8.out 2
 have y3:=cell_at XP8.out 3
 have y4:=cell_at XP8.out 4
 have zy:=szs (block_lt XP8.out)
 go_wp2_with fail
 refine CT.out.mono ?_
 rintro e w9 ⟨⟨a1,b1,tv1,e1,rfl,ht1⟩,b9⟩
 obtain ⟨t1o,t1n,t1c,rfl⟩:∃ o n c,tv1 = .slice o n c:=by
  by_cases h0:e1 = 0
  ·obtain ⟨o,c,e,_⟩:=rowSl (ht1.2.1 h0).2.2
   exact ⟨_,_,_,e⟩
  ·exact ⟨_,_,_,(ht1.2.2 h0).2.2⟩
 have HT1:=Lib.hid ht1
 have B89:=Lib.hid b9
 clear ht1 b9 CT y0 y1 y2 y3 y4 zy
 have B9:Hid (Below w9.heap.size w9 (w9.alloc (.cells #[.int .i64 a1,.int .i64 b1,.slice t1o t1n t1c] 37))):=Lib.hid (by (repeat' (first | with_reducible (first | exact Below.refl _ _ | assumption | refine Below.drew ?_ | refine below_drewN ?_ _ | refine Below.alloc ?_ ?_ _ | refine Below.setCell ?_ ?_ _) | go_size)));have X9:=Lib.hid (al_at w9 (.cells #[.int .i64 a1,.int .i64 b1,.slice t1o t1n t1c] 37) rfl);obtain ⟨wc1,hw9⟩:∃ wc1,wc1 = w9.alloc (.cells #[.int .i64 a1,.int .i64 b1,.slice t1o t1n t1c] 37):=⟨_,rfl⟩;rw[←hw9] at B9 X9;have HW9:=Lib.hid hw9;clear hw9;have z9:=szs (block_lt X9.out);skip
 go_simp
 ((repeat ((fail_if_success (rw[←HW9.out]));go_step));rw[←HW9.out])
 have B8c:=Lib.hid (B89.out.trans (B9.out.mono B89.out.size))
 have XPc:=Lib.hid ((B8c.out.block _ (block_lt XP8.out)).trans XP8.out)
 have XWc:=Lib.hid ((B8c.out.block _ (block_lt XW8.out)).trans XW8.out)
 have XRc:=Lib.hid ((B8c.out.block _ (block_lt XR8.out)).trans XR8.out)
 have X8c:=Lib.hid ((B8c.out.block _ (block_lt X8.out)).trans X8.out)
 have BBc:=Lib.hid (BB8.out.trans (B8c.out.mono BB8.out.size))
 have B7c:=Lib.hid (B78.out.trans (B8c.out.mono B78.out.size))
 have B9c:=B9
 have HIRc:=Lib.hid (HIR8.out.below B8c.out)
 obtain ⟨qt,hqt⟩:∃ qt,qt = w9.heap.size:=⟨_,rfl⟩
 rw[←hqt] at X9 ⊢
 clear HW9 z9 B9 XP8 XW8 XR8 X8 BB8 B78 HIR8 HAO8 B89 B8c hqt
 have CW:=Lib.hid (fun w' (hb:Below wc1.heap.size wc1 w')=>without13 ro m rc F rid day w' (HIRc.out.below hb).row hm1 HS0.out)
 have CT2:=Lib.hid (fun w' lo m2 lc G (hb:Below wc1.heap.size wc1 w') hlin (hl2:LeftR F (rid,day) m m2 G) hlao=>Table12 zo zn zc Z size lo m2 lc (fun i=>F (G i)) (fun i=>L (G i)) (fun i=>Q (G i)) f t each w' ((HZ.out.below BBc.out).below hb) hlin (Nat.le_trans hl2.le hm1) (fun i hi=>HPL.out (G i) (hl2.lt i hi)) hlao)
 have v0':=cell_at XWc.out 0
 have v1':=cell_at XWc.out 1
 have zv:=szs (block_lt XWc.out)
 have y0:=cell_at XPc.out 0
 have y1:=cell_at XPc.out 1
 have y2:=cell_at XPc.out 2
 have y3:=cell_at XPc.out 3
 have y4:=cell_at XPc.out 4
 have zy:=szs (block_lt XPc.out)
 go_wp2_with fail
 (obtain ⟨ι,hne,Fw,fb,hF⟩:=grow_family wc1);have hF:∀ w',(vsPlan wc1 (prG Z zn size f t each F L Q (rid,day) m wc1.heap.size) prS prO [9,14] [(18,fun b=>.pointer (some ⟨b,0,none⟩),.cells #[.int .i64 0,.int .i64 0,.slice none 0 0] 37)] [(19,18)]).D [] w'→∃ i,w' = Fw i:=hF
 have fv0:=fun i=>cell_kept (fb i) v0'
 have fv1:=fun i=>cell_kept (fb i) v1'
 have fy0:=fun i=>cell_kept (fb i) y0
 have fy1:=fun i=>cell_kept (fb i) y1
 have fy2:=fun i=>cell_kept (fb i) y2
 have fy3:=fun i=>cell_kept (fb i) y3
 have fy4:=fun i=>cell_kept (fb i) y4
 clear v0' v1' zv y0 y1 y2 y3 y4 zy
 (refine region_chainO (vsPlan wc1 (prG Z zn size f t each F L Q (rid,day) m wc1.heap.size) prS prO [9,14] [(18,fun b=>.pointer (some ⟨b,0,none⟩),.cells #[.int .i64 0,.int .i64 0,.slice none 0 0] 37)] [(19,18)]) [] [] [18,0,1,2,3,10,11,12,13,4,5,6,7,8,9,14,15,16,17,19] [20] mixed (by kernel_rfl) (by kernel_rfl) (fun _ _ h=>nomatch h) (vsPlan_ok (prG_below) (fun s w b o h1 h2=>prG_set s w b o h1 h2) (prO_lt) (by simp) (by simp)) (vsPlan_start (trivial)) ?_;refine wpPure_nil ?_;simp only[List.map_cons,List.map_nil,Array.getD_eq_getD_getElem?,List.getElem?_toArray,List.getElem?_cons_zero,List.getElem?_cons_succ,Option.getD_some])
 (repeat (first | (refine wpChainO_skip rfl ?_;simp only[Act.put,List.setIfInBounds_toArray,List.set_cons_succ,List.set_cons_zero]) | (refine wpChainO_quiet hF rfl rfl rfl ?_;intro K hK;go_big_quiet_op;go_big_quiet_on) | (refine wpChainO_pure _ rfl rfl (fun w' _=>by go_simp;try rfl) ?_;simp only[Act.put,List.setIfInBounds_toArray,List.set_cons_succ,List.set_cons_zero])))
 (refine wpChainO_alloc _ _ rfl (List.mem_cons_self ..) rfl (fun w'=>by go_simp) (fun qu hqu=>?_);simp only[Act.put,List.setIfInBounds_toArray,List.set_cons_succ,List.set_cons_zero])
 (repeat (first | (refine wpChainO_skip rfl ?_;simp only[Act.put,List.setIfInBounds_toArray,List.set_cons_succ,List.set_cons_zero]) | (refine wpChainO_quiet hF rfl rfl rfl ?_;intro K hK;go_big_quiet_op;go_big_quiet_on) | (refine wpChainO_pure _ rfl rfl (fun w' _=>by go_simp;try rfl) ?_;simp only[Act.put,List.setIfInBounds_toArray,List.set_cons_succ,List.set_cons_zero])))
 refine wpChainO_vscall 13 #[.slice ro m rc,.int .i64 rid,.int .i64 day] rfl rfl (fun w'=>by go_simp) (fun w' hb _=>?_) ?_
 ·refine (CW.out w' hb).mono ?_
  rintro e w7 ⟨⟨lv,m2,G,rfl,hl1,hl2⟩,b7⟩
  obtain ⟨lo,lc,rfl,_⟩:=Row.toSl hl1 (fun i=>rds_len (F (G i)))
  exact ⟨_,rfl,⟨_,_,_,rfl⟩,⟨m2,G,Row.base_mono hl1 hb.size,hl2⟩,fun b h=>.inr (World.ownsRow.lt hl1 b h).1,b7⟩
 rintro u1 ⟨lo,ln,lc,rfl⟩
 simp only[Act.put,List.setIfInBounds_toArray,List.set_cons_succ,List.set_cons_zero]
 (repeat (first | (refine wpChainO_skip rfl ?_;simp only[Act.put,List.setIfInBounds_toArray,List.set_cons_succ,List.set_cons_zero]) | (refine wpChainO_quiet hF rfl rfl rfl ?_;intro K hK;go_big_quiet_op;go_big_quiet_on) | (refine wpChainO_pure _ rfl rfl (fun w' _=>by go_simp;try rfl) ?_;simp only[Act.put,List.setIfInBounds_toArray,List.set_cons_succ,List.set_cons_zero])))
 refine wpChainO_vscall 12 #[.slice zo zn zc,.int .i64 size,.slice lo ln lc,.agg #[.int .i64 f,.int .i64 t],.int .i64 each] rfl rfl (fun w'=>by go_simp) (fun w' hb hgd=>?_) ?_
 ·obtain ⟨m2,G,hl1,hl2⟩:=hgd
  obtain ⟨lo2,lc2,hle,hlin,hlao⟩:=leftIn HIRc.out hb hl1 hl2
  simp only[Value.slice.injEq] at hle
  obtain ⟨rfl,rfl,rfl⟩:=hle
  refine (CT2.out w' lo ln lc G hb hlin hl2 hlao).mono ?_
  rintro e w7 ⟨⟨a2,b2,tv2,e2,rfl,ht2⟩,b7⟩
  obtain ⟨t2o,t2n,t2c,rfl⟩:∃ o n c,tv2 = .slice o n c:=by
   by_cases h0:e2 = 0
   ·obtain ⟨o,c,e,_⟩:=rowSl (ht2.2.1 h0).2.2
    exact ⟨_,_,_,e⟩
   ·exact ⟨_,_,_,(ht2.2.2 h0).2.2⟩
  exact ⟨_,rfl,⟨_,_,_,_,_,_,rfl⟩,⟨ln,G,hl2,_,_,_,_,_,_,rfl,ht2.1,fun h=>⟨(ht2.2.1 h).1,(ht2.2.1 h).2.1,Row.base_mono (ht2.2.1 h).2.2 hb.size⟩,ht2.2.2⟩,fun b h=>.inr (by
   obtain ⟨x',y',o',nn',c',e',he',h0,hb'⟩:=h
   simp only[Value.tuple.injEq,Array.mk.injEq,List.cons.injEq,Value.agg.injEq,Value.int.injEq,Value.slice.injEq,true_and,and_true] at he'
   obtain ⟨⟨rfl,rfl,rfl,rfl,rfl⟩,rfl⟩:=he'
   exact (World.ownsRow.lt (ht2.2.1 h0).2.2 b hb').1),b7⟩
 rintro u2 ⟨a2,b2,t2o,t2n,t2c,e2,rfl⟩
 simp only[Act.put,List.setIfInBounds_toArray,List.set_cons_succ,List.set_cons_zero]
 (repeat (first | (refine wpChainO_skip rfl ?_;simp only[Act.put,List.setIfInBounds_toArray,List.set_cons_succ,List.set_cons_zero]) | (refine wpChainO_quiet hF rfl rfl rfl ?_;intro K hK;go_big_quiet_op;go_big_quiet_on) | (refine wpChainO_pure _ rfl rfl (fun w' _=>by go_simp;try rfl) ?_;simp only[Act.put,List.setIfInBounds_toArray,List.set_cons_succ,List.set_cons_zero])))
 (refine wpChainO_store 18 qu (.cells #[.int .i64 0,.int .i64 0,.slice none 0 0] 37) (.cells #[.int .i64 a2,.int .i64 b2,.slice t2o t2n t2c] 37) rfl (by simp [vsPlan]) (by simp [setB]) (by simp [setB]) rfl (fun w' hw'=>by have c0:=cell_at hw' 0;have c1:=cell_at hw' 1;have c2:=cell_at hw' 2;have g0:=free_at hw';have hlt:=block_lt hw';go_simp;rw[setCell_at hw',setAt_setCell hlt,setAt_setCell hlt];rfl) ?_;simp only[Act.put,List.setIfInBounds_toArray,List.set_cons_succ,List.set_cons_zero])
 (repeat (first | (refine wpChainO_skip rfl ?_;simp only[Act.put,List.setIfInBounds_toArray,List.set_cons_succ,List.set_cons_zero]) | (refine wpChainO_quiet hF rfl rfl rfl ?_;intro K hK;go_big_quiet_op;go_big_quiet_on) | (refine wpChainO_pure _ rfl rfl (fun w' _=>by go_simp;try rfl) ?_;simp only[Act.put,List.setIfInBounds_toArray,List.set_cons_succ,List.set_cons_zero])))
 refine wpChainO_nil (fun wf hbd hld=>?_)
 have bd:Below wc1.heap.size wc1 wf:=hbd.1
 obtain ⟨m2,G,hl2,a2',b2',o2',n2',c2'',e2',hve,ht2⟩:=hbd.2
 simp only[Value.tuple.injEq,Array.mk.injEq,List.cons.injEq,Value.agg.injEq,Value.int.injEq,Value.slice.injEq,true_and,and_true] at hve
 obtain ⟨⟨rfl,rfl,rfl,rfl,rfl⟩,rfl⟩:=hve
 have X10:=Lib.hid (hld.1.2 (18,qu,.cells #[.int .i64 a2,.int .i64 b2,.slice t2o t2n t2c] 37) (by simp [setB])).2
 have HL2:=Lib.hid hl2
 have HT2:=Lib.hid ht2
 have XPf:=Lib.hid ((bd.block _ (block_lt XPc.out)).trans XPc.out)
 have XRf:=Lib.hid ((bd.block _ (block_lt XRc.out)).trans XRc.out)
 have X8f:=Lib.hid ((bd.block _ (block_lt X8c.out)).trans X8c.out)
 have X9f:=Lib.hid ((bd.block _ (block_lt X9.out)).trans X9.out)
 have BBf:=Lib.hid (BBc.out.trans (bd.mono BBc.out.size))
 have B7f:=Lib.hid (B7c.out.trans (bd.mono B7c.out.size))
 have B9f:=Lib.hid (B9c.out.trans (bd.mono B9c.out.size))
 clear ht2 hl2 hbd hld hF fb hne fv0 fv1 fy0 fy1 fy2 fy3 fy4 CW CT2 XPc XWc XRc X8c X9 BBc B7c B9c HIRc HPL HS0 bd
 go_wp2_with fail
 try refine onlyN_intro ?_
 by_cases hr0:r = 0
 case neg =>
  have tr:(r != 0) = true:=by simp [hr0]
  go_wp2_with fail
  refine (awake6 _ (HG.out.below (BBf.out))).mono ?_
  rintro e wz ⟨rfl,bz⟩
  have BZ:=Lib.hid ((BBf.out).trans (bz.mono (BBf.out).size))
  clear bz
  go_wp2_with fail
  go_returns
  exact ⟨rfl,BZ.out⟩
 subst hr0
 obtain ⟨hto,zv,wv,Y,he,hy1,hy2,hy3,hy4⟩:=HC.out rfl
 simp only[Value.agg.injEq,Array.mk.injEq,List.cons.injEq,Value.int.injEq,true_and,and_true] at he
 obtain ⟨q0,q1,q2,q3,q4,rfl,rfl⟩:=he
 rw[q0,q1,q2,q3,q4] at X8f
 clear HC q0 q1 q2 q3 q4
 obtain ⟨s,rfl⟩:∃ s:Nat,size = (s:Int):=⟨size.toNat,by have:=hto.sz;omega⟩
 have hto2:=leftR_tabOk HL2.out hto
 obtain ⟨D,hD1,hD2⟩:=leftR_cells HL2.out hto
 have E1:e1 = 0:=HT1.out.1.2 hto
 have E2:e2 = 0:=HT2.out.1.2 hto2
 subst E1 E2
 obtain ⟨rfl,rfl,ht1⟩:=HT1.out.2.1 rfl
 obtain ⟨rfl,rfl,ht2⟩:=HT2.out.2.1 rfl
 rw[Int.toNat_natCast] at ht1 ht2 hy1 hy4
 obtain ⟨p,hp⟩:∃ p,p = s * s:=⟨_,rfl⟩
 have hck1:=tabCk hto
 have hck2:=tabCk hto2
 have hab:=absS_lost hD1 p
 have hdp:=hD2 p
 have hx256:∀ i,i < p→0≤celX Z zn (s:Int) f t each m F i∧celX Z zn (s:Int) f t each m F i≤256:=fun i hi=>by
  have h2:=cellN_le Z zn (s:Int) each f t F m m i
  have h3:=hto.rides.few
  unfold celX
  omega
 have hck0:=pubCk hck1 (by rw[hp] at hx256;exact hx256) HWN.out.2.1 hy4
 obtain ⟨ao1,cc1,q1,hs1⟩:=rowSl ht1
 obtain ⟨ao2,cc2,q2,hs2⟩:=rowSl ht2
 obtain ⟨ao3,cc3,q3,hs3⟩:=rowSl hy1
 obtain ⟨ao4,cc4,q4,hs4⟩:=rowSl hy2
 simp only[Value.slice.injEq] at q1 q2 q3 q4
 obtain ⟨qa,q1,qb⟩:=q1
 replace qa:=qa.symm
 replace qb:=qb.symm
 subst qa qb
 obtain ⟨qa,q2,qb⟩:=q2
 replace qa:=qa.symm
 replace qb:=qb.symm
 subst qa qb
 obtain ⟨qa,q3,qb⟩:=q3
 replace qa:=qa.symm
 replace qb:=qb.symm
 subst qa qb
 obtain ⟨qa,q4,qb⟩:=q4
 replace qa:=qa.symm
 replace qb:=qb.symm
 subst qa qb
 rw[q1] at X9f
 rw[q2] at X10
 rw[q3,q4] at X8f
 obtain ⟨X,hX⟩:∃ X,X = celX Z zn (s:Int) f t each m F:=⟨_,rfl⟩
 obtain ⟨V,hV⟩:∃ V,V = celX Z zn (s:Int) f t each m2 (fun i=>F (G i)):=⟨_,rfl⟩
 change Sl w9 1 ao1 (s * s) cc1 (nuR (celX Z zn (s:Int) f t each m F)) at hs1
 change Sl wf 1 ao2 (s * s) cc2 (nuR (celX Z zn (s:Int) f t each m2 (fun i=>F (G i)))) at hs2
 change absS (celX Z zn (s:Int) f t each m F) (celX Z zn (s:Int) f t each m2 (fun i=>F (G i))) p = _ at hab
 rw[←hX] at hs1 hck1 hx256 hy4 hab
 rw[←hV] at hs2 hck2 hab
 rw[←hp] at hs1 hs2 hs3 hck1 hck2 hck0 hy4 X8f X9f X10
 have S1:=Lib.hid (hs1.below B9f.out)
 have S2:=Lib.hid hs2
 have S3:=Lib.hid (hs3.below B7f.out)
 have S4:=Lib.hid (hs4.below B7f.out)
 have K0:=Lib.hid hck0
 have K1:=Lib.hid hck1
 have K2:=Lib.hid hck2
 have HY4:=Lib.hid hy4
 have HX2:=Lib.hid hx256
 have hab2:absS X V p≤each:=by rw[hab];exact hdp
 have hab0:=(absS_bound hck1.2.2.2 hck2.2.2.2 p (Nat.le_refl _)).1
 have hs4':=hto.sz
 have hpp:p≤64:=by
  have h1:=hck1.1
  have h3:=hck1.2.2.1
  have:=Int.mul_le_mul h1.2 h1.2 (by omega) (by omega)
  omega
 have l1:=S1.out.hm
 have l2:=S1.out.hc
 have l3:=S2.out.hm
 have l4:=S2.out.hc
 have l5:=S3.out.hm
 have l6:=S3.out.hc
 have l7:=S4.out.hm
 have l8:=S4.out.hc
 obtain ⟨da,hda⟩:∃ da,da = absS X V p:=⟨_,rfl⟩
 have CAp:=Lib.hid (Apart14 (s:Int) (s:Int) ao1 p cc1 X ao2 cc2 V wf S1.out S2.out K1.out K2.out)
 rw[←hda] at hab2 hab0 CAp
 clear hs1 hs2 hs3 hs4 hck0 hck1 hck2 hy1 hy2 hy3 hy4 ht1 ht2 hD1 hD2 hab hdp hto hto2 HT1 HT2 HL2 hx256 hX hV hp hda B7f B9f
 have g0:=cell_at X9f.out 0
 have g1:=cell_at X9f.out 1
 have g2:=cell_at X9f.out 2
 have zg:=szs (block_lt X9f.out)
 have i0:=cell_at X10.out 0
 have i1:=cell_at X10.out 1
 have i2:=cell_at X10.out 2
 have zi:=szs (block_lt X10.out)
 go_wp2_with fail
 refine CAp.out.mono ?_
 rintro e wg ⟨rfl,bg⟩
 have X8g:=Lib.hid ((bg.block _ (block_lt X8f.out)).trans X8f.out)
 have X9g:=Lib.hid ((bg.block _ (block_lt X9f.out)).trans X9f.out)
 have X10g:=Lib.hid ((bg.block _ (block_lt X10.out)).trans X10.out)
 have XPg:=Lib.hid ((bg.block _ (block_lt XPf.out)).trans XPf.out)
 have XRg:=Lib.hid ((bg.block _ (block_lt XRf.out)).trans XRf.out)
 have BBg:=Lib.hid (BBf.out.trans (bg.mono BBf.out.size))
 have S1g:=Lib.hid (S1.out.below bg)
 have S2g:=Lib.hid (S2.out.below bg)
 have S3g:=Lib.hid (S3.out.below bg)
 have S4g:=Lib.hid (S4.out.below bg)
 clear bg CAp g0 g1 g2 zg i0 i1 i2 zi X8f X9f X10 XPf XRf BBf S1 S2 S3 S4
 have CCh:=Lib.hid (Chances15 f t each (s:Int) (s:Int) ao3 p cc3 Y none 0 0 none 0 0 none 0 0 ao4 N cc4 (wts num den) ao2 cc2 V wg S3g.out S4g.out S2g.out (HG.out.below BBg.out) K0.out K2.out HWN.out)
 have j0:=cell_at X8g.out 0
 have j1:=cell_at X8g.out 1
 have j2:=cell_at X8g.out 2
 have j3:=cell_at X8g.out 3
 have j4:=cell_at X8g.out 4
 have j5:=cell_at X8g.out 5
 have j6:=cell_at X8g.out 6
 have j7:=cell_at X8g.out 7
 have j8:=cell_at X8g.out 8
 have j9:=cell_at X8g.out 9
 have zj:=szs (block_lt X8g.out)
 have i0:=cell_at X10g.out 0
 have i1:=cell_at X10g.out 1
 have i2:=cell_at X10g.out 2
 have zi:=szs (block_lt X10g.out)
 go_wp2_with fail
 refine CCh.out.mono ?_
 rintro e wh ⟨⟨cv,rfl,hcv⟩,bh⟩
 obtain ⟨ao5,cc5,rfl,hs5⟩:=rowSl hcv
 have S5:=Lib.hid hs5
 have l9:=hs5.hm
 have l10:=hs5.hc
 have X8h:=Lib.hid ((bh.block _ (block_lt X8g.out)).trans X8g.out)
 have X9h:=Lib.hid ((bh.block _ (block_lt X9g.out)).trans X9g.out)
 have X10h:=Lib.hid ((bh.block _ (block_lt X10g.out)).trans X10g.out)
 have XPh:=Lib.hid ((bh.block _ (block_lt XPg.out)).trans XPg.out)
 have XRh:=Lib.hid ((bh.block _ (block_lt XRg.out)).trans XRg.out)
 have BBh:=Lib.hid (BBg.out.trans (bh.mono BBg.out.size))
 have S1h:=Lib.hid (S1g.out.below bh)
 have S2h:=Lib.hid (S2g.out.below bh)
 have S3h:=Lib.hid (S3g.out.below bh)
 have S4h:=Lib.hid (S4g.out.below bh)
 clear bh hcv hs5 CCh j0 j1 j2 j3 j4 j5 j6 j7 j8 j9 zj i0 i1 i2 zi X8g X9g X10g XPg XRg BBg S1g S2g S3g S4g
 have y0:=cell_at XPh.out 0
 have y1:=cell_at XPh.out 1
 have y2:=cell_at XPh.out 2
 have y3:=cell_at XPh.out 3
 have y4:=cell_at XPh.out 4
 have zy:=szs (block_lt XPh.out)
 have g2:=cell_at X9h.out 2
 have zg:=szs (block_lt X9h.out)
 have i2:=cell_at X10h.out 2
 have zi:=szs (block_lt X10h.out)
 have td:decide (da > each) = false:=decide_eq_false (by omega)
 have tdo:decide (each < da) = false:=decide_eq_false (by omega)
 have tp:((p:Int) != (p:Int)) = false:=by simp
 go_wp2_with fail
 clear y0 y1 y2 y3 y4 zy g2 zg i2 zi td tdo tp
 go_loopw [29] (fun s29 wr=>∃ i:Nat,s29 = .int .i64 i∧i≤p∧Hid (SeenC X V N (wts num den) Y i)∧Hid (Below wh.heap.size wh wr)) (fun s _=>p - (intOf s).toNat)
 case atStart=>exact ⟨0,rfl,Nat.zero_le _,Lib.hid SeenC.zero,Lib.hid (Below.refl _ _)⟩
 case round =>
  obtain ⟨i,rfl,hip,hse,hb⟩:=hrel
  have HSE:=hse
  have HB:=hb
  clear hb hse
  have X9r:=Lib.hid ((HB.out.block _ (block_lt X9h.out)).trans X9h.out)
  have X10r:=Lib.hid ((HB.out.block _ (block_lt X10h.out)).trans X10h.out)
  have BBr:=Lib.hid (BBh.out.trans (HB.out.mono BBh.out.size))
  have g2:=cell_at X9r.out 2
  have zg:=szs (block_lt X9r.out)
  have i2:=cell_at X10r.out 2
  have zi:=szs (block_lt X10r.out)
  by_cases hlt:i < p
  ·have t4:decide ((i:Int) < (p:Int)) = true:=decide_eq_true (by omega)
   have t4n:decide (i < p) = true:=decide_eq_true hlt
   have hiI:(i:Int) < (p:Int):=by omega
   obtain ⟨gc,oc,hoc,hgc,chc⟩:=(S5.out.below HB.out).num1 hlt
   obtain ⟨ga,oa,hoa,hga,cha⟩:=(S1h.out.below HB.out).num1 hlt
   obtain ⟨gb,ob,hob,hgb,chb⟩:=(S2h.out.below HB.out).num1 hlt
   have zc':=szs hgc
   have za':=szs hga
   have zb':=szs hgb
   have hxr:=K1.out.2.2.2 i hlt
   have hvr:=K2.out.2.2.2 i hlt
   subst hoc hoa hob
   obtain ⟨cu,hcu⟩:∃ cu,cu = wtE N (wts num den) (Y i - V i):=⟨_,rfl⟩
   obtain ⟨xa,hxa⟩:∃ xa,xa = X i:=⟨_,rfl⟩
   obtain ⟨xb,hxb⟩:∃ xb,xb = V i:=⟨_,rfl⟩
   rw[←hcu] at chc
   rw[←hxa] at cha hxr
   rw[←hxb] at chb hvr
   have HN:=Lib.hid (And.intro hcu (And.intro hxa hxb))
   clear hcu hxa hxb
   by_cases d1:cu≤0
   ·have t5:decide (cu≤0) = true:=decide_eq_true d1
    go_wp2_with fail
    (refine region_all (fun i:Nat=>World.drewN _ i) mixed (by kernel_rfl) ⟨1,rfl⟩ ?_;(repeat (any_goals (first | go_big_quiet_step (fail) | quiet_step (fail) | (refine wpQuiet_step (fun K hK=>?_);go_simp;split <;> (refine hK _ ?_;clear hK K)))));(all_goals (refine wpQuiet_nil (fun nq=>?_))))
    have HBq:=Lib.hid (below_drewN HB.out nq)
    obtain ⟨wq,hwq⟩:∃ wq,wq = wr.drewN nq:=⟨_,rfl⟩
    rw[←hwq] at HBq ⊢
    clear hwq
    have BBq:=Lib.hid (BBh.out.trans (HBq.out.mono BBh.out.size))
    clear g2 zg i2 zi chc cha chb zc' za' zb' hgc hga hgb
    go_wp2_with fail
    refine (awake6 _ (HG.out.below (BBq.out))).mono ?_
    rintro e wz ⟨rfl,bz⟩
    have BZ:=Lib.hid ((BBq.out).trans (bz.mono (BBq.out).size))
    clear bz
    go_wp2_with fail
    go_returns
    exact ⟨rfl,BZ.out⟩
   have t5:decide (cu≤0) = false:=decide_eq_false d1
   by_cases d2:xa - xb > 3
   ·have t6:decide (xa - xb > 3) = true:=decide_eq_true d2
    have t6o:decide (3 < xa - xb) = true:=decide_eq_true d2
    go_wp2_with fail
    (refine region_all (fun i:Nat=>World.drewN _ i) mixed (by kernel_rfl) ⟨1,rfl⟩ ?_;(repeat (any_goals (first | go_big_quiet_step (fail) | quiet_step (fail) | (refine wpQuiet_step (fun K hK=>?_);go_simp;split <;> (refine hK _ ?_;clear hK K)))));(all_goals (refine wpQuiet_nil (fun nq=>?_))))
    have HBq:=Lib.hid (below_drewN HB.out nq)
    obtain ⟨wq,hwq⟩:∃ wq,wq = wr.drewN nq:=⟨_,rfl⟩
    rw[←hwq] at HBq ⊢
    clear hwq
    have BBq:=Lib.hid (BBh.out.trans (HBq.out.mono BBh.out.size))
    clear g2 zg i2 zi chc cha chb zc' za' zb' hgc hga hgb
    go_wp2_with fail
    refine (awake6 _ (HG.out.below (BBq.out))).mono ?_
    rintro e wz ⟨rfl,bz⟩
    have BZ:=Lib.hid ((BBq.out).trans (bz.mono (BBq.out).size))
    clear bz
    go_wp2_with fail
    go_returns
    exact ⟨rfl,BZ.out⟩
   have t6:decide (xa - xb > 3) = false:=decide_eq_false d2
   have t6o:decide (3 < xa - xb) = false:=decide_eq_false d2
   by_cases d3:xb - xa > 3
   ·have t7:decide (xb - xa > 3) = true:=decide_eq_true d3
    have t7o:decide (3 < xb - xa) = true:=decide_eq_true d3
    go_wp2_with fail
    (refine region_all (fun i:Nat=>World.drewN _ i) mixed (by kernel_rfl) ⟨1,rfl⟩ ?_;(repeat (any_goals (first | go_big_quiet_step (fail) | quiet_step (fail) | (refine wpQuiet_step (fun K hK=>?_);go_simp;split <;> (refine hK _ ?_;clear hK K)))));(all_goals (refine wpQuiet_nil (fun nq=>?_))))
    have HBq:=Lib.hid (below_drewN HB.out nq)
    obtain ⟨wq,hwq⟩:∃ wq,wq = wr.drewN nq:=⟨_,rfl⟩
    rw[←hwq] at HBq ⊢
    clear hwq
    have BBq:=Lib.hid (BBh.out.trans (HBq.out.mono BBh.out.size))
    clear g2 zg i2 zi chc cha chb zc' za' zb' hgc hga hgb
    go_wp2_with fail
    refine (awake6 _ (HG.out.below (BBq.out))).mono ?_
    rintro e wz ⟨rfl,bz⟩
    have BZ:=Lib.hid ((BBq.out).trans (bz.mono (BBq.out).size))
    clear bz
    go_wp2_with fail
    go_returns
    exact ⟨rfl,BZ.out⟩
   have t7:decide (xb - xa > 3) = false:=decide_eq_false d3
   have t7o:decide (3 < xb - xa) = false:=decide_eq_false d3
   have HSN:=Lib.hid (HSE.out.next (by rw[←HN.out.1];omega) (by rw[←HN.out.2.1,←HN.out.2.2];omega) (by rw[←HN.out.2.1,←HN.out.2.2];omega))
   go_wp2_with fail
   (refine region_all (fun i:Nat=>World.drewN _ i) mixed (by kernel_rfl) ⟨1,rfl⟩ ?_;(repeat (any_goals (first | go_big_quiet_step (fail) | quiet_step (fail) | (refine wpQuiet_step (fun K hK=>?_);go_simp;split <;> (refine hK _ ?_;clear hK K)))));(all_goals (refine wpQuiet_nil (fun nq=>?_))))
   have HBq:=Lib.hid (below_drewN HB.out nq)
   obtain ⟨wq,hwq⟩:∃ wq,wq = wr.drewN nq:=⟨_,rfl⟩
   rw[←hwq] at HBq ⊢
   clear hwq
   have BBq:=Lib.hid (BBh.out.trans (HBq.out.mono BBh.out.size))
   clear g2 zg i2 zi chc cha chb zc' za' zb' hgc hga hgb
   go_wp2_with fail
   go_roundw
   case rel=>(first | exact (show Exists (fun i:Nat=>_) from ⟨i+1,by go_num,by omega,HSN,HBq⟩) | (repeat (first | exact rfl | refine And.intro ((show Exists (fun i:Nat=>_) from ⟨i+1,by go_num,by omega,HSN,HBq⟩)) ?_ | apply Exists.intro)))
   case measure=>simp [intOf] <;> omega
  ·have t4:decide ((i:Int) < (p:Int)) = false:=decide_eq_false (by omega)
   have t4n:decide (i < p) = false:=decide_eq_false hlt
   have hie:i = p:=by omega
   subst hie
   have X8r:=Lib.hid ((HB.out.block _ (block_lt X8h.out)).trans X8h.out)
   have XRr:=Lib.hid ((HB.out.block _ (block_lt XRh.out)).trans XRh.out)
   have CAl:=Lib.hid (Alike16 f t each (s:Int) (s:Int) ao3 i cc3 Y none 0 0 none 0 0 none 0 0 ao4 N cc4 (wts num den) ao1 cc1 X ao2 cc2 V num den wr (S3h.out.below HB.out) (S4h.out.below HB.out) (S1h.out.below HB.out) (S2h.out.below HB.out) (HG.out.below BBr.out) K0.out K1.out K2.out HWN.out HRT.out (HSE.out.alk HRT.out HY4.out))
   have g0:=cell_at X9r.out 0
   have g1:=cell_at X9r.out 1
   have i0:=cell_at X10r.out 0
   have i1:=cell_at X10r.out 1
   have r0:=cell_at XRr.out 0
   have r1:=cell_at XRr.out 1
   have zr:=szs (block_lt XRr.out)
   have j0:=cell_at X8r.out 0
   have j1:=cell_at X8r.out 1
   have j2:=cell_at X8r.out 2
   have j3:=cell_at X8r.out 3
   have j4:=cell_at X8r.out 4
   have j5:=cell_at X8r.out 5
   have j6:=cell_at X8r.out 6
   have j7:=cell_at X8r.out 7
   have j8:=cell_at X8r.out 8
   have j9:=cell_at X8r.out 9
   have zj:=szs (block_lt X8r.out)
   go_wp2_with fail
   refine CAl.out.mono ?_
   rintro e wk ⟨rfl,bk⟩
   have BBk:=Lib.hid (BBr.out.trans (bk.mono BBr.out.size))
   clear bk CAl g0 g1 g2 zg i0 i1 i2 zi r0 r1 zr j0 j1 j2 j3 j4 j5 j6 j7 j8 j9 zj
   go_wp2_with fail
   refine (awake6 _ (HG.out.below (BBk.out))).mono ?_
   rintro e wz ⟨rfl,bz⟩
   have BZ:=Lib.hid ((BBk.out).trans (bz.mono (BBk.out).size))
   clear bz
   go_wp2_with fail
   go_returns
   exact ⟨rfl,BZ.out⟩
end Go.Proofs.YtdpoppilnokniaaGreatDoor
