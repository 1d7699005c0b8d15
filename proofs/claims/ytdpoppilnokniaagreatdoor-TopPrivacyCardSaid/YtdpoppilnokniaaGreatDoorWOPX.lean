/- Theorems of this seat. -/
import Derived.Test.YtdpoppilnokniaaGreatDoorWEVA
import Derived.Test.YtdpoppilnokniaaGreatDoorWBB
import Derived.Test.YtdpoppilnokniaaGreatDoorWCMA
import Derived.Test.YtdpoppilnokniaaGreatDoorWC
import Derived.Test.YtdpoppilnokniaaGreatDoorWNSC
namespace Go.Proofs.YtdpoppilnokniaaGreatDoor
open Go.RowKit Go.ChangeShapes Go.WideShapes Go.Deep
set_option linter.unusedVariables false
set_option linter.unusedSimpArgs false
set_option maxHeartbeats 4000000 in
theorem few5 (f:Fl) (ao:Option Addr) (n c:Nat) (w:World) (h:f.In w) (hn:n≤c) (hc:c≤9223372036854775807):Calls Tryz.prog 5 #[.agg f.cells,.slice ao n c] w fun e w'=>e = .returned (.bool (decide (n≤40) && (decide (f.nd≤40) && decide (f.nt≤20))))∧Below w.heap.size w w':=by
 have h1:=h.docks.hm
 have h2:=h.docks.hc
 have h3:=h.trucks.hm
 have h4:=h.trucks.hc
 clear h
 obtain ⟨bk,rd,dv,ad,nd,cd,D,a2,nt,ct,T⟩:=f
 dsimp only at h1 h2 h3 h4 ⊢
 unfold Fl.cells
 dsimp only
 by_cases c0:n≤40
 ·have t0:(n:Int)≤40:=by omega
  by_cases c1:nd≤40
  ·have t1:(nd:Int)≤40:=by omega
   by_cases c2:nt≤20
   ·have t2:(nt:Int)≤20:=by omega
    go_enter Tryz.func5,Tryz.ntmps5
    go_wp2_with fail
    go_returns
    exact ⟨by simp [c0,c1,c2],by (repeat' (first | with_reducible (first | exact Below.refl _ _ | assumption | refine Below.drew ?_ | refine below_drewN ?_ _ | refine Below.alloc ?_ ?_ _ | refine Below.setCell ?_ ?_ _) | go_size))⟩
   ·have t2:(20:Int) < (nt:Int):=by omega
    go_enter Tryz.func5,Tryz.ntmps5
    go_wp2_with fail
    go_returns
    exact ⟨by simp [c0,c1,c2] <;> omega,by (repeat' (first | with_reducible (first | exact Below.refl _ _ | assumption | refine Below.drew ?_ | refine below_drewN ?_ _ | refine Below.alloc ?_ ?_ _ | refine Below.setCell ?_ ?_ _) | go_size))⟩
  ·have t1:(40:Int) < (nd:Int):=by omega
   go_enter Tryz.func5,Tryz.ntmps5
   go_wp2_with fail
   go_returns
   exact ⟨by simp [c0,c1] <;> omega,by (repeat' (first | with_reducible (first | exact Below.refl _ _ | assumption | refine Below.drew ?_ | refine below_drewN ?_ _ | refine Below.alloc ?_ ?_ _ | refine Below.setCell ?_ ?_ _) | go_size))⟩
 ·have t0:(40:Int) < (n:Int):=by omega
  go_enter Tryz.func5,Tryz.ntmps5
  go_wp2_with fail
  go_returns
  exact ⟨by simp [c0] <;> omega,by (repeat' (first | with_reducible (first | exact Below.refl _ _ | assumption | refine Below.drew ?_ | refine below_drewN ?_ _ | refine Below.alloc ?_ ?_ _ | refine Below.setCell ?_ ?_ _) | go_size))⟩
section
variable {H:Type} {enc:TypeId×Value→H} {W:World} {base:Nat} {v:Value} {d:DataW H} {p:List MemPlace}
theorem nine_cases {j:Nat}(h:j < 9):j = 0∨j = 1∨j = 2∨j = 3∨j = 4∨j = 5∨j = 6∨j = 7∨j = 8:=by omega
theorem inN_of {F:Nat→Int}(h:∀ j,j < 9→inI (F j)):inN ⟨F 0,F 1,F 2,F 3,F 4,F 5,F 6,F 7,F 8⟩:=by
 intro x hx
 simp only[nums,List.mem_cons,List.not_mem_nil,or_false] at hx
 rcases hx with rfl | rfl | rfl | rfl | rfl | rfl | rfl | rfl | rfl
 ·exact h 0 (by decide)
 ·exact h 1 (by decide)
 ·exact h 2 (by decide)
 ·exact h 3 (by decide)
 ·exact h 4 (by decide)
 ·exact h 5 (by decide)
 ·exact h 6 (by decide)
 ·exact h 7 (by decide)
 ·exact h 8 (by decide)
set_option maxRecDepth 8000 in
theorem open_events (hv:Value.okWide Tryz.prog W .any base 25 v) (h:DataW.Trod enc Tryz.prog W 0 (fun _=>true) true 25 v d p):∃ (a:Option Addr) (m c:Nat) (F:Nat→Ev),v = .slice a m c∧EvSl W a m c F∧∀ i,i < m→inN (F i):=by
 obtain ⟨a0,len,cap,rfl⟩:=okWide_slice Tryz.underlying25 hv
 obtain ⟨fuel,hf⟩:=h
 obtain ⟨a,m,c,F,hcs,hs,hb⟩:=open_rows Tryz.underlying25 Tryz.underlying81 (by kernel_rfl) (by kernel_rfl) (by decide) (fun j f hj=>by
  have hl:j < 9:=(Array.getElem?_eq_some_iff.1 hj).1
  rcases nine_cases hl with rfl | rfl | rfl | rfl | rfl | rfl | rfl | rfl | rfl <;> (cases hj;exact Tryz.underlying3)) hf
 simp [Value.cells] at hcs
 obtain ⟨rfl,rfl,rfl⟩:=hcs
 exact ⟨_,_,_,fun i=>⟨F i 0,F i 1,F i 2,F i 3,F i 4,F i 5,F i 6,F i 7,F i 8⟩,rfl,hs.congr fun i=>rfl,fun i hi=>inN_of (hb i hi)⟩
end
section
variable {H:Type} {enc:TypeId×Value→H} {W:World} {base:Nat} {v:Value} {d:DataW H} {p:List MemPlace}
set_option maxRecDepth 8000 in
theorem open_fleet (hv:Value.okWide Tryz.prog W .any base 24 v) (h:DataW.Trod enc Tryz.prog W 0 (fun _=>true) true 24 v d p):∃ f:Fl,v = .agg f.cells∧f.In W∧inI f.bikes∧inI f.riders∧inI f.devs∧(∀ i,i < f.nd→inI (f.D i))∧(∀ i,i < f.nt→inI (f.T i)):=by
 obtain ⟨cs,rfl,hsz⟩:=okWide_struct Tryz.underlying24 hv
 obtain ⟨fuel,hf⟩:=h
 obtain ⟨hl,hc⟩:=open_struct_cells Tryz.underlying24 (by kernel_rfl) (by kernel_rfl) hf
 obtain ⟨v0,n0,y0,g0,h0⟩:=hc 0 _ rfl
 obtain ⟨v1,n1,y1,g1,h1⟩:=hc 1 _ rfl
 obtain ⟨v2,n2,y2,g2,h2⟩:=hc 2 _ rfl
 obtain ⟨v3,n3,y3,g3,h3⟩:=hc 3 _ rfl
 obtain ⟨v4,n4,y4,g4,h4⟩:=hc 4 _ rfl
 obtain ⟨b0,e0,_,w0⟩:=DataW.trod_int Tryz.underlying3 h0
 obtain ⟨b1,e1,_,w1⟩:=DataW.trod_int Tryz.underlying3 h1
 obtain ⟨b2,e2,_,w2⟩:=DataW.trod_int Tryz.underlying3 h2
 obtain ⟨ad,nd,cd,D,e3,s3,w3⟩:=open_num_slice Tryz.underlying22 Tryz.underlying3 (by kernel_rfl) h3
 obtain ⟨a2,nt,ct,T,e4,s4,w4⟩:=open_num_slice Tryz.underlying22 Tryz.underlying3 (by kernel_rfl) h4
 simp at e0 e1 e2 e3 e4
 subst e0 e1 e2 e3 e4
 refine ⟨⟨b0,b1,b2,ad,nd,cd,D,a2,nt,ct,T⟩,?_,⟨s3,s4⟩,bounds_i64 w0,bounds_i64 w1,bounds_i64 w2,fun i hi=>bounds_i64 (w3 i hi),fun i hi=>bounds_i64 (w4 i hi)⟩
 congr 1
 simp [Value.cells] at hl g0 g1 g2 g3 g4
 obtain ⟨l⟩:=cs
 match l,hl with
 | [a,b,c,e,f],_ =>
  simp at g0 g1 g2 g3 g4
  subst g0 g1 g2 g3 g4
  rfl
end
set_option maxRecDepth 8000
section
variable {H:Type} {enc:TypeId×Value→H} {W:World} {base:Nat} {v:Value} {d:DataW H} {p:List MemPlace}
theorem open_pub (hv:Value.okWide Tryz.prog W .any base 29 v) (h:DataW.Trod enc Tryz.prog W 0 (fun _=>true) true 29 v d p):∃ (zo:Option Addr) (zn zc:Nat) (Z:Nat→Int) (size f t each:Int),v = .agg #[.slice zo zn zc,.int .i64 size,.int .i64 f,.int .i64 t,.int .i64 each]∧Sl W 1 zo zn zc (nuR Z)∧inI size∧inI f∧inI t∧inI each:=by
 obtain ⟨cs,rfl,hsz⟩:=okWide_struct Tryz.underlying29 hv
 obtain ⟨fuel,hf⟩:=h
 have hc:Tryz.prog.cellsOf 29 = 5:=by kernel_rfl
 rw[hc] at hsz
 obtain ⟨ys,n,_,_,_,hyl,hx⟩:=DataW.trod_struct Tryz.underlying29 hf
 obtain ⟨c0,c1,c2,c3,c4,rfl⟩:∃ c0 c1 c2 c3 c4,cs = #[c0,c1,c2,c3,c4]:=by
  obtain ⟨l⟩:=cs
  match l,hsz with
  | [a,b,c,e,f],_=>exact ⟨a,b,c,e,f,rfl⟩
 match ys,hyl with
 | [y0,y1,y2,y3],_ =>
  have f0:=hx 0 _ rfl
  have f1:=hx 1 _ rfl
  have f2:=hx 2 _ rfl
  have f3:=hx 3 _ rfl
  have e3:Tryz.prog.cellsOf 3 = 1:=by kernel_rfl
  have e22:Tryz.prog.cellsOf 22 = 1:=by kernel_rfl
  have e27:Tryz.prog.cellsOf 27 = 2:=by kernel_rfl
  simp [Value.cells,e3,e22,e27] at f0 f1 f2 f3
  obtain ⟨zo,zn,zc,Z,q0,hz,_⟩:=open_num_slice Tryz.underlying22 Tryz.underlying3 e3 f0
  obtain ⟨k1,q1,_,w1⟩:=DataW.trod_int Tryz.underlying3 f1
  obtain ⟨z0,z1,n2,_,_,g0,g1⟩:=trod_struct2 Tryz.underlying27 f2
  simp [e3] at g0 g1
  obtain ⟨k2,q2,_,w2⟩:=DataW.trod_int Tryz.underlying3 g0
  obtain ⟨k3,q3,_,w3⟩:=DataW.trod_int Tryz.underlying3 g1
  obtain ⟨k4,q4,_,w4⟩:=DataW.trod_int Tryz.underlying3 f3
  simp at q0 q1 q2 q3 q4
  subst q0 q1 q2 q3 q4
  exact ⟨zo,zn,zc,Z,k1,k2,k3,k4,rfl,hz,bounds_i64 w1,bounds_i64 w2,bounds_i64 w3,bounds_i64 w4⟩
theorem open_words (hv:Value.okWide Tryz.prog W .any base 51 v) (h:DataW.Trod enc Tryz.prog W 0 (fun _=>true) true 51 v d p):∃ (uo:Option Addr) (k kc:Nat) (U:Nat→Int),v = .slice uo k kc∧Sl W 1 uo k kc (u6R U)∧∀ i,i < k→0≤U i∧U i≤18446744073709551615:=by
 obtain ⟨a0,len,cap,rfl⟩:=okWide_slice Tryz.underlying51 hv
 obtain ⟨fuel,hf⟩:=h
 obtain ⟨a,m,c,F,hcs,hs,hb⟩:=open_num_slice Tryz.underlying51 Tryz.underlying72 (by kernel_rfl) hf
 simp [Value.cells] at hcs
 obtain ⟨rfl,rfl,rfl⟩:=hcs
 refine ⟨_,_,_,F,rfl,hs,fun i hi=>?_⟩
 have:=hb i hi
 simp [Lit.wf,IntKind.min,IntKind.max,IntKind.signed,IntKind.bits] at this
 omega
theorem open_ratio (hv:Value.okWide Tryz.prog W .any base 50 v) (h:DataW.Trod enc Tryz.prog W 0 (fun _=>true) true 50 v d p):∃ num den:Int,v = .agg #[.int .i64 num,.int .i64 den]∧inI num∧inI den:=by
 obtain ⟨F,rfl,hb⟩:=open_struct_ints Tryz.underlying50 (by kernel_rfl) (by kernel_rfl) (fun j f hj=>by
  have hl:j < 2:=(Array.getElem?_eq_some_iff.1 hj).1
  rcases (show j = 0∨j = 1 by omega) with rfl | rfl <;> (cases hj;exact Tryz.underlying3)) hv h
 exact ⟨F 0,F 1,rfl,hb 0 (by decide),hb 1 (by decide)⟩
theorem open_who (hv:Value.okWide Tryz.prog W .any base 48 v) (h:DataW.Trod enc Tryz.prog W 0 (fun _=>true) true 48 v d p):∃ a b:Int,v = .agg #[.int .i64 a,.int .i64 b]∧inI a∧inI b:=by
 have hcs:∃ cs,v = .agg cs∧cs.size = Tryz.prog.cellsOf 48:=by
  simp only[Value.okWide,Tryz.underlying48] at hv
  obtain ⟨cs,h1,h2,_⟩:=hv
  exact ⟨cs,h1,h2⟩
 obtain ⟨cs,rfl,hsz⟩:=hcs
 have hc:Tryz.prog.cellsOf 48 = 2:=by kernel_rfl
 have e3:Tryz.prog.cellsOf 3 = 1:=by kernel_rfl
 rw[hc] at hsz
 obtain ⟨fuel,hf⟩:=h
 obtain ⟨xs,m,_,_,_,hxl,hx⟩:=DataW.trod_array Tryz.underlying48 hf
 obtain ⟨c0,c1,rfl⟩:∃ c0 c1,cs = #[c0,c1]:=by
  obtain ⟨l⟩:=cs
  match l,hsz with
  | [a,b],_=>exact ⟨a,b,rfl⟩
 match xs,hxl with
 | [y0,y1],_ =>
  have f0:=hx 0 (by decide)
  have f1:=hx 1 (by decide)
  simp [Value.cells,e3] at f0 f1
  obtain ⟨k0,q0,_,w0⟩:=DataW.trod_int Tryz.underlying3 f0
  obtain ⟨k1,q1,_,w1⟩:=DataW.trod_int Tryz.underlying3 f1
  simp at q0 q1
  subst q0 q1
  exact ⟨k0,k1,rfl,bounds_i64 w0,bounds_i64 w1⟩
end
end Go.Proofs.YtdpoppilnokniaaGreatDoor
