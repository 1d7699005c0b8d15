/- Theorems of this seat. -/
import Derived.Test.YtdpoppilnokniaaGreatDoorWTB1
import Derived.Test.YtdpoppilnokniaaGreatDoorWFLY
namespace Go.Proofs.YtdpoppilnokniaaGreatDoor
open Go.RowKit Go.ChangeShapes Go.WideShapes Go.Deep
set_option linter.unusedVariables false
set_option linter.unusedSimpArgs false
set_option linter.unnecessarySimpa false
def TabP (Z:Nat→Int) (zn:Nat) (size f t each:Int) (n:Nat) (F:Nat→Rid) (L:Nat→Nat→Leg) (Q:Nat→Nat→Pau) (base:Nat) (a b:Int) (v:Value) (r:Int) (w':World):Prop :=
 (r = 0↔TabOk Z zn size f t each n F L Q)∧(r = 0→a = size∧b = size∧Row w' base 3 1 v (size.toNat * size.toNat) (nuR (fun q=>(cellN Z zn size each f t F n n q:Int))))∧(r ≠ 0→a = 0∧b = 0∧v = .slice none 0 0)
def TbL (w:World) (Z:Nat→Int) (zn:Nat) (s p:Nat) (each f t:Int) (n:Nat) (F:Nat→Rid) (B:Nat→Bool) (bv:Value) (qt qc:Nat) (s14 s63:Value) (wr:World):Prop :=
 ∃ (j:Nat) (sm:Bool) (T:Nat→Int),s63 = .int .i64 j∧s14 = .bool sm∧j≤n∧TbM w Z zn s p each f t n F B bv qt qc w.heap.size (w.heap.size+1) qc j sm T wr
set_option maxRecDepth 8000 in
set_option maxHeartbeats 32000000 in
theorem Table12 (zo:Option Addr) (zn zc:Nat) (Z:Nat→Int) (size:Int) (ro:Option Addr) (n c:Nat) (F:Nat→Rid) (L:Nat→Nat→Leg) (Q:Nat→Nat→Pau) (f t each:Int) (w:World) (hz:Sl w 1 zo zn zc (nuR Z)) (h:RdsIn w ro n c F L Q) (hn:n≤1000) (hp:∀ i,i < n→inI (F i).fp∧inI (F i).pl) (hao:∀ a,ro = some a→a.block < w.heap.size) :
  Calls Tryz.prog 12 #[.slice zo zn zc,.int .i64 size,.slice ro n c,.agg #[.int .i64 f,.int .i64 t],.int .i64 each] w fun e w'=>(∃ (a b:Int) (v:Value) (r:Int),e = .returned (.tuple #[.agg #[.int .i64 a,.int .i64 b,v],.int .i64 r])∧TabP Z zn size f t each n F L Q w.heap.size a b v r w')∧Below w.heap.size w w':=by
 have hlm:=h.row.hm
 have hlc:=h.row.hc
 have BA:Hid (Below w.heap.size w ((w.alloc (.cells #[.int .i64 f,.int .i64 t] 27)).alloc (.cells #[.int .i64 0,.int .i64 0,.slice none 0 0] 37))):=Lib.hid (by (repeat' (first | with_reducible (first | exact Below.refl _ _ | assumption | refine Below.drew ?_ | refine below_drewN ?_ _ | refine Below.alloc ?_ ?_ _ | refine Below.setCell ?_ ?_ _) | go_size)))
 have X0:=Lib.hid (al_keep (al_at w (.cells #[.int .i64 f,.int .i64 t] 27) rfl) (.cells #[.int .i64 0,.int .i64 0,.slice none 0 0] 37))
 have X1:=Lib.hid (al_at (w.alloc (.cells #[.int .i64 f,.int .i64 t] 27)) (.cells #[.int .i64 0,.int .i64 0,.slice none 0 0] 37) (k:=w.heap.size+1) (by simp))
 obtain ⟨w1,hw1⟩:∃ w1,w1 = (w.alloc (.cells #[.int .i64 f,.int .i64 t] 27)).alloc (.cells #[.int .i64 0,.int .i64 0,.slice none 0 0] 37):=⟨_,rfl⟩
 rw[←hw1] at BA X0 X1
 have HW1:=Lib.hid hw1
 clear hw1
 have C1:=Lib.hid (checked28 ro n c F L Q each w1 (h.below BA.out) hn)
 have HRI:=Lib.hid h
 have HZI:=Lib.hid hz
 have HAO:=Lib.hid hao
 have HPI:=Lib.hid hp
 clear h hz hao hp
 have x0:=cell_at X0.out 0
 have x1:=cell_at X0.out 1
 have y0:=cell_at X1.out 0
 have y1:=cell_at X1.out 1
 have y2:=cell_at X1.out 2
 have fr:=fun j=>free_at X1.out j
 have zx:=szs (block_lt X0.out)
 have zy:=szs (block_lt X1.out)
 by_cases h0:size < 1
 ·have t0:decide (size < 1) = true:=decide_eq_true h0
  go_enter Tryz.func12,Tryz.ntmps12
  go_simp
  ((repeat ((fail_if_success (rw[←HW1.out]));go_step));rw[←HW1.out])
  go_wp2_with fail
  show bodyPost _ _ _ Exit.ret _ _
  have KZ:=put3 X1.out (.int .i64 0) (.int .i64 0) (.slice none 0 0)
  have OZ:=BA.out.trans ((off3 w1 (w.heap.size+1) (.int .i64 0) (.int .i64 0) (.slice none 0 0)).toBelow BA.out.size (fun q hq h=>by have h:q = w.heap.size+1:=h;omega))
  generalize World.setCell (World.setCell (World.setCell w1 _ _) _ _) _ _ = w9 at *
  have k0:=cell_at KZ 0
  have k1:=cell_at KZ 1
  have k2:=cell_at KZ 2
  have zk:=szs (block_lt KZ)
  exact bodyPost_ret (v:=.tuple #[.agg #[.int .i64 0,.int .i64 0,.slice none 0 0],.int .i64 1]) (by simp [results,Tryz.results12,go_sem,k0,k1,k2]) rfl ⟨⟨_,_,_,_,rfl,⟨⟨fun e=>by omega,fun e=>by have:=e.sz;omega⟩,fun e=>by omega,fun _=>⟨rfl,rfl,rfl⟩⟩⟩,OZ⟩
 have t0:decide (size < 1) = false:=decide_eq_false h0
 by_cases h1:size > 8
 ·have t1:decide (size > 8) = true:=decide_eq_true h1
  have t1o:decide (8 < size) = true:=decide_eq_true h1
  go_enter Tryz.func12,Tryz.ntmps12
  go_simp
  ((repeat ((fail_if_success (rw[←HW1.out]));go_step));rw[←HW1.out])
  go_wp2_with fail
  show bodyPost _ _ _ Exit.ret _ _
  have KZ:=put3 X1.out (.int .i64 0) (.int .i64 0) (.slice none 0 0)
  have OZ:=BA.out.trans ((off3 w1 (w.heap.size+1) (.int .i64 0) (.int .i64 0) (.slice none 0 0)).toBelow BA.out.size (fun q hq h=>by have h:q = w.heap.size+1:=h;omega))
  generalize World.setCell (World.setCell (World.setCell w1 _ _) _ _) _ _ = w9 at *
  have k0:=cell_at KZ 0
  have k1:=cell_at KZ 1
  have k2:=cell_at KZ 2
  have zk:=szs (block_lt KZ)
  exact bodyPost_ret (v:=.tuple #[.agg #[.int .i64 0,.int .i64 0,.slice none 0 0],.int .i64 1]) (by simp [results,Tryz.results12,go_sem,k0,k1,k2]) rfl ⟨⟨_,_,_,_,rfl,⟨⟨fun e=>by omega,fun e=>by have:=e.sz;omega⟩,fun e=>by omega,fun _=>⟨rfl,rfl,rfl⟩⟩⟩,OZ⟩
 have t1:decide (size > 8) = false:=decide_eq_false h1
 have t1o:decide (8 < size) = false:=decide_eq_false h1
 by_cases h2:f < 0
 ·have t2:decide (f < 0) = true:=decide_eq_true h2
  go_enter Tryz.func12,Tryz.ntmps12
  go_simp
  ((repeat ((fail_if_success (rw[←HW1.out]));go_step));rw[←HW1.out])
  go_wp2_with fail
  show bodyPost _ _ _ Exit.ret _ _
  have KZ:=put3 X1.out (.int .i64 0) (.int .i64 0) (.slice none 0 0)
  have OZ:=BA.out.trans ((off3 w1 (w.heap.size+1) (.int .i64 0) (.int .i64 0) (.slice none 0 0)).toBelow BA.out.size (fun q hq h=>by have h:q = w.heap.size+1:=h;omega))
  generalize World.setCell (World.setCell (World.setCell w1 _ _) _ _) _ _ = w9 at *
  have k0:=cell_at KZ 0
  have k1:=cell_at KZ 1
  have k2:=cell_at KZ 2
  have zk:=szs (block_lt KZ)
  exact bodyPost_ret (v:=.tuple #[.agg #[.int .i64 0,.int .i64 0,.slice none 0 0],.int .i64 1]) (by simp [results,Tryz.results12,go_sem,k0,k1,k2]) rfl ⟨⟨_,_,_,_,rfl,⟨⟨fun e=>by omega,fun e=>by have:=e.when';omega⟩,fun e=>by omega,fun _=>⟨rfl,rfl,rfl⟩⟩⟩,OZ⟩
 have t2:decide (f < 0) = false:=decide_eq_false h2
 by_cases h3:f > t
 ·have t3:decide (f > t) = true:=decide_eq_true h3
  have t3o:decide (t < f) = true:=decide_eq_true h3
  go_enter Tryz.func12,Tryz.ntmps12
  go_simp
  ((repeat ((fail_if_success (rw[←HW1.out]));go_step));rw[←HW1.out])
  go_wp2_with fail
  show bodyPost _ _ _ Exit.ret _ _
  have KZ:=put3 X1.out (.int .i64 0) (.int .i64 0) (.slice none 0 0)
  have OZ:=BA.out.trans ((off3 w1 (w.heap.size+1) (.int .i64 0) (.int .i64 0) (.slice none 0 0)).toBelow BA.out.size (fun q hq h=>by have h:q = w.heap.size+1:=h;omega))
  generalize World.setCell (World.setCell (World.setCell w1 _ _) _ _) _ _ = w9 at *
  have k0:=cell_at KZ 0
  have k1:=cell_at KZ 1
  have k2:=cell_at KZ 2
  have zk:=szs (block_lt KZ)
  exact bodyPost_ret (v:=.tuple #[.agg #[.int .i64 0,.int .i64 0,.slice none 0 0],.int .i64 1]) (by simp [results,Tryz.results12,go_sem,k0,k1,k2]) rfl ⟨⟨_,_,_,_,rfl,⟨⟨fun e=>by omega,fun e=>by have:=e.when';omega⟩,fun e=>by omega,fun _=>⟨rfl,rfl,rfl⟩⟩⟩,OZ⟩
 have t3:decide (f > t) = false:=decide_eq_false h3
 have t3o:decide (t < f) = false:=decide_eq_false h3
 by_cases h4:t > 4294944000
 ·have t4:decide (t > 4294944000) = true:=decide_eq_true h4
  have t4o:decide (4294944000 < t) = true:=decide_eq_true h4
  go_enter Tryz.func12,Tryz.ntmps12
  go_simp
  ((repeat ((fail_if_success (rw[←HW1.out]));go_step));rw[←HW1.out])
  go_wp2_with fail
  show bodyPost _ _ _ Exit.ret _ _
  have KZ:=put3 X1.out (.int .i64 0) (.int .i64 0) (.slice none 0 0)
  have OZ:=BA.out.trans ((off3 w1 (w.heap.size+1) (.int .i64 0) (.int .i64 0) (.slice none 0 0)).toBelow BA.out.size (fun q hq h=>by have h:q = w.heap.size+1:=h;omega))
  generalize World.setCell (World.setCell (World.setCell w1 _ _) _ _) _ _ = w9 at *
  have k0:=cell_at KZ 0
  have k1:=cell_at KZ 1
  have k2:=cell_at KZ 2
  have zk:=szs (block_lt KZ)
  exact bodyPost_ret (v:=.tuple #[.agg #[.int .i64 0,.int .i64 0,.slice none 0 0],.int .i64 1]) (by simp [results,Tryz.results12,go_sem,k0,k1,k2]) rfl ⟨⟨_,_,_,_,rfl,⟨⟨fun e=>by omega,fun e=>by have:=e.when';omega⟩,fun e=>by omega,fun _=>⟨rfl,rfl,rfl⟩⟩⟩,OZ⟩
 have t4:decide (t > 4294944000) = false:=decide_eq_false h4
 have t4o:decide (4294944000 < t) = false:=decide_eq_false h4
 go_enter Tryz.func12,Tryz.ntmps12
 go_simp
 ((repeat ((fail_if_success (rw[←HW1.out]));go_step));rw[←HW1.out])
 go_wp2_with fail
 refine C1.out.mono ?_
 rintro e w2 ⟨⟨r,rfl,hr⟩,b2⟩
 have B2:=Lib.hid (BA.out.trans (b2.mono BA.out.size))
 have X2:=Lib.hid ((b2.block _ (block_lt X1.out)).trans X1.out)
 have X3:=Lib.hid ((b2.block _ (block_lt X0.out)).trans X0.out)
 clear b2 x0 x1 y0 y1 y2 fr zx zy X0 X1 C1 HW1 t0 t1 t1o t2 t3 t3o t4 t4o BA
 have y0:=cell_at X2.out 0
 have y1:=cell_at X2.out 1
 have y2:=cell_at X2.out 2
 have fr:=fun j=>free_at X2.out j
 have zy:=szs (block_lt X2.out)
 by_cases hr0:r = 0
 ·subst hr0
  have HOK:=Lib.hid (hr.1 rfl)
  clear hr
  obtain ⟨s,rfl⟩:∃ s:Nat,size = (s:Int):=⟨size.toNat,by omega⟩
  obtain ⟨p,hpp⟩:∃ p,p = s * s:=⟨_,rfl⟩
  have ess:(s:Int) * (s:Int) = (p:Int):=by rw[hpp,Int.natCast_mul]
  have hp64:p≤64:=by rw[hpp];exact Nat.mul_le_mul (show s≤8 by omega) (show s≤8 by omega)
  have hs1:1≤s:=by omega
  have HPP:=Lib.hid hpp
  clear hpp
  have hmk:=mkIn p (by omega) w2
  have B5:Hid (Below w2.heap.size w2 (w2.alloc (.cells (madeCells #[.int .i64 0] (p * 1)) 3))):=Lib.hid (by (repeat' (first | with_reducible (first | exact Below.refl _ _ | assumption | refine Below.drew ?_ | refine below_drewN ?_ _ | refine Below.alloc ?_ ?_ _ | refine Below.setCell ?_ ?_ _) | go_size)));have X5:=Lib.hid (al_at w2 (.cells (madeCells #[.int .i64 0] (p * 1)) 3) rfl);obtain ⟨w3,hw5⟩:∃ w3,w3 = w2.alloc (.cells (madeCells #[.int .i64 0] (p * 1)) 3):=⟨_,rfl⟩;rw[←hw5] at B5 X5;have HW5:=Lib.hid hw5;clear hw5;have z5:=szs (block_lt X5.out);skip
  obtain ⟨MC,hmc0⟩:∃ MC,MC = madeCells #[.int .i64 0] (p * 1):=⟨_,rfl⟩
  rw[←hmc0] at hmk
  have HW3:Hid (w3 = w2.alloc (.cells MC 3)):=Lib.hid (by rw[hmc0];exact HW5.out)
  obtain ⟨qc,hqc⟩:∃ qc,qc = w2.heap.size:=⟨_,rfl⟩
  have RC:Hid (Row w3 qc 3 1 (.slice (some ⟨qc,0,none⟩) p p) p (nuR (fun _=>0))):=Lib.hid (by
   have hx:=X5.out
   rw[←hqc] at hx
   exact Row.congr (Row.of_made rfl (by decide) hx (Nat.le_refl _) (by unfold maxLen;omega)) (fun j _=>rfl))
  have B6:Hid (Below w3.heap.size w3 (w3.alloc (.cells #[.int .i64 (s:Int),.int .i64 (s:Int),.slice (some ⟨qc,0,none⟩) p p] 37))):=Lib.hid (by (repeat' (first | with_reducible (first | exact Below.refl _ _ | assumption | refine Below.drew ?_ | refine below_drewN ?_ _ | refine Below.alloc ?_ ?_ _ | refine Below.setCell ?_ ?_ _) | go_size)));have X6:=Lib.hid (al_at w3 (.cells #[.int .i64 (s:Int),.int .i64 (s:Int),.slice (some ⟨qc,0,none⟩) p p] 37) rfl);obtain ⟨w4,hw6⟩:∃ w4,w4 = w3.alloc (.cells #[.int .i64 (s:Int),.int .i64 (s:Int),.slice (some ⟨qc,0,none⟩) p p] 37):=⟨_,rfl⟩;rw[←hw6] at B6 X6;have HW6:=Lib.hid hw6;clear hw6;have z6:=szs (block_lt X6.out);skip
  obtain ⟨qt,hqt⟩:∃ qt,qt = w3.heap.size:=⟨_,rfl⟩
  rw[←hqt] at X6
  have hq1:w.heap.size+1 < qc:=by rw[hqc];exact zy.1
  have hq2:qc < qt:=by rw[hqc,hqt];exact z5.1
  have B24:Hid (Below w2.heap.size w2 w4):=Lib.hid (B5.out.trans (B6.out.mono B5.out.size))
  have HQC:=Lib.hid hqc
  have HQT:=Lib.hid hqt
  have CN:=Lib.hid (counted29 ro n c F L Q each w4 (HRI.out.below (B2.out.trans (B24.out.mono B2.out.size))) HOK.out (fun a ha=>by have h1:=HAO.out a ha;have h2:=B2.out.size;have h3:=B24.out.size;omega))
  have RC4:=Lib.hid (Row.off (X:=fun _=>False) RC.out (Off.of_below B6.out) (fun _ _ h=>h))
  clear hmc0 hqc hqt
  go_wp2_with (rw[←HW3.out,←HQC.out])
  rw[←HW6.out,←HQT.out]
  refine CN.out.mono ?_
  rintro e w5 ⟨v,B,rfl,hrb,hcb,b5⟩
  have HCB:=Lib.hid hcb
  obtain ⟨bo,bc,rfl,hsl⟩:=Row.toSl hrb (fun _=>rfl)
  have B45:=Lib.hid b5
  have TM0:Hid (TbM w Z zn s p each f t n F B (.slice bo n bc) qt qc w.heap.size (w.heap.size+1) qc 0 true (fun _=>0) w5):=Lib.hid (by
   have b25:=B24.out.trans (b5.mono B24.out.size)
   exact
   {bel:=B2.out.trans (b25.mono B2.out.size)
    win:=(b25.block _ (block_lt X3.out)).trans X3.out
    res:=(b25.block _ (block_lt X2.out)).trans X2.out
    tab:=(b5.block _ (block_lt X6.out)).trans X6.out
    cel:=Row.off (X:=fun _=>False) RC4.out (Off.of_below b5) (fun _ _ h=>h)
    cnt:=Row.base_mono hrb (by have h3:=B6.out.size;have h4:=HQC.out;have h5:=z5.1;omega)
    bnd:=fun q hq=>⟨Int.le_refl _,Int.le_refl _⟩
    val:=fun _ q hq=>rfl
    yes:=fun _ i hi=>absurd hi (Nat.not_lt_zero _)
    no:=fun e=>by cases e })
  have hcq:Hid (¬ (Value.slice bo n bc).ownBlock = some qc):=Lib.hid (fun e=>by
   have:=(World.ownsRow.lt hrb qc e).1
   have h3:=B6.out.size
   have h4:=HQC.out
   have h5:=z5.1
   omega)
  have HQ0:Hid (w.heap.size < w5.heap.size∧w.heap.size < qc):=Lib.hid ⟨by have h3:=B6.out.size;have h4:=HQC.out;have h5:=z5.1;have h6:=B45.out.size;omega,by omega⟩
  clear hrb hcb b5 hsl B45 HQC HQT CN RC4 RC B5 B6 X5 X6 HW5 HW6 HW3 z5 z6 hmk X3 X2 y0 y1 y2 fr zy ess
  go_wp2_with fail
  go_loopw [14,63] (fun s14 s63 wr=>TbL w Z zn s p each f t n F B (.slice bo n bc) qt qc s14 s63 wr) (fun _ s _=>n - (intOf s).toNat)
  case atStart=>exact ⟨0,true,fun _=>0,rfl,rfl,Nat.zero_le _,TM0.out⟩
  case round =>
   obtain ⟨j,sm,T,rfl,rfl,hj,hrel⟩:=hrel
   have HM:=Lib.hid hrel
   clear hrel TM0
   by_cases hlt:j < n
   ·have d3:decide ((j:Int) < (n:Int)) = true:=decide_eq_true (by omega)
    have d3n:decide (j < n) = true:=decide_eq_true (by omega)
    obtain ⟨ao,ac,e9,hsl⟩:=Row.toSl HM.out.cnt (fun _=>rfl)
    simp only[Value.slice.injEq] at e9
    obtain ⟨rfl,_,rfl⟩:=e9
    obtain ⟨gb,ob,rfl,hbc⟩:=hsl.cell hlt
    obtain ⟨bj,hbj⟩:∃ bj,bj = B j:=⟨_,rfl⟩
    have b0:wr.cell? ⟨gb,ob+j,none⟩ = some (.bool bj):=by
     have:=hbc 0 (by decide)
     rw[Nat.mul_one,Nat.add_zero] at this
     rw[hbj];exact this
    have HBJ:Hid (bj = cntR (ents F n) each (F j)):=Lib.hid (hbj.trans (HCB.out j hlt))
    clear hsl hbc hbj
    have zb:=szs (cell_lt b0)
    obtain ⟨g,o,e9,hcell⟩:=(HRI.out.row.below HM.out.bel).cell hlt
    try dsimp only at e9 hcell
    subst e9
    have CE:=fun w' (b:Below wr.heap.size wr w')=>ends30 zo zn zc Z s (F j) w' ((HZI.out.below HM.out.bel).below b) (HPI.out j hlt)
    obtain ⟨y,hy⟩:∃ y,y = F j:=⟨_,rfl⟩
    rw[←hy] at hcell CE
    have HY:=Lib.hid hy
    clear hy
    obtain ⟨a1,a2,a3,a4,a5,a6,a7,a8,a9,a10,a11,a12,a13,a14,a15,a16,a17⟩:=y
    have e0:wr.cell? ⟨g,o+j * 13,none⟩ = some (.int .i64 a1):=hcell 0 (by decide)
    have e1:wr.cell? ⟨g,o+j * 13+1,none⟩ = some (.int .i64 a2):=hcell 1 (by decide)
    have e2:wr.cell? ⟨g,o+j * 13+2,none⟩ = some (.int .i64 a3):=hcell 2 (by decide)
    have e3:wr.cell? ⟨g,o+j * 13+3,none⟩ = some (.int .i64 a4):=hcell 3 (by decide)
    have e4:wr.cell? ⟨g,o+j * 13+4,none⟩ = some (.int .i64 a5):=hcell 4 (by decide)
    have e5:wr.cell? ⟨g,o+j * 13+5,none⟩ = some (.int .i64 a6):=hcell 5 (by decide)
    have e6:wr.cell? ⟨g,o+j * 13+6,none⟩ = some (.bool a7):=hcell 6 (by decide)
    have e7:wr.cell? ⟨g,o+j * 13+7,none⟩ = some (.slice a8 a9 a10):=hcell 7 (by decide)
    have e8:wr.cell? ⟨g,o+j * 13+8,none⟩ = some (.slice a11 a12 a13):=hcell 8 (by decide)
    have e9':wr.cell? ⟨g,o+j * 13+9,none⟩ = some (.int .i64 a14):=hcell 9 (by decide)
    have e10:wr.cell? ⟨g,o+j * 13+10,none⟩ = some (.int .i64 a15):=hcell 10 (by decide)
    have e11:wr.cell? ⟨g,o+j * 13+11,none⟩ = some (.int .i64 a16):=hcell 11 (by decide)
    have e12:wr.cell? ⟨g,o+j * 13+12,none⟩ = some (.int .i64 a17):=hcell 12 (by decide)
    have zg:=szs (cell_lt e0)
    have BN:Hid (Below wr.heap.size wr (wr.alloc (.cells #[.int .i64 a1,.int .i64 a2,.int .i64 a3,.int .i64 a4,.int .i64 a5,.int .i64 a6,.bool a7,.slice a8 a9 a10,.slice a11 a12 a13,.int .i64 a14,.int .i64 a15,.int .i64 a16,.int .i64 a17] 71))):=Lib.hid (by (repeat' (first | with_reducible (first | exact Below.refl _ _ | assumption | refine Below.drew ?_ | refine below_drewN ?_ _ | refine Below.alloc ?_ ?_ _ | refine Below.setCell ?_ ?_ _) | go_size)));have XN:=Lib.hid (al_at wr (.cells #[.int .i64 a1,.int .i64 a2,.int .i64 a3,.int .i64 a4,.int .i64 a5,.int .i64 a6,.bool a7,.slice a8 a9 a10,.slice a11 a12 a13,.int .i64 a14,.int .i64 a15,.int .i64 a16,.int .i64 a17] 71) rfl);obtain ⟨wn,hwN⟩:∃ wn,wn = wr.alloc (.cells #[.int .i64 a1,.int .i64 a2,.int .i64 a3,.int .i64 a4,.int .i64 a5,.int .i64 a6,.bool a7,.slice a8 a9 a10,.slice a11 a12 a13,.int .i64 a14,.int .i64 a15,.int .i64 a16,.int .i64 a17] 71):=⟨_,rfl⟩;rw[←hwN] at BN XN;have HWN:=Lib.hid hwN;clear hwN;have zN:=szs (block_lt XN.out);skip
    unfold rds at CE
    dsimp only at CE
    clear hcell
    have HIN:Hid (inTab (ents F n) each f t (F j) = (bj && (decide (f≤a3) && (decide (a3 < t) && (decide (a16 = 1) || decide (a16 = 2)))))):=Lib.hid (by unfold inTab;rw[←HBJ.out,←HY.out])
    replace HM:=Lib.hid (HM.out.below BN.out)
    replace CE:=Lib.hid CE
    go_simp
    ((repeat ((fail_if_success (rw[←HWN.out]));go_step));rw[←HWN.out])
    clear e0 e1 e2 e3 e4 e5 e6 e7 e8 e9' e10 e11 e12 zg HWN b0 zb
    have n2:=cell_at XN.out 2
    have n9:=cell_at XN.out 11
    have zn':=zN
    have w0:=cell_at HM.out.win 0
    have w1':=cell_at HM.out.win 1
    have zw:=szs (block_lt HM.out.win)
    cases bj
    ·skip
     have HSK:=Lib.hid (HM.out.skip (by rw[HIN.out];rfl))
     have HTL:=Lib.hid (show TbL w Z zn s p each f t n F B (.slice (some ⟨gb,ob,none⟩) n bc) qt qc (.bool sm) (.int .i64 ((j:Int)+1)) wn from ⟨j+1,sm,T,by go_num,rfl,by omega,HSK.out⟩)
     clear HM CE HIN HY HBJ HSK
     go_wp2_with fail
     go_roundw
     case rel=>(first | exact HTL.out | (repeat (first | exact rfl | refine And.intro (HTL.out) ?_ | apply Exists.intro)))
     case measure=>simp [intOf] <;> omega
    ·obtain ⟨z3,hz3⟩:∃ z3,z3 = zendE Z zn ⟨a1,a2,a3,a4,a5,a6,a7,a8,a9,a10,a11,a12,a13,a14,a15,a16,a17⟩:=⟨_,rfl⟩
     rw[←hz3] at CE
     rw[HY.out] at hz3
     have HZ:=Lib.hid hz3
     clear hz3
     obtain ⟨za,zb,zr⟩:=z3
     dsimp only at CE
     by_cases k1:a3 < f
     ·have d5:decide (a3 < f) = true:=decide_eq_true k1
      have HSK:=Lib.hid (HM.out.skip (by rw[HIN.out];simp [show ¬ f≤a3 by omega]))
      have HTL:=Lib.hid (show TbL w Z zn s p each f t n F B (.slice (some ⟨gb,ob,none⟩) n bc) qt qc (.bool sm) (.int .i64 ((j:Int)+1)) wn from ⟨j+1,sm,T,by go_num,rfl,by omega,HSK.out⟩)
      clear HM CE HIN HY HBJ HSK
      go_wp2_with fail
      go_roundw
      case rel=>(first | exact HTL.out | (repeat (first | exact rfl | refine And.intro (HTL.out) ?_ | apply Exists.intro)))
      case measure=>simp [intOf] <;> omega
     have d5:decide (a3 < f) = false:=decide_eq_false k1
     by_cases k2:a3≥t
     ·have d6:decide (a3≥t) = true:=decide_eq_true k2
      have d6o:decide (t≤a3) = true:=decide_eq_true k2
      have HSK:=Lib.hid (HM.out.skip (by rw[HIN.out];simp [show ¬ a3 < t by omega]))
      have HTL:=Lib.hid (show TbL w Z zn s p each f t n F B (.slice (some ⟨gb,ob,none⟩) n bc) qt qc (.bool sm) (.int .i64 ((j:Int)+1)) wn from ⟨j+1,sm,T,by go_num,rfl,by omega,HSK.out⟩)
      clear HM CE HIN HY HBJ HSK
      go_wp2_with fail
      go_roundw
      case rel=>(first | exact HTL.out | (repeat (first | exact rfl | refine And.intro (HTL.out) ?_ | apply Exists.intro)))
      case measure=>simp [intOf] <;> omega
     have d6:decide (a3≥t) = false:=decide_eq_false k2
     have d6o:decide (t≤a3) = false:=decide_eq_false k2
     by_cases k3:a16 = 1
     ·have d7:(a16 != 1) = false:=by simp [k3]
      have HK3:=Lib.hid k3
      clear k3
      have HIT:=Lib.hid (show inTab (ents F n) each f t (F j) = true by rw[HIN.out];simp [show f≤a3 by omega,show a3 < t by omega,HK3.out])
      clear HIN
      have m0:=cell_at XN.out 0
      have m1:=cell_at XN.out 1
      have m3:=cell_at XN.out 3
      have m4:=cell_at XN.out 4
      have m5:=cell_at XN.out 5
      have m6:=cell_at XN.out 6
      have m7:=cell_at XN.out 7
      have m8:=cell_at XN.out 8
      have m9:=cell_at XN.out 9
      have m10:=cell_at XN.out 10
      have m12:=cell_at XN.out 12
      go_wp2_with fail
      refine (CE.out wn BN.out).mono ?_
      rintro e w6 ⟨rfl,b6⟩
      have M6:=Lib.hid (HM.out.below b6)
      clear b6 CE HM n2 n9 zn' w0 w1' zw XN zN BN m0 m1 m3 m4 m5 m6 m7 m8 m9 m10 m12
      by_cases hz0:zr = 0
      case neg =>
       have dz:(zr != 0) = true:=by simp [hz0]
       have HZ0:=Lib.hid hz0
       clear hz0
       have y0:=cell_at M6.out.res 0
       have y1:=cell_at M6.out.res 1
       have y2:=cell_at M6.out.res 2
       have fr:=fun j=>free_at M6.out.res j
       have zy:=szs (block_lt M6.out.res)
       go_wp2_with fail
       have MB:=Lib.hid M6.out.bel
       have MR:=Lib.hid M6.out.res
       show bodyPost _ _ _ Exit.ret _ _
       have KZ:=put3 MR.out (.int .i64 0) (.int .i64 0) (.slice none 0 0)
       have OZ:=MB.out.trans ((off3 w6 (w.heap.size+1) (.int .i64 0) (.int .i64 0) (.slice none 0 0)).toBelow MB.out.size (fun q hq h=>by have h:q = w.heap.size+1:=h;omega))
       generalize World.setCell (World.setCell (World.setCell w6 _ _) _ _) _ _ = w9 at *
       have k0:=cell_at KZ 0
       have k1:=cell_at KZ 1
       have k2:=cell_at KZ 2
       have zk:=szs (block_lt KZ)
       exact bodyPost_ret (v:=.tuple #[.agg #[.int .i64 0,.int .i64 0,.slice none 0 0],.int .i64 zr]) (by simp [results,Tryz.results12,go_sem,k0,k1,k2]) rfl ⟨⟨_,_,_,_,rfl,⟨⟨fun e=>absurd e HZ0.out,fun e=>absurd (by have h1:=(e.zones j hlt HIT.out).1;rw[←HZ.out] at h1;exact h1) HZ0.out⟩,fun e=>absurd e HZ0.out,fun _=>⟨rfl,rfl,rfl⟩⟩⟩,OZ⟩
      subst hz0
      have hzi:=zend_in (x:=F j) (Z:=Z) (zn:=zn) (by rw[←HZ.out])
      rw[←HZ.out] at hzi
      dsimp only at hzi
      by_cases ha:za≥(s:Int)
      ·have da:decide (za≥(s:Int)) = true:=decide_eq_true ha
       have dao:decide ((s:Int)≤za) = true:=decide_eq_true ha
       have HN:=Lib.hid (M6.out.far HIT.out (fun e=>by have h1:=e.2.1;rw[←HZ.out] at h1;dsimp only at h1;omega))
       have HTL:=Lib.hid (show TbL w Z zn s p each f t n F B (.slice (some ⟨gb,ob,none⟩) n bc) qt qc (.bool false) (.int .i64 ((j:Int)+1)) w6 from ⟨j+1,false,T,by go_num,rfl,by omega,HN.out⟩)
       clear M6 HN
       go_wp2_with fail
       go_roundw
       case rel=>(first | exact HTL.out | (repeat (first | exact rfl | refine And.intro (HTL.out) ?_ | apply Exists.intro)))
       case measure=>simp [intOf] <;> omega
      ·have da:decide (za≥(s:Int)) = false:=decide_eq_false ha
       have dao:decide ((s:Int)≤za) = false:=decide_eq_false ha
       by_cases hb:zb≥(s:Int)
       ·have db:decide (zb≥(s:Int)) = true:=decide_eq_true hb
        have dbo:decide ((s:Int)≤zb) = true:=decide_eq_true hb
        have HN:=Lib.hid (M6.out.far HIT.out (fun e=>by have h1:=e.2.2;rw[←HZ.out] at h1;dsimp only at h1;omega))
        have HTL:=Lib.hid (show TbL w Z zn s p each f t n F B (.slice (some ⟨gb,ob,none⟩) n bc) qt qc (.bool false) (.int .i64 ((j:Int)+1)) w6 from ⟨j+1,false,T,by go_num,rfl,by omega,HN.out⟩)
        clear M6 HN
        go_wp2_with fail
        go_roundw
        case rel=>(first | exact HTL.out | (repeat (first | exact rfl | refine And.intro (HTL.out) ?_ | apply Exists.intro)))
        case measure=>simp [intOf] <;> omega
       ·have db:decide (zb≥(s:Int)) = false:=decide_eq_false hb
        have dbo:decide ((s:Int)≤zb) = false:=decide_eq_false hb
        obtain ⟨k,hk⟩:∃ k:Nat,za * (s:Int)+zb = (k:Int):=⟨(za * (s:Int)+zb).toNat,by have:=Int.mul_nonneg hzi.1.1 (show 0≤(s:Int) by omega);omega⟩
        have hkp:k < p:=by
         have h1:za * (s:Int)+zb < (p:Int):=by
          rw[HPP.out,Int.natCast_mul]
          have h2:za * (s:Int)≤((s:Int) - 1) * (s:Int):=Int.mul_le_mul_of_nonneg_right (by omega) (by omega)
          rw[Int.sub_mul] at h2
          omega
         omega
        have hm0:0≤za * (s:Int):=Int.mul_nonneg hzi.1.1 (by omega)
        obtain ⟨zs,hzs⟩:∃ zs,zs = za * (s:Int):=⟨_,rfl⟩
        rw[←hzs] at hk hm0
        have e1:wrap64 (za * (s:Int)) = zs:=by rw[←hzs];unfold wrap64;omega
        have e2:wrap64 (zs+zb) = (k:Int):=by rw[hk];unfold wrap64;omega
        have e3:za * (s:Int) = zs:=hzs.symm
        have e4:zs+zb = (k:Int):=hk
        have HKC:=Lib.hid (show cellOf Z zn s (F j) = (k:Int) by unfold cellOf;rw[←HZ.out];dsimp only;rw[←hzs];exact hk)
        have hkI:(k:Int) < (p:Int):=by omega
        have hzok:=Lib.hid (show zOk Z zn s (F j) from ⟨by rw[←HZ.out],by rw[←HZ.out];dsimp only;omega,by rw[←HZ.out];dsimp only;omega⟩)
        clear hzs hk
        have v2:=cell_at M6.out.tab 2
        have zv:=szs (block_lt M6.out.tab)
        have fc:=fun i=>Row.free M6.out.cel i
        have c0:w6.cell? ⟨qc,k * 1+0,none⟩ = some (.int .i64 (T k)):=Row.cell M6.out.cel (fun i=>rfl) hkp (j:=0) (by decide)
        rw[Nat.mul_one,Nat.add_zero] at c0
        have zc:=szs (World.ownsRow.lt M6.out.cel qc rfl).2
        have hTb:=M6.out.bnd k hkp
        have O9:Off (fun q=>q = qc) w6 (w6.setCell ⟨qc,k,none⟩ (.int .i64 (T k+1))):=off_set
        have R9:Row (w6.setCell ⟨qc,k,none⟩ (.int .i64 (T k+1))) qc 3 1 (.slice (some ⟨qc,0,none⟩) p p) p (nuR (upd T k (T k+1))):=by
         have h1:=Row.store M6.out.cel (fun i=>rfl) hkp (j:=0) (by decide) (.int .i64 (T k+1))
         rw[Nat.mul_one,Nat.add_zero] at h1
         refine Row.congr h1 (fun l _=>?_)
         show _ = [Value.int .i64 (upd T k (T k+1) l)]
         by_cases e:l = k
         ·subst e;rw[upd_same,upd_same];rfl
         ·rw[upd_ne e,upd_ne e];rfl
        have HN:=Lib.hid (M6.out.hit HIT.out hzok.out HKC.out hkp O9 R9 ⟨by omega,by omega,by omega⟩ hcq.out (by have:=HQ0.out.2;omega))
        have HTL:=Lib.hid (show TbL w Z zn s p each f t n F B (.slice (some ⟨gb,ob,none⟩) n bc) qt qc (.bool sm) (.int .i64 ((j:Int)+1)) (w6.setCell ⟨qc,k,none⟩ (.int .i64 (T k+1))) from ⟨j+1,sm,upd T k (T k+1),by go_num,rfl,by omega,HN.out⟩)
        clear M6 HN O9 R9 HKC hzok
        go_wp2_with fail
        go_roundw
        case rel=>(first | exact HTL.out | (repeat (first | exact rfl | refine And.intro (HTL.out) ?_ | apply Exists.intro)))
        case measure=>simp [intOf] <;> omega
     have d7:(a16 != 1) = true:=by simp [k3]
     by_cases k4:a16 = 2
     ·have d8:(a16 != 2) = false:=by simp [k4]
      have HK4:=Lib.hid k4
      clear k4 k3
      have HIT:=Lib.hid (show inTab (ents F n) each f t (F j) = true by rw[HIN.out];simp [show f≤a3 by omega,show a3 < t by omega,HK4.out])
      clear HIN
      have m0:=cell_at XN.out 0
      have m1:=cell_at XN.out 1
      have m3:=cell_at XN.out 3
      have m4:=cell_at XN.out 4
      have m5:=cell_at XN.out 5
      have m6:=cell_at XN.out 6
      have m7:=cell_at XN.out 7
      have m8:=cell_at XN.out 8
      have m9:=cell_at XN.out 9
      have m10:=cell_at XN.out 10
      have m12:=cell_at XN.out 12
      go_wp2_with fail
      refine (CE.out wn BN.out).mono ?_
      rintro e w6 ⟨rfl,b6⟩
      have M6:=Lib.hid (HM.out.below b6)
      clear b6 CE HM n2 n9 zn' w0 w1' zw XN zN BN m0 m1 m3 m4 m5 m6 m7 m8 m9 m10 m12
      by_cases hz0:zr = 0
      case neg =>
       have dz:(zr != 0) = true:=by simp [hz0]
       have HZ0:=Lib.hid hz0
       clear hz0
       have y0:=cell_at M6.out.res 0
       have y1:=cell_at M6.out.res 1
       have y2:=cell_at M6.out.res 2
       have fr:=fun j=>free_at M6.out.res j
       have zy:=szs (block_lt M6.out.res)
       go_wp2_with fail
       have MB:=Lib.hid M6.out.bel
       have MR:=Lib.hid M6.out.res
       show bodyPost _ _ _ Exit.ret _ _
       have KZ:=put3 MR.out (.int .i64 0) (.int .i64 0) (.slice none 0 0)
       have OZ:=MB.out.trans ((off3 w6 (w.heap.size+1) (.int .i64 0) (.int .i64 0) (.slice none 0 0)).toBelow MB.out.size (fun q hq h=>by have h:q = w.heap.size+1:=h;omega))
       generalize World.setCell (World.setCell (World.setCell w6 _ _) _ _) _ _ = w9 at *
       have k0:=cell_at KZ 0
       have k1:=cell_at KZ 1
       have k2:=cell_at KZ 2
       have zk:=szs (block_lt KZ)
       exact bodyPost_ret (v:=.tuple #[.agg #[.int .i64 0,.int .i64 0,.slice none 0 0],.int .i64 zr]) (by simp [results,Tryz.results12,go_sem,k0,k1,k2]) rfl ⟨⟨_,_,_,_,rfl,⟨⟨fun e=>absurd e HZ0.out,fun e=>absurd (by have h1:=(e.zones j hlt HIT.out).1;rw[←HZ.out] at h1;exact h1) HZ0.out⟩,fun e=>absurd e HZ0.out,fun _=>⟨rfl,rfl,rfl⟩⟩⟩,OZ⟩
      subst hz0
      have hzi:=zend_in (x:=F j) (Z:=Z) (zn:=zn) (by rw[←HZ.out])
      rw[←HZ.out] at hzi
      dsimp only at hzi
      by_cases ha:za≥(s:Int)
      ·have da:decide (za≥(s:Int)) = true:=decide_eq_true ha
       have dao:decide ((s:Int)≤za) = true:=decide_eq_true ha
       have HN:=Lib.hid (M6.out.far HIT.out (fun e=>by have h1:=e.2.1;rw[←HZ.out] at h1;dsimp only at h1;omega))
       have HTL:=Lib.hid (show TbL w Z zn s p each f t n F B (.slice (some ⟨gb,ob,none⟩) n bc) qt qc (.bool false) (.int .i64 ((j:Int)+1)) w6 from ⟨j+1,false,T,by go_num,rfl,by omega,HN.out⟩)
       clear M6 HN
       go_wp2_with fail
       go_roundw
       case rel=>(first | exact HTL.out | (repeat (first | exact rfl | refine And.intro (HTL.out) ?_ | apply Exists.intro)))
       case measure=>simp [intOf] <;> omega
      ·have da:decide (za≥(s:Int)) = false:=decide_eq_false ha
       have dao:decide ((s:Int)≤za) = false:=decide_eq_false ha
       by_cases hb:zb≥(s:Int)
       ·have db:decide (zb≥(s:Int)) = true:=decide_eq_true hb
        have dbo:decide ((s:Int)≤zb) = true:=decide_eq_true hb
        have HN:=Lib.hid (M6.out.far HIT.out (fun e=>by have h1:=e.2.2;rw[←HZ.out] at h1;dsimp only at h1;omega))
        have HTL:=Lib.hid (show TbL w Z zn s p each f t n F B (.slice (some ⟨gb,ob,none⟩) n bc) qt qc (.bool false) (.int .i64 ((j:Int)+1)) w6 from ⟨j+1,false,T,by go_num,rfl,by omega,HN.out⟩)
        clear M6 HN
        go_wp2_with fail
        go_roundw
        case rel=>(first | exact HTL.out | (repeat (first | exact rfl | refine And.intro (HTL.out) ?_ | apply Exists.intro)))
        case measure=>simp [intOf] <;> omega
       ·have db:decide (zb≥(s:Int)) = false:=decide_eq_false hb
        have dbo:decide ((s:Int)≤zb) = false:=decide_eq_false hb
        obtain ⟨k,hk⟩:∃ k:Nat,za * (s:Int)+zb = (k:Int):=⟨(za * (s:Int)+zb).toNat,by have:=Int.mul_nonneg hzi.1.1 (show 0≤(s:Int) by omega);omega⟩
        have hkp:k < p:=by
         have h1:za * (s:Int)+zb < (p:Int):=by
          rw[HPP.out,Int.natCast_mul]
          have h2:za * (s:Int)≤((s:Int) - 1) * (s:Int):=Int.mul_le_mul_of_nonneg_right (by omega) (by omega)
          rw[Int.sub_mul] at h2
          omega
         omega
        have hm0:0≤za * (s:Int):=Int.mul_nonneg hzi.1.1 (by omega)
        obtain ⟨zs,hzs⟩:∃ zs,zs = za * (s:Int):=⟨_,rfl⟩
        rw[←hzs] at hk hm0
        have e1:wrap64 (za * (s:Int)) = zs:=by rw[←hzs];unfold wrap64;omega
        have e2:wrap64 (zs+zb) = (k:Int):=by rw[hk];unfold wrap64;omega
        have e3:za * (s:Int) = zs:=hzs.symm
        have e4:zs+zb = (k:Int):=hk
        have HKC:=Lib.hid (show cellOf Z zn s (F j) = (k:Int) by unfold cellOf;rw[←HZ.out];dsimp only;rw[←hzs];exact hk)
        have hkI:(k:Int) < (p:Int):=by omega
        have hzok:=Lib.hid (show zOk Z zn s (F j) from ⟨by rw[←HZ.out],by rw[←HZ.out];dsimp only;omega,by rw[←HZ.out];dsimp only;omega⟩)
        clear hzs hk
        have v2:=cell_at M6.out.tab 2
        have zv:=szs (block_lt M6.out.tab)
        have fc:=fun i=>Row.free M6.out.cel i
        have c0:w6.cell? ⟨qc,k * 1+0,none⟩ = some (.int .i64 (T k)):=Row.cell M6.out.cel (fun i=>rfl) hkp (j:=0) (by decide)
        rw[Nat.mul_one,Nat.add_zero] at c0
        have zc:=szs (World.ownsRow.lt M6.out.cel qc rfl).2
        have hTb:=M6.out.bnd k hkp
        have O9:Off (fun q=>q = qc) w6 (w6.setCell ⟨qc,k,none⟩ (.int .i64 (T k+1))):=off_set
        have R9:Row (w6.setCell ⟨qc,k,none⟩ (.int .i64 (T k+1))) qc 3 1 (.slice (some ⟨qc,0,none⟩) p p) p (nuR (upd T k (T k+1))):=by
         have h1:=Row.store M6.out.cel (fun i=>rfl) hkp (j:=0) (by decide) (.int .i64 (T k+1))
         rw[Nat.mul_one,Nat.add_zero] at h1
         refine Row.congr h1 (fun l _=>?_)
         show _ = [Value.int .i64 (upd T k (T k+1) l)]
         by_cases e:l = k
         ·subst e;rw[upd_same,upd_same];rfl
         ·rw[upd_ne e,upd_ne e];rfl
        have HN:=Lib.hid (M6.out.hit HIT.out hzok.out HKC.out hkp O9 R9 ⟨by omega,by omega,by omega⟩ hcq.out (by have:=HQ0.out.2;omega))
        have HTL:=Lib.hid (show TbL w Z zn s p each f t n F B (.slice (some ⟨gb,ob,none⟩) n bc) qt qc (.bool sm) (.int .i64 ((j:Int)+1)) (w6.setCell ⟨qc,k,none⟩ (.int .i64 (T k+1))) from ⟨j+1,sm,upd T k (T k+1),by go_num,rfl,by omega,HN.out⟩)
        clear M6 HN O9 R9 HKC hzok
        go_wp2_with fail
        go_roundw
        case rel=>(first | exact HTL.out | (repeat (first | exact rfl | refine And.intro (HTL.out) ?_ | apply Exists.intro)))
        case measure=>simp [intOf] <;> omega
     have d8:(a16 != 2) = true:=by simp [k4]
     have HSK:=Lib.hid (HM.out.skip (by rw[HIN.out];simp [k3,k4]))
     have HTL:=Lib.hid (show TbL w Z zn s p each f t n F B (.slice (some ⟨gb,ob,none⟩) n bc) qt qc (.bool sm) (.int .i64 ((j:Int)+1)) wn from ⟨j+1,sm,T,by go_num,rfl,by omega,HSK.out⟩)
     clear HM CE HIN HY HBJ HSK
     go_wp2_with fail
     go_roundw
     case rel=>(first | exact HTL.out | (repeat (first | exact rfl | refine And.intro (HTL.out) ?_ | apply Exists.intro)))
     case measure=>simp [intOf] <;> omega
   ·have d3:decide ((j:Int) < (n:Int)) = false:=decide_eq_false (by omega)
    have d3n:decide (j < n) = false:=decide_eq_false (by omega)
    obtain rfl:j = n:=by omega
    have y0:=cell_at HM.out.res 0
    have y1:=cell_at HM.out.res 1
    have y2:=cell_at HM.out.res 2
    have fr:=fun j=>free_at HM.out.res j
    have zy:=szs (block_lt HM.out.res)
    have v0:=cell_at HM.out.tab 0
    have v1:=cell_at HM.out.tab 1
    have v2:=cell_at HM.out.tab 2
    have zv:=szs (block_lt HM.out.tab)
    have MB:=Lib.hid HM.out.bel
    have MR:=Lib.hid HM.out.res
    cases sm
    ·go_wp2_with fail
     show bodyPost _ _ _ Exit.ret _ _
     have KZ:=put3 MR.out (.int .i64 0) (.int .i64 0) (.slice none 0 0)
     have OZ:=MB.out.trans ((off3 wr (w.heap.size+1) (.int .i64 0) (.int .i64 0) (.slice none 0 0)).toBelow MB.out.size (fun q hq h=>by have h:q = w.heap.size+1:=h;omega))
     generalize World.setCell (World.setCell (World.setCell wr _ _) _ _) _ _ = w9 at *
     have k0:=cell_at KZ 0
     have k1:=cell_at KZ 1
     have k2:=cell_at KZ 2
     have zk:=szs (block_lt KZ)
     exact bodyPost_ret (v:=.tuple #[.agg #[.int .i64 0,.int .i64 0,.slice none 0 0],.int .i64 7]) (by simp [results,Tryz.results12,go_sem,k0,k1,k2]) rfl ⟨⟨_,_,_,_,rfl,⟨⟨fun e=>by omega,fun e=>by obtain ⟨i,hi,hx,hz⟩:=HM.out.no rfl;exact absurd (e.zones i hi hx) hz⟩,fun e=>by omega,fun _=>⟨rfl,rfl,rfl⟩⟩⟩,OZ⟩
    ·have HZS:=Lib.hid (HM.out.yes rfl)
     have RC9:=Lib.hid (Row.congr HM.out.cel (fun q hq=>by show nuR T q = nuR (fun q=>(cellN Z zn s each f t F j j q:Int)) q;unfold nuR;rw[HM.out.val rfl q hq]))
     clear HM
     go_wp2_with fail
     show bodyPost _ _ _ Exit.ret _ _
     have KZ:=put3 MR.out (.int .i64 (s:Int)) (.int .i64 (s:Int)) (.slice (some ⟨qc,0,none⟩) p p)
     have O9:=off3 wr (w.heap.size+1) (.int .i64 (s:Int)) (.int .i64 (s:Int)) (.slice (some ⟨qc,0,none⟩) p p)
     have OZ:=MB.out.trans (O9.toBelow MB.out.size (fun q hq h=>by have h:q = w.heap.size+1:=h;omega))
     have RZ:=Row.off RC9.out O9 (fun q hq e=>by have e:q = w.heap.size+1:=e;have h1:qc = q:=(by simpa [Value.ownBlock] using hq);omega)
     clear y0 y1 y2 fr zy v0 v1 v2 zv O9 RC9
     generalize World.setCell (World.setCell (World.setCell wr _ _) _ _) _ _ = w9 at *
     have k0:=cell_at KZ 0
     have k1:=cell_at KZ 1
     have k2:=cell_at KZ 2
     have zk:=szs (block_lt KZ)
     refine bodyPost_ret (v:=.tuple #[.agg #[.int .i64 (s:Int),.int .i64 (s:Int),.slice (some ⟨qc,0,none⟩) p p],.int .i64 0]) (by simp [results,Tryz.results12,go_sem,k0,k1,k2]) rfl ⟨⟨_,_,_,_,rfl,⟨fun _=>⟨by omega,by omega,HOK.out,HZS.out⟩,fun _=>rfl⟩,fun _=>⟨rfl,rfl,?_⟩,fun e=>absurd rfl e⟩,OZ⟩
     rw[Int.toNat_natCast,←HPP.out]
     exact Row.base_mono RZ (by omega)
 ·have t0:(r != 0) = true:=by simp [hr0]
  have HR:=Lib.hid hr
  have HR0:=Lib.hid hr0
  clear hr hr0
  go_wp2_with fail
  show bodyPost _ _ _ Exit.ret _ _
  have KZ:=put3 X2.out (.int .i64 0) (.int .i64 0) (.slice none 0 0)
  have OZ:=B2.out.trans ((off3 w2 (w.heap.size+1) (.int .i64 0) (.int .i64 0) (.slice none 0 0)).toBelow B2.out.size (fun q hq h=>by have h:q = w.heap.size+1:=h;omega))
  generalize World.setCell (World.setCell (World.setCell w2 _ _) _ _) _ _ = w9 at *
  have k0:=cell_at KZ 0
  have k1:=cell_at KZ 1
  have k2:=cell_at KZ 2
  have zk:=szs (block_lt KZ)
  exact bodyPost_ret (v:=.tuple #[.agg #[.int .i64 0,.int .i64 0,.slice none 0 0],.int .i64 r]) (by simp [results,Tryz.results12,go_sem,k0,k1,k2]) rfl ⟨⟨_,_,_,_,rfl,⟨⟨fun e=>absurd e HR0.out,fun e=>HR.out.2 e.rides⟩,fun e=>absurd e HR0.out,fun _=>⟨rfl,rfl,rfl⟩⟩⟩,OZ⟩
end Go.Proofs.YtdpoppilnokniaaGreatDoor
