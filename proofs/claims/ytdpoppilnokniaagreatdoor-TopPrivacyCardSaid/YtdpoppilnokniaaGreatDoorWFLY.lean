/- Theorems of this seat. -/
import Derived.Test.YtdpoppilnokniaaGreatDoorWSTB
import Derived.Test.YtdpoppilnokniaaGreatDoorWKB
import Derived.Test.YtdpoppilnokniaaGreatDoorWFLX
import Derived.BigQuiet
import Derived.WalkLawsBesides
import Derived.BigRegion
namespace Go.Proofs.YtdpoppilnokniaaGreatDoor
open Go.RowKit Go.ChangeShapes Go.WideShapes Go.Deep
set_option linter.unusedVariables false
theorem put1 {w:World}{r:Nat}{a0:Value}{T:TypeId}(h:w.heap[r]? = some (.cells #[a0] T (0,0))) (v0:Value):(w.setCell ⟨r,0,none⟩ v0).heap[r]? = some (.cells #[v0] T (0,0)):=by
 have hl:=block_lt h
 rw[setCell_at h,setAt_same hl]
 rfl
theorem off1 (w:World) (r:Nat) (v0:Value):Off (fun q=>q = r) w (w.setCell ⟨r,0,none⟩ v0):=(Off.refl (fun q=>q = r) w).setCell (p:=⟨r,0,none⟩) (fun _=>rfl) _
theorem put3 {w:World}{r:Nat}{a0 a1 a2:Value}{T:TypeId}(h:w.heap[r]? = some (.cells #[a0,a1,a2] T (0,0))) (v0 v1 v2:Value):(((w.setCell ⟨r,0,none⟩ v0).setCell ⟨r,1,none⟩ v1).setCell ⟨r,2,none⟩ v2).heap[r]? = some (.cells #[v0,v1,v2] T (0,0)):=by
 have hl:=block_lt h
 rw[setCell_at h,setAt_setCell hl,setAt_setCell hl,setAt_same hl]
 rfl
theorem off3 (w:World) (r:Nat) (v0 v1 v2:Value):Off (fun q=>q = r) w (((w.setCell ⟨r,0,none⟩ v0).setCell ⟨r,1,none⟩ v1).setCell ⟨r,2,none⟩ v2) :=
 ((((Off.refl (fun q=>q = r) w).setCell (p:=⟨r,0,none⟩) (fun _=>rfl) _).setCell (p:=⟨r,1,none⟩) (fun _=>rfl) _).setCell (p:=⟨r,2,none⟩) (fun _=>rfl) _)
def st10 (w:World) (r:Nat) (v0 v1 v2 v3 v4 v5 v6 v7 v8 v9:Value):World:=(((((((((w.setCell ⟨r,0,none⟩ v0).setCell ⟨r,1,none⟩ v1).setCell ⟨r,2,none⟩ v2).setCell ⟨r,3,none⟩ v3).setCell ⟨r,4,none⟩ v4).setCell ⟨r,5,none⟩ v5).setCell ⟨r,6,none⟩ v6).setCell ⟨r,7,none⟩ v7).setCell ⟨r,8,none⟩ v8).setCell ⟨r,9,none⟩ v9
theorem put10 {w:World}{r:Nat}{a0 a1 a2 a3 a4 a5 a6 a7 a8 a9:Value}{T:TypeId}(h:w.heap[r]? = some (.cells #[a0,a1,a2,a3,a4,a5,a6,a7,a8,a9] T (0,0))) (v0 v1 v2 v3 v4 v5 v6 v7 v8 v9:Value):(st10 w r v0 v1 v2 v3 v4 v5 v6 v7 v8 v9).heap[r]? = some (.cells #[v0,v1,v2,v3,v4,v5,v6,v7,v8,v9] T (0,0)):=by
 have hl:=block_lt h
 unfold st10
 rw[setCell_at h,setAt_setCell hl,setAt_setCell hl,setAt_setCell hl,setAt_setCell hl,setAt_setCell hl,setAt_setCell hl,setAt_setCell hl,setAt_setCell hl,setAt_setCell hl,setAt_same hl]
 simp
theorem off10 (w:World) (r:Nat) (v0 v1 v2 v3 v4 v5 v6 v7 v8 v9:Value):Off (fun q=>q = r) w (st10 w r v0 v1 v2 v3 v4 v5 v6 v7 v8 v9) :=
 (((((((((((Off.refl (fun q=>q = r) w).setCell (p:=⟨r,0,none⟩) (fun _=>rfl) _).setCell (p:=⟨r,1,none⟩) (fun _=>rfl) _).setCell (p:=⟨r,2,none⟩) (fun _=>rfl) _).setCell (p:=⟨r,3,none⟩) (fun _=>rfl) _).setCell (p:=⟨r,4,none⟩) (fun _=>rfl) _).setCell (p:=⟨r,5,none⟩) (fun _=>rfl) _).setCell (p:=⟨r,6,none⟩) (fun _=>rfl) _).setCell (p:=⟨r,7,none⟩) (fun _=>rfl) _).setCell (p:=⟨r,8,none⟩) (fun _=>rfl) _).setCell (p:=⟨r,9,none⟩) (fun _=>rfl) _)
end Go.Proofs.YtdpoppilnokniaaGreatDoor
namespace Go.Proofs.YtdpoppilnokniaaGreatDoor
open Go.RowKit Go.ChangeShapes Go.WideShapes Go.Deep
set_option linter.unusedVariables false
set_option linter.unusedSimpArgs false
set_option linter.unnecessarySimpa false
def arR (A:Nat→Arc):Nat→List Value:=fun i=>[.int .i64 (A i).f,.int .i64 (A i).t,.int .i64 (A i).c,.int .i64 0]
structure NetOk (N m:Nat) (A:Nat→Arc):Prop where
 nodes:1≤N∧N≤64
 few:m≤512
 fr:∀ j,j < m→0≤(A j).f∧(A j).f < (N:Int)
 to:∀ j,j < m→0≤(A j).t∧(A j).t < (N:Int)
 cap:∀ j,j < m→0≤(A j).c∧(A j).c≤65536
set_option maxHeartbeats 4000000 in
theorem node124 (N:Nat) (v:Value) (k:Int) (w:World) (hk:0≤k∧k < (N:Int)) (hN:N≤64) :
  Calls Tryz.prog 124 #[.agg #[.int .i64 N,v],.int .i64 k] w fun e w'=>e = .returned (.bool true)∧Below w.heap.size w w':=by
 have B0:Hid (Below w.heap.size w (w.alloc (.cells #[.int .i64 N,v] 166))):=Lib.hid (by (repeat' (first | with_reducible (first | exact Below.refl _ _ | assumption | refine Below.drew ?_ | refine below_drewN ?_ _ | refine Below.alloc ?_ ?_ _ | refine Below.setCell ?_ ?_ _) | go_size)));have X0:=Lib.hid (al_at w (.cells #[.int .i64 N,v] 166) rfl);obtain ⟨w1,hw0⟩:∃ w1,w1 = w.alloc (.cells #[.int .i64 N,v] 166):=⟨_,rfl⟩;rw[←hw0] at B0 X0;have HW0:=Lib.hid hw0;clear hw0;have z0:=szs (block_lt X0.out);have x0_0:=cell_at X0.out 0;have x0_1:=cell_at X0.out 1
 have t0:decide (0≤k) = true:=decide_eq_true hk.1
 have t1:decide (k < (N:Int)) = true:=decide_eq_true hk.2
 have hk1:=hk.1
 have hk2:=hk.2
 clear hk
 go_enter Tryz.func124,Tryz.ntmps124
 go_simp
 ((repeat ((fail_if_success (rw[←HW0.out]));go_step));rw[←HW0.out])
 go_wp2_with fail
 go_returns
 exact ⟨rfl,B0.out⟩
set_option maxRecDepth 4000 in
set_option maxHeartbeats 8000000 in
theorem check123 (N:Nat) (ao:Option Addr) (m c:Nat) (A:Nat→Arc) (w:World) (h:Sl w 4 ao m c (arR A)) (ok:NetOk N m A) :
  Calls Tryz.prog 123 #[.agg #[.int .i64 N,.slice ao m c]] w fun e w'=>e = .returned (.int .i64 0)∧Below w.heap.size w w':=by
 have hlm:=h.hm
 have hlc:=h.hc
 have B0:Hid (Below w.heap.size w (w.alloc (.cells #[.int .i64 N,.slice ao m c] 166))):=Lib.hid (by (repeat' (first | with_reducible (first | exact Below.refl _ _ | assumption | refine Below.drew ?_ | refine below_drewN ?_ _ | refine Below.alloc ?_ ?_ _ | refine Below.setCell ?_ ?_ _) | go_size)));have X0:=Lib.hid (al_at w (.cells #[.int .i64 N,.slice ao m c] 166) rfl);obtain ⟨w1,hw0⟩:∃ w1,w1 = w.alloc (.cells #[.int .i64 N,.slice ao m c] 166):=⟨_,rfl⟩;rw[←hw0] at B0 X0;have HW0:=Lib.hid hw0;clear hw0;have z0:=szs (block_lt X0.out);have x0_0:=cell_at X0.out 0;have x0_1:=cell_at X0.out 1
 have H:=Lib.hid (h.below B0.out)
 have OK:=Lib.hid ok
 have hn1:=ok.nodes.1
 have hn2:=ok.nodes.2
 have hm5:=ok.few
 clear h ok
 have t0:decide ((N:Int) < 1) = false:=decide_eq_false (by omega)
 have t0n:decide (N < 1) = false:=decide_eq_false (by omega)
 have t0m:decide (N = 0) = false:=decide_eq_false (by omega)
 have t1:decide ((N:Int) > 64) = false:=decide_eq_false (by omega)
 have t1o:decide (64 < (N:Int)) = false:=decide_eq_false (by omega)
 have t2:decide ((m:Int) > 512) = false:=decide_eq_false (by omega)
 have t2o:decide (512 < (m:Int)) = false:=decide_eq_false (by omega)
 go_enter Tryz.func123,Tryz.ntmps123
 go_simp
 ((repeat ((fail_if_success (rw[←HW0.out]));go_step));rw[←HW0.out])
 go_wp2_with fail
 clear HW0
 go_loopw [20] (fun s wr=>∃ j:Nat,s = .int .i64 j∧j≤m∧Hid (Below w1.heap.size w1 wr)) (fun s _=>m - (intOf s).toNat)
 case atStart=>exact ⟨0,rfl,Nat.zero_le _,Lib.hid (Below.refl _ _)⟩
 case round =>
  obtain ⟨j,rfl,hj,hbel⟩:=hrel
  have HB:=hbel
  clear hbel
  by_cases hlt:j < m
  ·have t3:decide ((j:Int) < (m:Int)) = true:=decide_eq_true (by omega)
   have t3n:decide (j < m) = true:=decide_eq_true (by omega)
   obtain ⟨g,o,rfl,hcs⟩:=(H.out.below HB.out).cell hlt
   obtain ⟨y,hy⟩:∃ y,y = A j:=⟨_,rfl⟩
   have of:=OK.out.fr j hlt
   have ot:=OK.out.to j hlt
   have oc:=OK.out.cap j hlt
   rw[←hy] at of ot oc
   have hcs':∀ i,i < 4→wr.cell? ⟨g,o+j * 4+i,none⟩ = [Value.int .i64 y.f,.int .i64 y.t,.int .i64 y.c,.int .i64 0][i]?:=by rw[hy];exact hcs
   clear hcs hy
   obtain ⟨yf,yt,yc⟩:=y
   dsimp only at of ot oc hcs'
   have e0:wr.cell? ⟨g,o+j * 4,none⟩ = some (.int .i64 yf):=hcs' 0 (by decide)
   have e1:wr.cell? ⟨g,o+j * 4+1,none⟩ = some (.int .i64 yt):=hcs' 1 (by decide)
   have e2:wr.cell? ⟨g,o+j * 4+2,none⟩ = some (.int .i64 yc):=hcs' 2 (by decide)
   have e3:wr.cell? ⟨g,o+j * 4+3,none⟩ = some (.int .i64 0):=hcs' 3 (by decide)
   clear hcs'
   have y0:=cell_kept HB.out x0_0
   have y1:=cell_kept HB.out x0_1
   have hzz:=HB.out.size
   have zg:=szs (cell_lt e0)
   have zx:=szs (Nat.lt_of_lt_of_le z0.1 hzz)
   have B1:Hid (Below wr.heap.size wr (wr.alloc (.cells #[.int .i64 yf,.int .i64 yt,.int .i64 yc,.int .i64 0] 183))):=Lib.hid (by (repeat' (first | with_reducible (first | exact Below.refl _ _ | assumption | refine Below.drew ?_ | refine below_drewN ?_ _ | refine Below.alloc ?_ ?_ _ | refine Below.setCell ?_ ?_ _) | go_size)));have X1:=Lib.hid (al_at wr (.cells #[.int .i64 yf,.int .i64 yt,.int .i64 yc,.int .i64 0] 183) rfl);obtain ⟨w2,hw1⟩:∃ w2,w2 = wr.alloc (.cells #[.int .i64 yf,.int .i64 yt,.int .i64 yc,.int .i64 0] 183):=⟨_,rfl⟩;rw[←hw1] at B1 X1;have HW1:=Lib.hid hw1;clear hw1;have z1:=szs (block_lt X1.out);have x1_0:=cell_at X1.out 0;have x1_1:=cell_at X1.out 1;have x1_2:=cell_at X1.out 2;have x1_3:=cell_at X1.out 3
   have d0:decide (yc < 0) = false:=decide_eq_false (by omega)
   have d1:decide (yc > 65536) = false:=decide_eq_false (by omega)
   have d1o:decide (65536 < yc) = false:=decide_eq_false (by omega)
   obtain ⟨of1,of2⟩:=of
   obtain ⟨ot1,ot2⟩:=ot
   obtain ⟨oc1,oc2⟩:=oc
   have v0:=cell_kept B1.out y0
   have v1:=cell_kept B1.out y1
   go_simp
   ((repeat ((fail_if_success (rw[←HW1.out]));go_step));rw[←HW1.out])
   clear HW1 e0 e1 e2 e3 y0 y1 zg
   have zx:=szs (Nat.lt_of_lt_of_le z0.1 (Nat.le_trans hzz B1.out.size))
   go_wp2_with fail
   refine (node124 N (.slice (some ⟨g,o,none⟩) m c) yf w2 ⟨of1,of2⟩ hn2).mono ?_
   rintro e w3 ⟨rfl,b3⟩
   have u0:=cell_kept b3 v0
   have u1:=cell_kept b3 v1
   have k0:=cell_kept b3 x1_0
   have k1:=cell_kept b3 x1_1
   have k2:=cell_kept b3 x1_2
   have k3:=cell_kept b3 x1_3
   have z3:=szs (Nat.lt_of_lt_of_le z1.1 b3.size)
   have zx:=szs (Nat.lt_of_lt_of_le z0.1 (Nat.le_trans hzz (Nat.le_trans B1.out.size b3.size)))
   have B3:=Lib.hid b3
   clear b3 v0 v1 x1_0 x1_1 x1_2 x1_3
   go_wp2_with fail
   refine (node124 N (.slice (some ⟨g,o,none⟩) m c) yt w3 ⟨ot1,ot2⟩ hn2).mono ?_
   rintro e w4 ⟨rfl,b4⟩
   have l0:=cell_kept b4 k0
   have l1:=cell_kept b4 k1
   have l2:=cell_kept b4 k2
   have l3:=cell_kept b4 k3
   have z4:=szs (Nat.lt_of_lt_of_le z1.1 (Nat.le_trans B3.out.size b4.size))
   have B4:=Lib.hid (HB.out.trans ((B1.out.trans ((B3.out.trans (b4.mono B3.out.size)).mono B1.out.size)).mono hzz))
   clear b4 k0 k1 k2 k3 u0 u1
   go_wp2_with fail
   go_roundw
   case rel=>(repeat (first | exact rfl | refine And.intro (⟨j+1,by go_num,by omega,B4⟩) ?_ | apply Exists.intro))
   case measure=>simp [intOf] <;> omega
  ·have t3:decide ((j:Int) < (m:Int)) = false:=decide_eq_false (by omega)
   have t3n:decide (j < m) = false:=decide_eq_false (by omega)
   obtain rfl:j = m:=by omega
   go_wp2_with fail
   go_returns
   exact ⟨rfl,B0.out.trans (HB.out.mono B0.out.size)⟩
set_option maxRecDepth 4000 in
set_option maxHeartbeats 8000000 in
theorem ends108 (N:Nat) (ao:Option Addr) (m c:Nat) (A:Nat→Arc) (a b:Nat) (w:World) (h:Sl w 4 ao m c (arR A)) (ok:NetOk N m A) (ha:a < N) (hb:b < N) (hab:a ≠ b) :
  Calls Tryz.prog 108 #[.agg #[.int .i64 N,.slice ao m c],.int .i64 a,.int .i64 b] w fun e w'=>e = .returned (.int .i64 0)∧Below w.heap.size w w':=by
 have B0:Hid (Below w.heap.size w (w.alloc (.cells #[.int .i64 N,.slice ao m c] 166))):=Lib.hid (by (repeat' (first | with_reducible (first | exact Below.refl _ _ | assumption | refine Below.drew ?_ | refine below_drewN ?_ _ | refine Below.alloc ?_ ?_ _ | refine Below.setCell ?_ ?_ _) | go_size)));have X0:=Lib.hid (al_at w (.cells #[.int .i64 N,.slice ao m c] 166) rfl);obtain ⟨w1,hw0⟩:∃ w1,w1 = w.alloc (.cells #[.int .i64 N,.slice ao m c] 166):=⟨_,rfl⟩;rw[←hw0] at B0 X0;have HW0:=Lib.hid hw0;clear hw0;have z0:=szs (block_lt X0.out);have x0_0:=cell_at X0.out 0;have x0_1:=cell_at X0.out 1
 have C1:=Lib.hid (check123 N ao m c A w1 (h.below B0.out) ok)
 have hn2:=ok.nodes.2
 clear h ok
 have hab2:((a:Int) == (b:Int)) = false:=by simp;omega
 have hab3:(a == b) = false:=by simp;omega
 go_enter Tryz.func108,Tryz.ntmps108
 go_simp
 ((repeat ((fail_if_success (rw[←HW0.out]));go_step));rw[←HW0.out])
 go_wp2_with fail
 refine C1.out.mono ?_
 rintro e w2 ⟨rfl,b2⟩
 have u0:=cell_kept b2 x0_0
 have u1:=cell_kept b2 x0_1
 have z2:=szs (Nat.lt_of_lt_of_le z0.1 b2.size)
 have B2:=Lib.hid (B0.out.trans (b2.mono B0.out.size))
 have hs2:=b2.size
 clear b2 x0_0 x0_1 HW0 C1
 go_wp2_with fail
 refine (node124 N (.slice ao m c) a w2 ⟨by omega,by omega⟩ hn2).mono ?_
 rintro e w3 ⟨rfl,b3⟩
 have v0:=cell_kept b3 u0
 have v1:=cell_kept b3 u1
 have z3:=szs (Nat.lt_of_lt_of_le z0.1 (Nat.le_trans hs2 b3.size))
 have B3:=Lib.hid (B2.out.trans (b3.mono B2.out.size))
 clear b3 u0 u1
 go_wp2_with fail
 refine (node124 N (.slice ao m c) b w3 ⟨by omega,by omega⟩ hn2).mono ?_
 rintro e w4 ⟨rfl,b4⟩
 have B4:=Lib.hid (B3.out.trans (b4.mono B3.out.size))
 clear b4 v0 v1
 go_wp2_with fail
 go_returns
 exact ⟨rfl,B4.out⟩
end Go.Proofs.YtdpoppilnokniaaGreatDoor
namespace Go.Proofs.YtdpoppilnokniaaGreatDoor
open Go.RowKit Go.ChangeShapes Go.WideShapes Go.Deep
set_option linter.unusedVariables false
set_option linter.unusedSimpArgs false
set_option linter.unnecessarySimpa false
def sts (x:Stp):List Value:=[.int .i64 x.fr,.int .i64 x.ac,.int .i64 x.rm,.bool x.fw,.bool x.kn,.int .i64 x.dp]
def stR (S:Nat→Stp):Nat→List Value:=fun i=>sts (S i)
structure RchM (w0:World) (qs gs qd qg N:Nat) (S:Nat→Stp) (D:Int) (g:Bool) (w:World):Prop where
 bel:Below w0.heap.size w0 w
 hdr:w.heap[qs]? = some (.cells #[.slice (some ⟨gs,0,none⟩) N N] 202 (0,0))
 row:Row w w0.heap.size 205 6 (.slice (some ⟨gs,0,none⟩) N N) N (stR S)
 dep:w.heap[qd]? = some (.cells #[.int .i64 D] 3 (0,0))
 grw:w.heap[qg]? = some (.cells #[.bool g] 4 (0,0))
 sep:gs ≠ qs∧gs ≠ qd∧gs ≠ qg∧qg ≠ qs∧qg ≠ qd∧w0.heap.size≤qg
theorem RchM.below {w0 w w':World}{qs gs qd qg N:Nat}{S:Nat→Stp}{D:Int}{g:Bool}(h:RchM w0 qs gs qd qg N S D g w) (hb:Below w.heap.size w w'):RchM w0 qs gs qd qg N S D g w' :=
 {bel:=h.bel.trans (hb.mono h.bel.size)
  hdr:=(hb.block _ (block_lt h.hdr)).trans h.hdr
  row:=Row.off (X:=fun _=>False) h.row (Off.of_below hb) (fun _ _ h=>h)
  dep:=(hb.block _ (block_lt h.dep)).trans h.dep
  grw:=(hb.block _ (block_lt h.grw)).trans h.grw
  sep:=h.sep }
theorem RchM.put {w0 w w':World}{qs gs qd qg N:Nat}{S S':Nat→Stp}{D:Int}{g g':Bool}(h:RchM w0 qs gs qd qg N S D g w) (ho:Off (fun q=>q = gs∨q = qg) w w') (hr:Row w' w0.heap.size 205 6 (.slice (some ⟨gs,0,none⟩) N N) N (stR S')) (hg:w'.heap[qg]? = some (.cells #[.bool g'] 4 (0,0))):RchM w0 qs gs qd qg N S' D g' w' :=
 have s:=h.sep
 have hb:=(World.ownsRow.lt h.row gs rfl).1
 {bel:=h.bel.trans (ho.toBelow h.bel.size (fun q hq e=>by rcases e with e | e <;> omega))
  hdr:=(ho.block _ (block_lt h.hdr) (fun e=>by rcases e with e | e <;> omega)).trans h.hdr
  row:=hr
  dep:=(ho.block _ (block_lt h.dep) (fun e=>by rcases e with e | e <;> omega)).trans h.dep
  grw:=hg
  sep:=s }
def VisP (S:Nat→Stp) (D:Int) (g:Bool) (p b:Nat) (j rm:Int) (fw:Bool) (S':Nat→Stp) (g':Bool):Prop :=
 (S' = S∧g' = g)∨((S p).kn = true∧(S p).dp = D∧(S b).kn = false∧S' = upd S b ⟨p,j,rm,fw,true,D+1⟩∧g' = true)
set_option maxRecDepth 8000 in
set_option maxHeartbeats 8000000 in
theorem visit132 (w0:World) (qs gs qd qg N:Nat) (S:Nat→Stp) (D:Int) (g:Bool) (p b:Nat) (j rm cost:Int) (fw:Bool) (w:World) (h:RchM w0 qs gs qd qg N S D g w) (hp:p < N) (hb:b < N) (hN:N≤64) (hD:0≤D∧D≤1000) :
  Calls Tryz.prog 132 #[.int .i64 p,.int .i64 b,.int .i64 j,.int .i64 rm,.int .i64 cost,.bool fw,.pointer (some ⟨qs,0,none⟩),.pointer (some ⟨qd,0,none⟩),.pointer (some ⟨qg,0,none⟩)] w fun e w'=>e = .returned (.tuple #[])∧∃ (S':Nat→Stp) (g':Bool),RchM w0 qs gs qd qg N S' D g' w'∧VisP S D g p b j rm fw S' g'∧Off (fun q=>q = gs∨q = qg) w w':=by
 have H:=Lib.hid h
 have x0:=cell_at h.hdr 0
 have y0:=cell_at h.dep 0
 have z0:=cell_at h.grw 0
 have fg:=fun i=>free_at h.grw i
 have fs:=fun i=>Row.free h.row i
 have p4:w.cell? ⟨gs,p * 6+4,none⟩ = some (.bool (S p).kn):=Row.cell h.row (fun i=>rfl) hp (j:=4) (by decide)
 have p5:w.cell? ⟨gs,p * 6+5,none⟩ = some (.int .i64 (S p).dp):=Row.cell h.row (fun i=>rfl) hp (j:=5) (by decide)
 have b0:w.cell? ⟨gs,b * 6+0,none⟩ = some (.int .i64 (S b).fr):=Row.cell h.row (fun i=>rfl) hb (j:=0) (by decide)
 rw[Nat.add_zero] at b0
 have b1:w.cell? ⟨gs,b * 6+1,none⟩ = some (.int .i64 (S b).ac):=Row.cell h.row (fun i=>rfl) hb (j:=1) (by decide)
 have b2:w.cell? ⟨gs,b * 6+2,none⟩ = some (.int .i64 (S b).rm):=Row.cell h.row (fun i=>rfl) hb (j:=2) (by decide)
 have b3:w.cell? ⟨gs,b * 6+3,none⟩ = some (.bool (S b).fw):=Row.cell h.row (fun i=>rfl) hb (j:=3) (by decide)
 have b4:w.cell? ⟨gs,b * 6+4,none⟩ = some (.bool (S b).kn):=Row.cell h.row (fun i=>rfl) hb (j:=4) (by decide)
 have b5:w.cell? ⟨gs,b * 6+5,none⟩ = some (.int .i64 (S b).dp):=Row.cell h.row (fun i=>rfl) hb (j:=5) (by decide)
 have zs:=szs (block_lt h.hdr)
 have zd:=szs (block_lt h.dep)
 have zg:=szs (block_lt h.grw)
 have zr:=szs (World.ownsRow.lt h.row gs rfl).2
 have i0:((p:Int) < (N:Int)):=by omega
 have i1:((b:Int) < (N:Int)):=by omega
 obtain ⟨hD1,hD2⟩:=hD
 clear h
 cases k1:(S p).kn
 ·rw[k1] at p4
  go_enter Tryz.func132,Tryz.ntmps132
  go_wp2_with fail
  (refine region_all (fun i:Nat=>World.drewN _ i) mixed (by kernel_rfl) ⟨1,rfl⟩ ?_;(repeat (any_goals (first | go_big_quiet_step (fail) | quiet_step (fail) | (refine wpQuiet_step (fun K hK=>?_);go_simp;split <;> (refine hK _ ?_;clear hK K)))));(all_goals (refine wpQuiet_nil (fun nq=>?_))))
  go_wp2_with fail
  go_returns
  exact ⟨rfl,S,g,H.out.below (by (repeat' (first | with_reducible (first | exact Below.refl _ _ | assumption | refine Below.drew ?_ | refine below_drewN ?_ _ | refine Below.alloc ?_ ?_ _ | refine Below.setCell ?_ ?_ _) | go_size))),Or.inl ⟨rfl,rfl⟩,Off.of_below (by (repeat' (first | with_reducible (first | exact Below.refl _ _ | assumption | refine Below.drew ?_ | refine below_drewN ?_ _ | refine Below.alloc ?_ ?_ _ | refine Below.setCell ?_ ?_ _) | go_size)))⟩
 ·rw[k1] at p4
  by_cases k2:(S p).dp = D
  ·have d2:((S p).dp == D) = true:=by simp [k2]
   cases k3:(S b).kn
   ·rw[k3] at b4
    go_enter Tryz.func132,Tryz.ntmps132
    go_wp2_with fail
    (refine region_all (fun i:Nat=>World.drewN _ i) mixed (by kernel_rfl) ⟨1,rfl⟩ ?_;(repeat (any_goals (first | go_big_quiet_step (fail) | quiet_step (fail) | (refine wpQuiet_step (fun K hK=>?_);go_simp;split <;> (refine hK _ ?_;clear hK K)))));(all_goals (refine wpQuiet_nil (fun nq=>?_))))
    obtain ⟨w5,hw5⟩:∃ w5,w5 = w.drewN nq:=⟨_,rfl⟩
    have B5:Hid (Below w.heap.size w w5):=Lib.hid (by rw[hw5];(repeat' (first | with_reducible (first | exact Below.refl _ _ | assumption | refine Below.drew ?_ | refine below_drewN ?_ _ | refine Below.alloc ?_ ?_ _ | refine Below.setCell ?_ ?_ _) | go_size)))
    rw[←hw5]
    clear hw5 x0 y0 z0 fg fs p4 p5 b0 b1 b2 b3 b4 b5 zs zd zg zr
    have H5:=Lib.hid (H.out.below B5.out)
    have R5:=Lib.hid (Row.put H5.out.row (fun i=>rfl) hb (sts ⟨p,j,rm,fw,true,D+1⟩) rfl)
    have O5:=Lib.hid (off_putCells (X:=fun q=>q = gs∨q = qg) (g:=gs) (Or.inl rfl) (sts ⟨p,j,rm,fw,true,D+1⟩) (b * 6) w5 (Off.refl _ _))
    have O6:=Lib.hid (off_putCells (X:=fun q=>q = gs) (g:=gs) rfl (sts ⟨p,j,rm,fw,true,D+1⟩) (b * 6) w5 (Off.refl _ _))
    have x0:=cell_at H5.out.hdr 0
    have y0:=cell_at H5.out.dep 0
    have z0:=cell_at H5.out.grw 0
    have fg:=fun i=>free_at H5.out.grw i
    have fs:=fun i=>Row.free H5.out.row i
    have b0:w5.cell? ⟨gs,b * 6+0,none⟩ = some (.int .i64 (S b).fr):=Row.cell H5.out.row (fun i=>rfl) hb (j:=0) (by decide)
    rw[Nat.add_zero] at b0
    have b1:w5.cell? ⟨gs,b * 6+1,none⟩ = some (.int .i64 (S b).ac):=Row.cell H5.out.row (fun i=>rfl) hb (j:=1) (by decide)
    have b2:w5.cell? ⟨gs,b * 6+2,none⟩ = some (.int .i64 (S b).rm):=Row.cell H5.out.row (fun i=>rfl) hb (j:=2) (by decide)
    have b3:w5.cell? ⟨gs,b * 6+3,none⟩ = some (.bool (S b).fw):=Row.cell H5.out.row (fun i=>rfl) hb (j:=3) (by decide)
    have b4:w5.cell? ⟨gs,b * 6+4,none⟩ = some (.bool (S b).kn):=Row.cell H5.out.row (fun i=>rfl) hb (j:=4) (by decide)
    have b5:w5.cell? ⟨gs,b * 6+5,none⟩ = some (.int .i64 (S b).dp):=Row.cell H5.out.row (fun i=>rfl) hb (j:=5) (by decide)
    have zs:=szs (block_lt H5.out.hdr)
    have zd:=szs (block_lt H5.out.dep)
    have zg:=szs (block_lt H5.out.grw)
    have zr:=szs (World.ownsRow.lt H5.out.row gs rfl).2
    have hne:=H5.out.sep.2.2.1
    have hne2:qg ≠ gs:=fun e=>hne e.symm
    go_wp2_with fail
    go_returns
    refine ⟨rfl,upd S b ⟨p,j,rm,fw,true,D+1⟩,true,RchM.put H5.out (O5.out.setCell (fun _=>Or.inr rfl) _) (Row.off (Row.congr R5.out (fun i hi=>?_)) off_set (fun q hq e=>hne ?_)) (put1 ((O6.out.block _ (block_lt H5.out.grw) hne2).trans H5.out.grw) _),Or.inr ⟨k1,k2,k3,rfl,rfl⟩,(Off.of_below B5.out).same (O5.out.setCell (fun _=>Or.inr rfl) _)⟩
    ·by_cases e:i = b
     ·subst e;rw[upd_same];show _ = sts (upd S i _ i);rw[upd_same]
     ·rw[upd_ne e];show _ = sts (upd S b _ i);rw[upd_ne e];rfl
    ·have e:q = qg:=e
     have h1:gs = q:=(by simpa [Value.ownBlock] using hq)
     omega
   ·rw[k3] at b4
    go_enter Tryz.func132,Tryz.ntmps132
    go_wp2_with fail
    (refine region_all (fun i:Nat=>World.drewN _ i) mixed (by kernel_rfl) ⟨1,rfl⟩ ?_;(repeat (any_goals (first | go_big_quiet_step (fail) | quiet_step (fail) | (refine wpQuiet_step (fun K hK=>?_);go_simp;split <;> (refine hK _ ?_;clear hK K)))));(all_goals (refine wpQuiet_nil (fun nq=>?_))))
    go_wp2_with fail
    go_returns
    exact ⟨rfl,S,g,H.out.below (by (repeat' (first | with_reducible (first | exact Below.refl _ _ | assumption | refine Below.drew ?_ | refine below_drewN ?_ _ | refine Below.alloc ?_ ?_ _ | refine Below.setCell ?_ ?_ _) | go_size))),Or.inl ⟨rfl,rfl⟩,Off.of_below (by (repeat' (first | with_reducible (first | exact Below.refl _ _ | assumption | refine Below.drew ?_ | refine below_drewN ?_ _ | refine Below.alloc ?_ ?_ _ | refine Below.setCell ?_ ?_ _) | go_size)))⟩
  ·have d2:((S p).dp == D) = false:=by simp [k2]
   go_enter Tryz.func132,Tryz.ntmps132
   go_wp2_with fail
   (refine region_all (fun i:Nat=>World.drewN _ i) mixed (by kernel_rfl) ⟨1,rfl⟩ ?_;(repeat (any_goals (first | go_big_quiet_step (fail) | quiet_step (fail) | (refine wpQuiet_step (fun K hK=>?_);go_simp;split <;> (refine hK _ ?_;clear hK K)))));(all_goals (refine wpQuiet_nil (fun nq=>?_))))
   go_wp2_with fail
   go_returns
   exact ⟨rfl,S,g,H.out.below (by (repeat' (first | with_reducible (first | exact Below.refl _ _ | assumption | refine Below.drew ?_ | refine below_drewN ?_ _ | refine Below.alloc ?_ ?_ _ | refine Below.setCell ?_ ?_ _) | go_size))),Or.inl ⟨rfl,rfl⟩,Off.of_below (by (repeat' (first | with_reducible (first | exact Below.refl _ _ | assumption | refine Below.drew ?_ | refine below_drewN ?_ _ | refine Below.alloc ?_ ?_ _ | refine Below.setCell ?_ ?_ _) | go_size)))⟩
end Go.Proofs.YtdpoppilnokniaaGreatDoor
namespace Go.Proofs.YtdpoppilnokniaaGreatDoor
open Go.RowKit Go.ChangeShapes Go.WideShapes Go.Deep
set_option linter.unusedVariables false
set_option linter.unusedSimpArgs false
set_option linter.unnecessarySimpa false
structure VisI (A:Nat→Arc) (on:Nat→Int) (m N a:Nat) (S:Nat→Stp) (D:Nat) (U:Nat) (g:Bool):Prop where
 ok:StpsOk A on m N a S ((D+1:Nat):Int)
 low:g = false→StpsOk A on m N a S (D:Int)∧unk S N≤U
 cnt:g = true→unk S N < U
 few:D+U+1≤N
theorem StpsOk.more {A:Nat→Arc}{on:Nat→Int}{m N a:Nat}{S:Nat→Stp}{D D':Int}(h:StpsOk A on m N a S D) (hd:D≤D'):StpsOk A on m N a S D' :=
 {h with dep:=fun b hb hk=>by have:=h.dep b hb hk;omega }
theorem VisI.next {A:Nat→Arc}{on:Nat→Int}{m N a:Nat}{S S':Nat→Stp}{D U:Nat}{g g':Bool}(h:VisI A on m N a S D U g) {p b j:Nat}{rm:Int}{fw:Bool}(hv:VisP S (D:Int) g p b (j:Int) rm fw S' g') (hp:p < N) (hb:b < N) (hj:j < m) (hr:0 < rm)
  (ha:(fw = true∧(A j).f = (p:Int)∧(A j).t = (b:Int)∧rm = (A j).c - on j)∨(fw = false∧(A j).f = (b:Int)∧(A j).t = (p:Int)∧rm = on j)):VisI A on m N a S' D U g':=by
 rcases hv with ⟨rfl,rfl⟩ | ⟨k1,k2,k3,rfl,rfl⟩
 ·exact h
 ·have h1:=h.ok.put (rm:=rm) (fw:=fw) (D':=((D+1:Nat):Int)) hp k1 hb k3 hj hr (Int.le_refl _) (by omega) ha
  rw[k2] at h1
  refine ⟨h1,(fun e=>by cases e),fun _=>?_,h.few⟩
  have h2:=unk_put (S:=S) (x:=⟨p,j,rm,fw,true,(D:Int)+1⟩) rfl k3 hb
  have h3:unk S N≤U:=by
   cases g
   ·exact (h.low rfl).2
   ·exact Nat.le_of_lt (h.cnt rfl)
  omega
def EachP (w0:World) (qs gs qd qg N m a:Nat) (A:Nat→Arc) (on:Nat→Int) (D U:Nat) (w w':World):Prop :=
 ∃ (S':Nat→Stp) (g':Bool),RchM w0 qs gs qd qg N S' (D:Int) g' w'∧VisI A on m N a S' D U g'∧Off (fun q=>q = gs∨q = qg) w w'
theorem visitP (w0:World) (qs gs qd qg N:Nat) (S:Nat→Stp) (D:Int) (g:Bool) (p b:Nat) (j rm cost:Int) (fw:Bool) (w:World) (h:RchM w0 qs gs qd qg N S D g w) (hp:p < N) (hb:b < N) (hN:N≤64) (hD:0≤D∧D≤1000) :
  Calls Tryz.prog 132 #[.int .i64 p,.int .i64 b,.int .i64 j,.int .i64 rm,.int .i64 cost,.bool fw,.pointer (some ⟨qs,0,none⟩),.pointer (some ⟨qd,0,none⟩),.pointer (some ⟨qg,0,none⟩)] w fun e w'=>e = .returned (.tuple #[])∧Hid (∃ (S':Nat→Stp) (g':Bool),RchM w0 qs gs qd qg N S' D g' w'∧VisP S D g p b j rm fw S' g'∧Off (fun q=>q = gs∨q = qg) w w') :=
 (visit132 w0 qs gs qd qg N S D g p b j rm cost fw w h hp hb hN hD).mono (fun e w' ⟨h1,h2⟩=>⟨h1,Lib.hid h2⟩)
set_option maxRecDepth 8000 in
set_option maxHeartbeats 16000000 in
theorem each131 (w0:World) (qs gs qd qg N m a:Nat) (ao:Option Addr) (ac:Nat) (A:Nat→Arc) (oo:Option Addr) (oc:Nat) (on:Nat→Int) (S:Nat→Stp) (D U:Nat) (g:Bool) (w:World)
  (hA:Sl w0 4 ao m ac (arR A)) (hO:Sl w0 1 oo m oc (nuR on)) (ok:NetOk N m A) (hc:∀ j,j < m→0≤on j∧on j≤(A j).c) (h:RchM w0 qs gs qd qg N S (D:Int) g w) (hv:VisI A on m N a S D U g) :
  Calls Tryz.prog 131 #[.agg #[.int .i64 N,.slice ao m ac,.slice oo m oc],.func (.func 132) #[] #[.pointer (some ⟨qs,0,none⟩),.pointer (some ⟨qd,0,none⟩),.pointer (some ⟨qg,0,none⟩)]] w fun e w'=>e = .returned (.tuple #[])∧EachP w0 qs gs qd qg N m a A on D U w w':=by
 have hlm:=hA.hm
 have hlc:=hA.hc
 have hln:=hO.hm
 have hlo:=hO.hc
 have hm5:=ok.few
 have hN:=ok.nodes.2
 have hD:=hv.few
 have B0:Hid (Below w.heap.size w (w.alloc (.cells #[.int .i64 N,.slice ao m ac,.slice oo m oc] 186))):=Lib.hid (by (repeat' (first | with_reducible (first | exact Below.refl _ _ | assumption | refine Below.drew ?_ | refine below_drewN ?_ _ | refine Below.alloc ?_ ?_ _ | refine Below.setCell ?_ ?_ _) | go_size)));have X0:=Lib.hid (al_at w (.cells #[.int .i64 N,.slice ao m ac,.slice oo m oc] 186) rfl);obtain ⟨w1,hw0⟩:∃ w1,w1 = w.alloc (.cells #[.int .i64 N,.slice ao m ac,.slice oo m oc] 186):=⟨_,rfl⟩;rw[←hw0] at B0 X0;have HW0:=Lib.hid hw0;clear hw0;have z0:=szs (block_lt X0.out);have x0_0:=cell_at X0.out 0;have x0_1:=cell_at X0.out 1;have x0_2:=cell_at X0.out 2
 have HA:=Lib.hid hA
 have HO:=Lib.hid hO
 have OK:=Lib.hid ok
 have CP:=Lib.hid hc
 have H0:=Lib.hid (h.below B0.out)
 have HV0:=Lib.hid hv
 have hsep:Hid (w.heap.size ≠ gs∧w.heap.size ≠ qg):=Lib.hid ⟨by have:=(World.ownsRow.lt h.row gs rfl).2;omega,by have:=block_lt h.grw;omega⟩
 clear hA hO ok hc h hv
 go_enter Tryz.func131,Tryz.ntmps131
 go_simp
 ((repeat ((fail_if_success (rw[←HW0.out]));go_step));rw[←HW0.out])
 go_wp2_with fail
 clear HW0
 go_loopw [10] (fun s wr=>∃ i:Nat,s = .int .i64 i∧i≤m∧Hid (EachP w0 qs gs qd qg N m a A on D U w1 wr)) (fun s _=>m - (intOf s).toNat)
 case atStart=>exact ⟨0,rfl,Nat.zero_le _,Lib.hid ⟨S,g,H0.out,HV0.out,Off.refl _ _⟩⟩
 case round =>
  obtain ⟨i,rfl,hi,hp⟩:=hrel
  clear H0 HV0 S g
  have HP:=hp
  clear hp
  obtain ⟨S,g,hm,hv,ho⟩:=HP.out
  have HM:=Lib.hid hm
  have HV:=Lib.hid hv
  have HF:=Lib.hid ho
  clear hm hv ho HP
  have X:=Lib.hid ((HF.out.block _ (block_lt X0.out) (fun e=>e.elim hsep.out.1 hsep.out.2)).trans X0.out)
  by_cases hlt:i < m
  ·have t3:decide ((i:Int) < (m:Int)) = true:=decide_eq_true (by omega)
   have t3n:decide (i < m) = true:=decide_eq_true (by omega)
   obtain ⟨g1,o1,rfl,hcs⟩:=(HA.out.below HM.out.bel).cell hlt
   obtain ⟨g2,o2,rfl,hos⟩:=(HO.out.below HM.out.bel).cell hlt
   obtain ⟨yf,yt,yc,hya⟩:∃ (yf yt:Nat) (yc:Int),A i = ⟨yf,yt,yc⟩:=⟨(A i).f.toNat,(A i).t.toNat,(A i).c,by have h1:=OK.out.fr i hlt;have h2:=OK.out.to i hlt;rcases e:A i with ⟨f,t,c⟩;rw[e] at h1 h2;dsimp only at h1 h2 ⊢;rw[Int.toNat_of_nonneg h1.1,Int.toNat_of_nonneg h2.1]⟩
   have of:=OK.out.fr i hlt
   have ot:=OK.out.to i hlt
   have oc:=OK.out.cap i hlt
   have oo:=CP.out i hlt
   obtain ⟨y,hy⟩:∃ y,y = on i:=⟨_,rfl⟩
   rw[←hy] at oo
   rw[hya] at of ot oc oo
   have hcs':∀ l,l < 4→wr.cell? ⟨g1,o1+i * 4+l,none⟩ = [Value.int .i64 yf,.int .i64 yt,.int .i64 yc,.int .i64 0][l]?:=by
    have e:[Value.int .i64 yf,.int .i64 yt,.int .i64 yc,.int .i64 0] = arR A i:=by unfold arR;rw[hya]
    rw[e];exact hcs
   clear hcs
   dsimp only at of ot oc oo
   have e0:wr.cell? ⟨g1,o1+i * 4,none⟩ = some (.int .i64 yf):=hcs' 0 (by decide)
   have e1:wr.cell? ⟨g1,o1+i * 4+1,none⟩ = some (.int .i64 yt):=hcs' 1 (by decide)
   have e2:wr.cell? ⟨g1,o1+i * 4+2,none⟩ = some (.int .i64 yc):=hcs' 2 (by decide)
   have e3:wr.cell? ⟨g1,o1+i * 4+3,none⟩ = some (.int .i64 0):=hcs' 3 (by decide)
   have u0:wr.cell? ⟨g2,o2+i,none⟩ = some (.int .i64 y):=by
    have:=hos 0 (by decide)
    rw[Nat.mul_one,Nat.add_zero] at this
    rw[hy];exact this
   have HY:=Lib.hid hy
   have HYA:=Lib.hid hya
   have HG2:Hid (g2 < w0.heap.size):=Lib.hid (by
    obtain ⟨g3,o3,e3,h3⟩:=HO.out.cell hlt
    cases e3
    have h4:=h3 0 (by decide)
    exact cell_lt (a:=⟨g2,o2+i * 1+0,none⟩) (by rw[h4];rfl))
   clear hcs' hos hy hya
   have v0:=cell_at X.out 0
   have v1:=cell_at X.out 1
   have v2:=cell_at X.out 2
   have zx:=szs (block_lt X.out)
   have zg:=szs (cell_lt e0)
   have zo:=szs (cell_lt u0)
   have B1:Hid (Below wr.heap.size wr (wr.alloc (.cells #[.int .i64 yf,.int .i64 yt,.int .i64 yc,.int .i64 0] 183))):=Lib.hid (by (repeat' (first | with_reducible (first | exact Below.refl _ _ | assumption | refine Below.drew ?_ | refine below_drewN ?_ _ | refine Below.alloc ?_ ?_ _ | refine Below.setCell ?_ ?_ _) | go_size)));have X1:=Lib.hid (al_at wr (.cells #[.int .i64 yf,.int .i64 yt,.int .i64 yc,.int .i64 0] 183) rfl);obtain ⟨w2,hw1⟩:∃ w2,w2 = wr.alloc (.cells #[.int .i64 yf,.int .i64 yt,.int .i64 yc,.int .i64 0] 183):=⟨_,rfl⟩;rw[←hw1] at B1 X1;have HW1:=Lib.hid hw1;clear hw1;have z1:=szs (block_lt X1.out);have x1_0:=cell_at X1.out 0;have x1_1:=cell_at X1.out 1;have x1_2:=cell_at X1.out 2;have x1_3:=cell_at X1.out 3
   obtain ⟨of1,of2⟩:=of
   obtain ⟨ot1,ot2⟩:=ot
   obtain ⟨oc1,oc2⟩:=oc
   obtain ⟨oo1,oo2⟩:=oo
   go_simp
   ((repeat ((fail_if_success (rw[←HW1.out]));go_step));rw[←HW1.out])
   obtain ⟨qa,hqa⟩:∃ qa,qa = wr.heap.size:=⟨_,rfl⟩
   rw[←hqa] at X1 x1_0 x1_1 x1_2 x1_3 z1 ⊢
   have hqs:qa ≠ gs∧qa ≠ qg:=⟨by have:=(World.ownsRow.lt HM.out.row gs rfl).2;omega,by have:=block_lt HM.out.grw;omega⟩
   have HQS:=Lib.hid hqs
   clear HW1 e0 e1 e2 e3 hqs hqa zg
   have M2:=Lib.hid (HM.out.below B1.out)
   have F2:=Lib.hid (HF.out.trans (Off.of_below B1.out) (fun q hq h=>h))
   have X2:=Lib.hid ((B1.out.block _ (block_lt X.out)).trans X.out)
   have UC2:=Lib.hid (cell_kept B1.out u0)
   clear v0 v1 v2 zx zo u0 X HM HF
   have v0:=cell_at X2.out 0
   have v1:=cell_at X2.out 1
   have v2:=cell_at X2.out 2
   have a0:=cell_at X1.out 0
   have a1:=cell_at X1.out 1
   have a2:=cell_at X1.out 2
   have a3:=cell_at X1.out 3
   have zx:=szs (block_lt X2.out)
   have za:=szs (block_lt X1.out)
   have u0:=UC2.out
   have zo:=szs (cell_lt u0)
   clear z1 x1_0 x1_1 x1_2 x1_3 x0_0 x0_1 x0_2 z0
   by_cases ka:y < yc
   ·have d4:decide (y < yc) = true:=decide_eq_true ka
    go_wp2_with fail
    (refine region_all (fun i:Nat=>World.drewN _ i) mixed (by kernel_rfl) ⟨1,rfl⟩ ?_;(repeat (any_goals (first | go_big_quiet_step (fail) | quiet_step (fail) | (refine wpQuiet_step (fun K hK=>?_);go_simp;split <;> (refine hK _ ?_;clear hK K)))));(all_goals (refine wpQuiet_nil (fun nq=>?_))))
    have B3:Hid (Below (World.heap w2).size w2 (World.drewN w2 nq)):=Lib.hid (by (repeat' (first | with_reducible (first | exact Below.refl _ _ | assumption | refine Below.drew ?_ | refine below_drewN ?_ _ | refine Below.alloc ?_ ?_ _ | refine Below.setCell ?_ ?_ _) | go_size)))
    obtain ⟨w3,hw7⟩:∃ w7,w7 = World.drewN w2 nq:=⟨_,rfl⟩
    rw[←hw7] at B3 ⊢
    clear hw7
    have M3:=Lib.hid (M2.out.below B3.out)
    have F3:=Lib.hid (F2.out.trans (Off.of_below B3.out) (fun q hq h=>h))
    have X3:=Lib.hid ((B3.out.block _ (block_lt X2.out)).trans X2.out)
    have XA3:=Lib.hid ((B3.out.block _ (block_lt X1.out)).trans X1.out)
    have UC3:=Lib.hid (cell_kept B3.out UC2.out)
    clear v0 v1 v2 a0 a1 a2 a3 zx za u0 zo M2 F2 X2 X1 UC2
    have v0:=cell_at X3.out 0
    have v1:=cell_at X3.out 1
    have v2:=cell_at X3.out 2
    have a0:=cell_at XA3.out 0
    have a1:=cell_at XA3.out 1
    have a2:=cell_at XA3.out 2
    have a3:=cell_at XA3.out 3
    have zx:=szs (block_lt X3.out)
    have za:=szs (block_lt XA3.out)
    have u0:=UC3.out
    have zo:=szs (cell_lt u0)
    go_wp2_with fail
    (refine region_drawn 16 mixed (by kernel_rfl) ?_;simp only[List.take_succ_cons,List.take_zero,List.drop_succ_cons,List.drop_zero];(repeat (any_goals (first | go_big_quiet_step (fail) | quiet_step (fail) | (refine wpQuiet_step (fun K hK=>?_);go_simp;split <;> (refine hK _ ?_;clear hK K)))));(all_goals (refine wpQuiet_nil (fun nq=>?_))))
    have B4:Hid (Below (World.heap w3).size w3 (World.drewN w3 nq)):=Lib.hid (by (repeat' (first | with_reducible (first | exact Below.refl _ _ | assumption | refine Below.drew ?_ | refine below_drewN ?_ _ | refine Below.alloc ?_ ?_ _ | refine Below.setCell ?_ ?_ _) | go_size)))
    obtain ⟨w4,hw7⟩:∃ w7,w7 = World.drewN w3 nq:=⟨_,rfl⟩
    rw[←hw7] at B4 ⊢
    clear hw7
    have M4:=Lib.hid (M3.out.below B4.out)
    have F4:=Lib.hid (F3.out.trans (Off.of_below B4.out) (fun q hq h=>h))
    have X4:=Lib.hid ((B4.out.block _ (block_lt X3.out)).trans X3.out)
    have XA4:=Lib.hid ((B4.out.block _ (block_lt XA3.out)).trans XA3.out)
    have UC4:=Lib.hid (cell_kept B4.out UC3.out)
    clear v0 v1 v2 a0 a1 a2 a3 zx za u0 zo M3 F3 X3 XA3 UC3
    have v0:=cell_at X4.out 0
    have v1:=cell_at X4.out 1
    have v2:=cell_at X4.out 2
    have a0:=cell_at XA4.out 0
    have a1:=cell_at XA4.out 1
    have a2:=cell_at XA4.out 2
    have a3:=cell_at XA4.out 3
    have zx:=szs (block_lt X4.out)
    have za:=szs (block_lt XA4.out)
    have u0:=UC4.out
    have zo:=szs (cell_lt u0)
    have wy:wrap64 (yc - y) = yc - y:=by unfold wrap64;omega
    go_wp2_with fail
    refine (visitP w0 qs gs qd qg N S (D:Int) g yf yt i (yc - y) 0 true w4 M4.out (by omega) (by omega) hN (by omega)).mono ?_
    rintro e w5 ⟨rfl,hr5⟩
    obtain ⟨S5,g5,r1,r2,r3⟩:=hr5.out
    have M5:=Lib.hid r1
    have V5:Hid (VisI A on m N a S5 D U g5):=Lib.hid (HV.out.next r2 (by omega) (by omega) hlt (by omega) (Or.inl ⟨rfl,by rw[HYA.out],by rw[HYA.out],by rw[HYA.out,←HY.out]⟩))
    have F5:=Lib.hid (F4.out.trans r3 (fun q hq h=>h))
    have XR:=Lib.hid ((r3.block _ (block_lt X4.out) (fun e=>e.elim hsep.out.1 hsep.out.2)).trans X4.out)
    have XA:=Lib.hid ((r3.block _ (block_lt XA4.out) (fun e=>e.elim HQS.out.1 HQS.out.2)).trans XA4.out)
    have UC:=Lib.hid (Off.cell r3 UC4.out (fun e=>e.elim (fun e=>by have h1:=HG2.out;have h2:=(World.ownsRow.lt r1.row gs rfl).1;have e:g2 = gs:=e;omega) (fun e=>by have h1:=HG2.out;have h2:=r1.sep.2.2.2.2.2;have e:g2 = qg:=e;omega)))
    clear hr5 r1 r2 r3 M4 F4 X4 XA4 UC4 v0 v1 v2 a0 a1 a2 a3 zx za u0 zo HV
    have v0:=cell_at XR.out 0
    have v1:=cell_at XR.out 1
    have v2:=cell_at XR.out 2
    have a0:=cell_at XA.out 0
    have a1:=cell_at XA.out 1
    have a2:=cell_at XA.out 2
    have a3:=cell_at XA.out 3
    have zx:=szs (block_lt XR.out)
    have za:=szs (block_lt XA.out)
    have u0:=UC.out
    have zo:=szs (cell_lt u0)
    clear UC
    by_cases ky:0 < y
    ·have d5:decide (y > 0) = true:=decide_eq_true ky
     have d5o:decide (0 < y) = true:=decide_eq_true ky
     go_wp2_with fail
     (refine region_drawn 14 mixed (by kernel_rfl) ?_;simp only[List.take_succ_cons,List.take_zero,List.drop_succ_cons,List.drop_zero];(repeat (any_goals (first | go_big_quiet_step (fail) | quiet_step (fail) | (refine wpQuiet_step (fun K hK=>?_);go_simp;split <;> (refine hK _ ?_;clear hK K)))));(all_goals (refine wpQuiet_nil (fun nq=>?_))))
     have BQ:Hid (Below (World.heap w5).size w5 (World.drewN w5 nq)):=Lib.hid (by (repeat' (first | with_reducible (first | exact Below.refl _ _ | assumption | refine Below.drew ?_ | refine below_drewN ?_ _ | refine Below.alloc ?_ ?_ _ | refine Below.setCell ?_ ?_ _) | go_size)))
     obtain ⟨w7,hw7⟩:∃ w7,w7 = World.drewN w5 nq:=⟨_,rfl⟩
     rw[←hw7] at BQ ⊢
     clear hw7
     have M7:=Lib.hid (M5.out.below BQ.out)
     clear v0 v1 v2 a0 a1 a2 a3 zx za u0 zo
     go_wp2_with fail
     refine (visitP w0 qs gs qd qg N _ (D:Int) _ yt yf i y _ false w7 M7.out (by omega) (by omega) hN (by omega)).mono ?_
     rintro e w8 ⟨rfl,hr8⟩
     have E8:Hid (EachP w0 qs gs qd qg N m a A on D U w1 w8):=Lib.hid (by
      obtain ⟨S8,g8,r1,r2,r3⟩:=hr8.out
      refine ⟨S8,g8,r1,V5.out.next r2 (by omega) (by omega) hlt (by omega) (Or.inr ⟨rfl,?_,?_,HY.out⟩),(F5.out.trans (Off.of_below BQ.out) (fun q hq h=>h)).trans r3 (fun q hq h=>h)⟩ <;> rw[HYA.out])
     clear hr8
     go_wp2_with fail
     try (refine onlyN_intro ?_;go_wp2_with fail)
     go_roundw
     case rel=>first | exact ⟨_,_,_,⟨i+1,by go_num,by omega⟩,rfl,rfl,rfl⟩ | exact ⟨_,_,_,⟨i+1,by go_num,by omega,E8⟩,rfl,rfl,rfl⟩ | (repeat (first | exact rfl | refine And.intro (⟨i+1,by go_num,by omega,E8⟩) ?_ | apply Exists.intro)) | trace_state
     case measure=>simp [intOf] <;> omega
    ·have d5:decide (y > 0) = false:=decide_eq_false ky
     have d5o:decide (0 < y) = false:=decide_eq_false ky
     have E8:Hid (EachP w0 qs gs qd qg N m a A on D U w1 w5):=Lib.hid ⟨_,_,M5.out,V5.out,F5.out⟩
     go_wp2_with fail
     go_roundw
     case rel=>first | exact ⟨_,_,_,⟨i+1,by go_num,by omega⟩,rfl,rfl,rfl⟩ | exact ⟨_,_,_,⟨i+1,by go_num,by omega,E8⟩,rfl,rfl,rfl⟩ | (repeat (first | exact rfl | refine And.intro (⟨i+1,by go_num,by omega,E8⟩) ?_ | apply Exists.intro)) | trace_state
     case measure=>simp [intOf] <;> omega
   ·have d4:decide (y < yc) = false:=decide_eq_false ka
    go_wp2_with fail
    (refine region_all (fun i:Nat=>World.drewN _ i) mixed (by kernel_rfl) ⟨1,rfl⟩ ?_;(repeat (any_goals (first | go_big_quiet_step (fail) | quiet_step (fail) | (refine wpQuiet_step (fun K hK=>?_);go_simp;split <;> (refine hK _ ?_;clear hK K)))));(all_goals (refine wpQuiet_nil (fun nq=>?_))))
    have B3:Hid (Below (World.heap w2).size w2 (World.drewN w2 nq)):=Lib.hid (by (repeat' (first | with_reducible (first | exact Below.refl _ _ | assumption | refine Below.drew ?_ | refine below_drewN ?_ _ | refine Below.alloc ?_ ?_ _ | refine Below.setCell ?_ ?_ _) | go_size)))
    obtain ⟨w3,hw7⟩:∃ w7,w7 = World.drewN w2 nq:=⟨_,rfl⟩
    rw[←hw7] at B3 ⊢
    clear hw7
    have M3:=Lib.hid (M2.out.below B3.out)
    have F3:=Lib.hid (F2.out.trans (Off.of_below B3.out) (fun q hq h=>h))
    have XR:=Lib.hid ((B3.out.block _ (block_lt X2.out)).trans X2.out)
    have XA:=Lib.hid ((B3.out.block _ (block_lt X1.out)).trans X1.out)
    have UC:=Lib.hid (cell_kept B3.out UC2.out)
    clear v0 v1 v2 a0 a1 a2 a3 zx za u0 zo M2 F2 X2 X1 UC2
    have v0:=cell_at XR.out 0
    have v1:=cell_at XR.out 1
    have v2:=cell_at XR.out 2
    have a0:=cell_at XA.out 0
    have a1:=cell_at XA.out 1
    have a2:=cell_at XA.out 2
    have a3:=cell_at XA.out 3
    have zx:=szs (block_lt XR.out)
    have za:=szs (block_lt XA.out)
    have u0:=UC.out
    have zo:=szs (cell_lt u0)
    clear v0 v1 v2 a0 a1 a2 a3 zx za u0 zo
    have v0:=cell_at XR.out 0
    have v1:=cell_at XR.out 1
    have v2:=cell_at XR.out 2
    have a0:=cell_at XA.out 0
    have a1:=cell_at XA.out 1
    have a2:=cell_at XA.out 2
    have a3:=cell_at XA.out 3
    have zx:=szs (block_lt XR.out)
    have za:=szs (block_lt XA.out)
    have u0:=UC.out
    have zo:=szs (cell_lt u0)
    clear UC
    by_cases ky:0 < y
    ·have d5:decide (y > 0) = true:=decide_eq_true ky
     have d5o:decide (0 < y) = true:=decide_eq_true ky
     go_wp2_with fail
     (refine region_drawn 14 mixed (by kernel_rfl) ?_;simp only[List.take_succ_cons,List.take_zero,List.drop_succ_cons,List.drop_zero];(repeat (any_goals (first | go_big_quiet_step (fail) | quiet_step (fail) | (refine wpQuiet_step (fun K hK=>?_);go_simp;split <;> (refine hK _ ?_;clear hK K)))));(all_goals (refine wpQuiet_nil (fun nq=>?_))))
     have BQ:Hid (Below (World.heap w3).size w3 (World.drewN w3 nq)):=Lib.hid (by (repeat' (first | with_reducible (first | exact Below.refl _ _ | assumption | refine Below.drew ?_ | refine below_drewN ?_ _ | refine Below.alloc ?_ ?_ _ | refine Below.setCell ?_ ?_ _) | go_size)))
     obtain ⟨w7,hw7⟩:∃ w7,w7 = World.drewN w3 nq:=⟨_,rfl⟩
     rw[←hw7] at BQ ⊢
     clear hw7
     have M7:=Lib.hid (M3.out.below BQ.out)
     clear v0 v1 v2 a0 a1 a2 a3 zx za u0 zo
     go_wp2_with fail
     refine (visitP w0 qs gs qd qg N _ (D:Int) _ yt yf i y _ false w7 M7.out (by omega) (by omega) hN (by omega)).mono ?_
     rintro e w8 ⟨rfl,hr8⟩
     have E8:Hid (EachP w0 qs gs qd qg N m a A on D U w1 w8):=Lib.hid (by
      obtain ⟨S8,g8,r1,r2,r3⟩:=hr8.out
      refine ⟨S8,g8,r1,HV.out.next r2 (by omega) (by omega) hlt (by omega) (Or.inr ⟨rfl,?_,?_,HY.out⟩),(F3.out.trans (Off.of_below BQ.out) (fun q hq h=>h)).trans r3 (fun q hq h=>h)⟩ <;> rw[HYA.out])
     clear hr8
     go_wp2_with fail
     try (refine onlyN_intro ?_;go_wp2_with fail)
     go_roundw
     case rel=>first | exact ⟨_,_,_,⟨i+1,by go_num,by omega⟩,rfl,rfl,rfl⟩ | exact ⟨_,_,_,⟨i+1,by go_num,by omega,E8⟩,rfl,rfl,rfl⟩ | (repeat (first | exact rfl | refine And.intro (⟨i+1,by go_num,by omega,E8⟩) ?_ | apply Exists.intro)) | trace_state
     case measure=>simp [intOf] <;> omega
    ·have d5:decide (y > 0) = false:=decide_eq_false ky
     have d5o:decide (0 < y) = false:=decide_eq_false ky
     have E8:Hid (EachP w0 qs gs qd qg N m a A on D U w1 w3):=Lib.hid ⟨_,_,M3.out,HV.out,F3.out⟩
     go_wp2_with fail
     go_roundw
     case rel=>first | exact ⟨_,_,_,⟨i+1,by go_num,by omega⟩,rfl,rfl,rfl⟩ | exact ⟨_,_,_,⟨i+1,by go_num,by omega,E8⟩,rfl,rfl,rfl⟩ | (repeat (first | exact rfl | refine And.intro (⟨i+1,by go_num,by omega,E8⟩) ?_ | apply Exists.intro)) | trace_state
     case measure=>simp [intOf] <;> omega
  ·have t3:decide ((i:Int) < (m:Int)) = false:=decide_eq_false (by omega)
   have t3n:decide (i < m) = false:=decide_eq_false (by omega)
   obtain rfl:i = m:=by omega
   go_wp2_with fail
   go_returns
   exact ⟨rfl,S,g,HM.out,HV.out,(Off.of_below B0.out).trans HF.out (fun q hq e=>e)⟩
end Go.Proofs.YtdpoppilnokniaaGreatDoor
