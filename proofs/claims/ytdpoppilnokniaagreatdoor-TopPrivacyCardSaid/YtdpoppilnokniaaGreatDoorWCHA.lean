/- Theorems of this seat. -/
import Derived.Test.YtdpoppilnokniaaGreatDoorWSTB
import Derived.Test.YtdpoppilnokniaaGreatDoorWEVA
import Derived.BigQuiet
import Derived.WalkLawsBesides
import Derived.BigRegion
namespace Go.Proofs.YtdpoppilnokniaaGreatDoor
open Go.RowKit Go.ChangeShapes Go.WideShapes Go.Deep
set_option linter.unusedVariables false
set_option linter.unusedSimpArgs false
def validB (a b:Int):Bool:=decide (0≤a) && (decide (a≤b) && decide (b≤4294943999))
set_option maxHeartbeats 4000000 in
theorem valid95 (a b:Int) (w:World):Calls Tryz.prog 95 #[.agg #[.int .i64 a,.int .i64 b]] w fun e w'=>e = .returned (.bool (validB a b))∧Below w.heap.size w w':=by
 have BB:Hid (Below w.heap.size w (w.alloc (.cells #[.int .i64 a,.int .i64 b] 65))):=Lib.hid (by (repeat' (first | with_reducible (first | exact Below.refl _ _ | assumption | refine Below.drew ?_ | refine below_drewN ?_ _ | refine Below.alloc ?_ ?_ _ | refine Below.setCell ?_ ?_ _) | go_size)))
 obtain ⟨r,hr⟩:∃ r,r = validB a b:=⟨_,rfl⟩
 rw[←hr]
 unfold validB at hr
 by_cases h1:0≤a
 ·have t1:decide (a≥0) = true:=decide_eq_true h1
  have t1':decide (0≤a) = true:=decide_eq_true h1
  rw[t1'] at hr
  by_cases h2:a≤b
  ·have t2:decide (a≤b) = true:=decide_eq_true h2
   rw[t2] at hr
   by_cases h3:b≤4294943999
   ·have t3:decide (b≤4294943999) = true:=decide_eq_true h3
    rw[t3] at hr
    simp only[Bool.true_and,Bool.and_self,Bool.and_false,Bool.false_and,Bool.and_true] at hr
    subst hr
    go_enter Tryz.func95,Tryz.ntmps95
    go_wp2_with fail
    go_returns
    exact ⟨rfl,BB.out⟩
   ·have t3:decide (b≤4294943999) = false:=decide_eq_false h3
    rw[t3] at hr
    simp only[Bool.true_and,Bool.and_self,Bool.and_false,Bool.false_and,Bool.and_true] at hr
    subst hr
    go_enter Tryz.func95,Tryz.ntmps95
    go_wp2_with fail
    go_returns
    exact ⟨rfl,BB.out⟩
  ·have t2:decide (a≤b) = false:=decide_eq_false h2
   rw[t2] at hr
   simp only[Bool.true_and,Bool.false_and] at hr
   subst hr
   go_enter Tryz.func95,Tryz.ntmps95
   go_wp2_with fail
   go_returns
   exact ⟨rfl,BB.out⟩
 ·have t1:decide (a≥0) = false:=decide_eq_false h1
  have t1':decide (0≤a) = false:=decide_eq_false h1
  rw[t1'] at hr
  simp only[Bool.false_and] at hr
  subst hr
  go_enter Tryz.func95,Tryz.ntmps95
  go_wp2_with fail
  go_returns
  exact ⟨rfl,BB.out⟩
def headB (x:Rid):Bool:=decide (1≤x.id) && (decide (x.id≤1000000) && (decide (0≤x.rid) && (decide (x.rid < 128) && (validB x.s0 x.s1 && validB x.e0 x.e1))))
def rngL (L:Nat→Leg):Nat→Nat→Bool
 | 0,_=>true
 | k+1,j=>validB (L j).f0 (L j).f1 && (validB (L j).t0 (L j).t1 && rngL L k (j+1))
def rngQ (Q:Nat→Pau):Nat→Nat→Bool
 | 0,_=>true
 | k+1,j=>validB (Q j).f0 (Q j).f1 && (validB (Q j).t0 (Q j).t1 && rngQ Q k (j+1))
def rangedB (x:Rid) (L:Nat→Leg) (Q:Nat→Pau):Bool:=headB x && (rngL L x.ln 0 && rngQ Q x.pn 0)
structure RidIn (w:World) (x:Rid) (L:Nat→Leg) (Q:Nat→Pau):Prop where
 legs:Sl w 5 x.la x.ln x.lc (fun j=>lgs (L j))
 paus:Sl w 4 x.pa x.pn x.pc (fun j=>pas (Q j))
 lens:x.ln≤1000∧x.pn≤1000
theorem RidIn.below {w w':World}{x:Rid}{L:Nat→Leg}{Q:Nat→Pau}(h:RidIn w x L Q) (hb:Below w.heap.size w w'):RidIn w' x L Q:=⟨h.legs.below hb,h.paus.below hb,h.lens⟩
set_option maxRecDepth 8000 in
set_option maxHeartbeats 16000000 in
theorem ranged68 (x:Rid) (L:Nat→Leg) (Q:Nat→Pau) (w:World) (h:RidIn w x L Q):Calls Tryz.prog 68 #[.agg (rds x).toArray] w fun e w'=>e = .returned (.bool (rangedB x L Q))∧Below w.heap.size w w':=by
 obtain ⟨r,hr⟩:∃ r,r = rangedB x L Q:=⟨_,rfl⟩
 rw[←hr]
 unfold rangedB headB at hr
 have hln:=h.lens.1
 have hpn:=h.lens.2
 have hlc:=h.legs.hc
 have hlm:=h.legs.hm
 have hpc:=h.paus.hc
 have hpm:=h.paus.hm
 obtain ⟨x1,x2,x3,x4,x5,x6,x7,x8,x9,x10,x11,x12,x13,x14,x15,x16,x17⟩:=x
 dsimp only at hln hpn hlc hlm hpc hpm
 unfold rds
 dsimp only
 have BB:Hid (Below w.heap.size w (w.alloc (.cells #[.int .i64 x1,.int .i64 x2,.int .i64 x3,.int .i64 x4,.int .i64 x5,.int .i64 x6,.bool x7,.slice x8 x9 x10,.slice x11 x12 x13,.int .i64 x14,.int .i64 x15,.int .i64 x16,.int .i64 x17] 71))):=Lib.hid (by (repeat' (first | with_reducible (first | exact Below.refl _ _ | assumption | refine Below.drew ?_ | refine below_drewN ?_ _ | refine Below.alloc ?_ ?_ _ | refine Below.setCell ?_ ?_ _) | go_size)))
 have X0:=Lib.hid (al_at w (.cells #[.int .i64 x1,.int .i64 x2,.int .i64 x3,.int .i64 x4,.int .i64 x5,.int .i64 x6,.bool x7,.slice x8 x9 x10,.slice x11 x12 x13,.int .i64 x14,.int .i64 x15,.int .i64 x16,.int .i64 x17] 71) rfl)
 obtain ⟨w1,hw1⟩:∃ w1,w1 = w.alloc (.cells #[.int .i64 x1,.int .i64 x2,.int .i64 x3,.int .i64 x4,.int .i64 x5,.int .i64 x6,.bool x7,.slice x8 x9 x10,.slice x11 x12 x13,.int .i64 x14,.int .i64 x15,.int .i64 x16,.int .i64 x17] 71):=⟨_,rfl⟩
 rw[←hw1] at BB X0
 have HW:=Lib.hid hw1
 clear hw1
 have H1:=Lib.hid (h.below BB.out)
 clear h
 have c0:=cell_at X0.out 0
 have c1:=cell_at X0.out 1
 have c2:=cell_at X0.out 2
 have c3:=cell_at X0.out 3
 have c4:=cell_at X0.out 4
 have c5:=cell_at X0.out 5
 have c6:=cell_at X0.out 6
 have c7:=cell_at X0.out 7
 have c8:=cell_at X0.out 8
 have c9:=cell_at X0.out 9
 have c10:=cell_at X0.out 10
 have c11:=cell_at X0.out 11
 have c12:=cell_at X0.out 12
 have zx:=szs (block_lt X0.out)
 dsimp only at hr
 by_cases h0:x1 < 1
 ·have t0:decide (x1 < 1) = true:=decide_eq_true (by omega)
  have u0:decide (1≤x1) = false:=decide_eq_false (by omega)
  rw[u0] at hr
  simp only[Bool.false_and] at hr
  subst hr
  go_enter Tryz.func68,Tryz.ntmps68
  go_simp
  ((repeat ((fail_if_success (rw[←HW.out]));go_step));rw[←HW.out])
  go_wp2_with fail
  go_returns
  exact ⟨rfl,BB.out⟩
 have t0:decide (x1 < 1) = false:=decide_eq_false (by omega)
 have u0:decide (1≤x1) = true:=decide_eq_true (by omega)
 rw[u0] at hr
 simp only[Bool.true_and] at hr
 by_cases h1:x1 > 1000000
 ·have t1:decide (x1 > 1000000) = true:=decide_eq_true (by omega)
  have t1o:decide (1000000 < x1) = true:=decide_eq_true (by omega)
  have u1:decide (x1≤1000000) = false:=decide_eq_false (by omega)
  rw[u1] at hr
  simp only[Bool.false_and] at hr
  subst hr
  go_enter Tryz.func68,Tryz.ntmps68
  go_simp
  ((repeat ((fail_if_success (rw[←HW.out]));go_step));rw[←HW.out])
  go_wp2_with fail
  go_returns
  exact ⟨rfl,BB.out⟩
 have t1:decide (x1 > 1000000) = false:=decide_eq_false (by omega)
 have t1o:decide (1000000 < x1) = false:=decide_eq_false (by omega)
 have u1:decide (x1≤1000000) = true:=decide_eq_true (by omega)
 rw[u1] at hr
 simp only[Bool.true_and] at hr
 by_cases h2:x2 < 0
 ·have t2:decide (x2 < 0) = true:=decide_eq_true (by omega)
  have u2:decide (0≤x2) = false:=decide_eq_false (by omega)
  rw[u2] at hr
  simp only[Bool.false_and] at hr
  subst hr
  go_enter Tryz.func68,Tryz.ntmps68
  go_simp
  ((repeat ((fail_if_success (rw[←HW.out]));go_step));rw[←HW.out])
  go_wp2_with fail
  go_returns
  exact ⟨rfl,BB.out⟩
 have t2:decide (x2 < 0) = false:=decide_eq_false (by omega)
 have u2:decide (0≤x2) = true:=decide_eq_true (by omega)
 rw[u2] at hr
 simp only[Bool.true_and] at hr
 by_cases h3:x2≥128
 ·have t3:decide (x2≥128) = true:=decide_eq_true (by omega)
  have t3o:decide (128≤x2) = true:=decide_eq_true (by omega)
  have u3:decide (x2 < 128) = false:=decide_eq_false (by omega)
  rw[u3] at hr
  simp only[Bool.false_and] at hr
  subst hr
  go_enter Tryz.func68,Tryz.ntmps68
  go_simp
  ((repeat ((fail_if_success (rw[←HW.out]));go_step));rw[←HW.out])
  go_wp2_with fail
  go_returns
  exact ⟨rfl,BB.out⟩
 have t3:decide (x2≥128) = false:=decide_eq_false (by omega)
 have t3o:decide (128≤x2) = false:=decide_eq_false (by omega)
 have u3:decide (x2 < 128) = true:=decide_eq_true (by omega)
 rw[u3] at hr
 simp only[Bool.true_and] at hr
 clear h0 h1 h2 h3 u0 u1 u2 u3
 have HR:=Lib.hid hr
 clear hr
 go_enter Tryz.func68,Tryz.ntmps68
 go_simp
 ((repeat ((fail_if_success (rw[←HW.out]));go_step));rw[←HW.out])
 go_wp2_with fail
 refine (valid95 x3 x4 _).mono ?_
 rintro e w2 ⟨rfl,b2⟩
 have B2:=Lib.hid (BB.out.trans (b2.mono BB.out.size))
 have X2:=Lib.hid ((b2.block _ (block_lt X0.out)).trans X0.out)
 have H2:=Lib.hid (H1.out.below b2)
 clear b2 c0 c1 c2 c3 c4 c5 c6 c7 c8 c9 c10 c11 c12 zx H1 X0 BB HW
 have c4:=cell_at X2.out 4
 have c5:=cell_at X2.out 5
 have zx:=szs (block_lt X2.out)
 obtain ⟨va,hva⟩:∃ va,va = validB x3 x4:=⟨_,rfl⟩
 have hr:=HR.out
 rw[←hva] at hr ⊢
 clear hva HR
 cases va
 ·simp only[Bool.false_and] at hr
  subst hr
  go_wp2_with fail
  go_returns
  exact ⟨rfl,B2.out⟩
 simp only[Bool.true_and] at hr
 have HR:=Lib.hid hr
 clear hr
 go_wp2_with fail
 refine (valid95 x5 x6 _).mono ?_
 rintro e w3 ⟨rfl,b3⟩
 have B3:=Lib.hid (B2.out.trans (b3.mono B2.out.size))
 have X3:=Lib.hid ((b3.block _ (block_lt X2.out)).trans X2.out)
 have H3:=Lib.hid (H2.out.below b3)
 clear b3 c4 c5 zx H2 X2 B2
 have c7:=cell_at X3.out 7
 have c8:=cell_at X3.out 8
 have zx:=szs (block_lt X3.out)
 obtain ⟨va,hva⟩:∃ va,va = validB x5 x6:=⟨_,rfl⟩
 have hr:=HR.out
 rw[←hva] at hr ⊢
 clear hva HR
 cases va
 ·simp only[Bool.false_and] at hr
  subst hr
  go_wp2_with fail
  go_returns
  exact ⟨rfl,B3.out⟩
 simp only[Bool.true_and] at hr
 have HR:=Lib.hid hr
 clear hr
 go_wp2_with fail
 go_loopw [40] (fun s wr=>∃ j:Nat,s = .int .i64 j∧j≤x9∧Hid (r = (rngL L ((x9 - j)) j && rngQ Q x12 0))∧Hid (Below w.heap.size w wr∧RidIn wr ⟨x1,x2,x3,x4,x5,x6,x7,x8,x9,x10,x11,x12,x13,x14,x15,x16,x17⟩ L Q∧wr.heap[w.heap.size]? = some (.cells #[.int .i64 x1,.int .i64 x2,.int .i64 x3,.int .i64 x4,.int .i64 x5,.int .i64 x6,.bool x7,.slice x8 x9 x10,.slice x11 x12 x13,.int .i64 x14,.int .i64 x15,.int .i64 x16,.int .i64 x17] 71 (0,0)))) (fun s _=>x9 - (intOf s).toNat)
 case atStart=>exact ⟨0,rfl,Nat.zero_le _,by rw[Nat.sub_zero];exact HR,Lib.hid ⟨B3.out,H3.out,X3.out⟩⟩
 case round =>
  obtain ⟨j,rfl,hj,hre,hrel⟩:=hrel
  have HRE:=hre
  have HL:=hrel
  clear hre hrel HR H3 X3 B3 c7 c8 zx
  by_cases hlt:j < x9
  ·have t1:decide ((j:Int) < (x9:Int)) = true:=decide_eq_true (by omega)
   have t1n:decide (j < x9) = true:=decide_eq_true (by omega)
   obtain ⟨g,o,e9,hcell⟩:=HL.out.2.1.legs.cell hlt
   dsimp only at e9 hcell
   subst e9
   have e0:wr.cell? ⟨g,o+j * 5,none⟩ = some (.int .i64 ((L j).bike)):=hcell 0 (by decide)
   have e1:wr.cell? ⟨g,o+j * 5+1,none⟩ = some (.int .i64 ((L j).f0)):=hcell 1 (by decide)
   have e2:wr.cell? ⟨g,o+j * 5+2,none⟩ = some (.int .i64 ((L j).f1)):=hcell 2 (by decide)
   have e3:wr.cell? ⟨g,o+j * 5+3,none⟩ = some (.int .i64 ((L j).t0)):=hcell 3 (by decide)
   have e4:wr.cell? ⟨g,o+j * 5+4,none⟩ = some (.int .i64 ((L j).t1)):=hcell 4 (by decide)
   have zg:=szs (cell_lt e0)
   have BN:Hid (Below wr.heap.size wr (wr.alloc (.cells #[.int .i64 ((L j).bike),.int .i64 ((L j).f0),.int .i64 ((L j).f1),.int .i64 ((L j).t0),.int .i64 ((L j).t1)] 67))):=Lib.hid (by (repeat' (first | with_reducible (first | exact Below.refl _ _ | assumption | refine Below.drew ?_ | refine below_drewN ?_ _ | refine Below.alloc ?_ ?_ _ | refine Below.setCell ?_ ?_ _) | go_size)))
   have XN:=Lib.hid (al_at wr (.cells #[.int .i64 ((L j).bike),.int .i64 ((L j).f0),.int .i64 ((L j).f1),.int .i64 ((L j).t0),.int .i64 ((L j).t1)] 67) rfl)
   obtain ⟨wn,hwn⟩:∃ wn,wn = wr.alloc (.cells #[.int .i64 ((L j).bike),.int .i64 ((L j).f0),.int .i64 ((L j).f1),.int .i64 ((L j).t0),.int .i64 ((L j).t1)] 67):=⟨_,rfl⟩
   rw[←hwn] at BN XN
   have HWN:=Lib.hid hwn
   clear hwn hcell
   have n0:=cell_at XN.out 1
   have n1:=cell_at XN.out 2
   have n2:=cell_at XN.out 3
   have n3:=cell_at XN.out 4
   have zn:=szs (block_lt XN.out)
   go_simp
   ((repeat ((fail_if_success (rw[←HWN.out]));go_step));rw[←HWN.out])
   clear e0 e1 e2 e3 e4 zg
   go_wp2_with fail
   refine (valid95 _ _ _).mono ?_
   rintro e wp ⟨rfl,bp⟩
   have p2:=cell_kept bp n2
   have p3:=cell_kept bp n3
   try dsimp only at p2 p3
   have zp:=szs (Nat.lt_of_lt_of_le zn.1 bp.size)
   have BP:=Lib.hid (BN.out.trans (bp.mono BN.out.size))
   clear bp n0 n1 n2 n3 zn XN HWN BN
   have hre:=HRE.out
   obtain ⟨k,hk⟩:∃ k,x9 - j = k+1:=⟨x9 - j - 1,by omega⟩
   rw[hk] at hre
   unfold rngL at hre
   obtain ⟨va,hva⟩:∃ va,va = validB ((L j).f0) ((L j).f1):=⟨_,rfl⟩
   rw[←hva] at hre ⊢
   clear hva HRE
   cases va
   ·simp only[Bool.false_and] at hre
    subst hre
    go_wp2_with fail
    go_returns
    exact ⟨rfl,HL.out.1.trans (BP.out.mono HL.out.1.size)⟩
   simp only[Bool.true_and] at hre
   have HRE:=Lib.hid hre
   clear hre
   go_wp2_with fail
   refine (valid95 _ _ _).mono ?_
   rintro e wq ⟨rfl,bq⟩
   have BQ:=Lib.hid (BP.out.trans (bq.mono BP.out.size))
   clear bq p2 p3 zp BP
   have hre:=HRE.out
   obtain ⟨va,hva⟩:∃ va,va = validB ((L j).t0) ((L j).t1):=⟨_,rfl⟩
   rw[←hva] at hre ⊢
   clear hva HRE
   cases va
   ·simp only[Bool.false_and] at hre
    subst hre
    go_wp2_with fail
    go_returns
    exact ⟨rfl,HL.out.1.trans (BQ.out.mono HL.out.1.size)⟩
   simp only[Bool.true_and] at hre
   have HRE:Hid (r = (rngL L (x9 - (j+1)) (j+1) && rngQ Q x12 0)):=Lib.hid (by rw[show x9 - (j+1) = k by omega];exact hre)
   have HL2:=Lib.hid (And.intro (HL.out.1.trans (BQ.out.mono HL.out.1.size)) (And.intro (HL.out.2.1.below BQ.out) ((BQ.out.block _ (block_lt HL.out.2.2)).trans HL.out.2.2)))
   clear hre hk HL BQ
   go_wp2_with fail
   go_roundw
   case rel=>exact ⟨_,_,_,⟨j+1,by go_num,by omega,HRE,HL2⟩,_,_,_,_,_,_,_,_,_,_,_,_,_,_,rfl⟩
   case measure=>simp [intOf] <;> omega
  ·have t1:decide ((j:Int) < (x9:Int)) = false:=decide_eq_false (by omega)
   have t1n:decide (j < x9) = false:=decide_eq_false (by omega)
   have hre:=HRE.out
   rw[show x9 - j = 0 by omega] at hre
   unfold rngL at hre
   try simp only[Bool.true_and] at hre
   have HP:=Lib.hid hre
   have HL1:=HL
   clear hre HRE HL hlt
   have c8:=cell_at HL1.out.2.2 8
   have zx:=szs (block_lt HL1.out.2.2)
   go_wp2_with fail
   go_loopw [58] (fun s wr=>∃ j:Nat,s = .int .i64 j∧j≤x12∧Hid (r = (rngQ Q ((x12 - j)) j))∧Hid (Below w.heap.size w wr∧RidIn wr ⟨x1,x2,x3,x4,x5,x6,x7,x8,x9,x10,x11,x12,x13,x14,x15,x16,x17⟩ L Q∧wr.heap[w.heap.size]? = some (.cells #[.int .i64 x1,.int .i64 x2,.int .i64 x3,.int .i64 x4,.int .i64 x5,.int .i64 x6,.bool x7,.slice x8 x9 x10,.slice x11 x12 x13,.int .i64 x14,.int .i64 x15,.int .i64 x16,.int .i64 x17] 71 (0,0)))) (fun s _=>x12 - (intOf s).toNat)
   case atStart=>exact ⟨0,rfl,Nat.zero_le _,by rw[Nat.sub_zero];exact HP,Lib.hid ⟨HL1.out.1,HL1.out.2.1,HL1.out.2.2⟩⟩
   case round =>
    obtain ⟨j,rfl,hj,hre,hrel⟩:=hrel
    have HRE:=hre
    have HL:=hrel
    clear hre hrel HL1 HP
    by_cases hlt:j < x12
    ·have t1:decide ((j:Int) < (x12:Int)) = true:=decide_eq_true (by omega)
     have t1n:decide (j < x12) = true:=decide_eq_true (by omega)
     obtain ⟨g,o,e9,hcell⟩:=HL.out.2.1.paus.cell hlt
     dsimp only at e9 hcell
     subst e9
     have e0:wr.cell? ⟨g,o+j * 4,none⟩ = some (.int .i64 ((Q j).f0)):=hcell 0 (by decide)
     have e1:wr.cell? ⟨g,o+j * 4+1,none⟩ = some (.int .i64 ((Q j).f1)):=hcell 1 (by decide)
     have e2:wr.cell? ⟨g,o+j * 4+2,none⟩ = some (.int .i64 ((Q j).t0)):=hcell 2 (by decide)
     have e3:wr.cell? ⟨g,o+j * 4+3,none⟩ = some (.int .i64 ((Q j).t1)):=hcell 3 (by decide)
     have zg:=szs (cell_lt e0)
     have BN:Hid (Below wr.heap.size wr (wr.alloc (.cells #[.int .i64 ((Q j).f0),.int .i64 ((Q j).f1),.int .i64 ((Q j).t0),.int .i64 ((Q j).t1)] 108))):=Lib.hid (by (repeat' (first | with_reducible (first | exact Below.refl _ _ | assumption | refine Below.drew ?_ | refine below_drewN ?_ _ | refine Below.alloc ?_ ?_ _ | refine Below.setCell ?_ ?_ _) | go_size)))
     have XN:=Lib.hid (al_at wr (.cells #[.int .i64 ((Q j).f0),.int .i64 ((Q j).f1),.int .i64 ((Q j).t0),.int .i64 ((Q j).t1)] 108) rfl)
     obtain ⟨wn,hwn⟩:∃ wn,wn = wr.alloc (.cells #[.int .i64 ((Q j).f0),.int .i64 ((Q j).f1),.int .i64 ((Q j).t0),.int .i64 ((Q j).t1)] 108):=⟨_,rfl⟩
     rw[←hwn] at BN XN
     have HWN:=Lib.hid hwn
     clear hwn hcell
     have n0:=cell_at XN.out 0
     have n1:=cell_at XN.out 1
     have n2:=cell_at XN.out 2
     have n3:=cell_at XN.out 3
     have zn:=szs (block_lt XN.out)
     go_simp
     ((repeat ((fail_if_success (rw[←HWN.out]));go_step));rw[←HWN.out])
     clear e0 e1 e2 e3 zg
     go_wp2_with fail
     refine (valid95 _ _ _).mono ?_
     rintro e wp ⟨rfl,bp⟩
     have p2:=cell_kept bp n2
     have p3:=cell_kept bp n3
     try dsimp only at p2 p3
     have zp:=szs (Nat.lt_of_lt_of_le zn.1 bp.size)
     have BP:=Lib.hid (BN.out.trans (bp.mono BN.out.size))
     clear bp n0 n1 n2 n3 zn XN HWN BN
     have hre:=HRE.out
     obtain ⟨k,hk⟩:∃ k,x12 - j = k+1:=⟨x12 - j - 1,by omega⟩
     rw[hk] at hre
     unfold rngQ at hre
     obtain ⟨va,hva⟩:∃ va,va = validB ((Q j).f0) ((Q j).f1):=⟨_,rfl⟩
     rw[←hva] at hre ⊢
     clear hva HRE
     cases va
     ·simp only[Bool.false_and] at hre
      subst hre
      go_wp2_with fail
      go_returns
      exact ⟨rfl,HL.out.1.trans (BP.out.mono HL.out.1.size)⟩
     simp only[Bool.true_and] at hre
     have HRE:=Lib.hid hre
     clear hre
     go_wp2_with fail
     refine (valid95 _ _ _).mono ?_
     rintro e wq ⟨rfl,bq⟩
     have BQ:=Lib.hid (BP.out.trans (bq.mono BP.out.size))
     clear bq p2 p3 zp BP
     have hre:=HRE.out
     obtain ⟨va,hva⟩:∃ va,va = validB ((Q j).t0) ((Q j).t1):=⟨_,rfl⟩
     rw[←hva] at hre ⊢
     clear hva HRE
     cases va
     ·simp only[Bool.false_and] at hre
      subst hre
      go_wp2_with fail
      go_returns
      exact ⟨rfl,HL.out.1.trans (BQ.out.mono HL.out.1.size)⟩
     simp only[Bool.true_and] at hre
     have HRE:Hid (r = (rngQ Q (x12 - (j+1)) (j+1))):=Lib.hid (by rw[show x12 - (j+1) = k by omega];exact hre)
     have HL2:=Lib.hid (And.intro (HL.out.1.trans (BQ.out.mono HL.out.1.size)) (And.intro (HL.out.2.1.below BQ.out) ((BQ.out.block _ (block_lt HL.out.2.2)).trans HL.out.2.2)))
     clear hre hk HL BQ
     go_wp2_with fail
     go_roundw
     case rel=>exact ⟨_,_,_,⟨j+1,by go_num,by omega,HRE,HL2⟩,_,_,_,_,_,_,_,_,_,_,_,_,_,_,rfl⟩
     case measure=>simp [intOf] <;> omega
    ·have t1:decide ((j:Int) < (x12:Int)) = false:=decide_eq_false (by omega)
     have t1n:decide (j < x12) = false:=decide_eq_false (by omega)
     have hre:=HRE.out
     rw[show x12 - j = 0 by omega] at hre
     unfold rngQ at hre
     try simp only[Bool.true_and] at hre
     subst hre
     go_wp2_with fail
     go_returns
     exact ⟨rfl,HL.out.1⟩
end Go.Proofs.YtdpoppilnokniaaGreatDoor
namespace Go.Proofs.YtdpoppilnokniaaGreatDoor
open Go.RowKit Go.ChangeShapes Go.WideShapes Go.Deep
set_option linter.unusedVariables false
set_option linter.unusedSimpArgs false
def joinL (L:Nat→Leg) (e0 e1:Int):Nat→Nat→Int→Int→Bool
 | 0,_,a,b=>(a == e0) && (b == e1)
 | k+1,j,a,b=>((L j).f0 == a) && (((L j).f1 == b) && joinL L e0 e1 k (j+1) (L j).t0 (L j).t1)
def joinedB (x:Rid) (L:Nat→Leg):Bool:=decide (1≤x.ln) && (decide (x.ln≤512) && (decide (x.pn≤512) && joinL L x.e0 x.e1 x.ln 0 x.s0 x.s1))
set_option maxRecDepth 8000 in
set_option maxHeartbeats 16000000 in
theorem joined69 (x:Rid) (L:Nat→Leg) (Q:Nat→Pau) (w:World) (h:RidIn w x L Q):Calls Tryz.prog 69 #[.agg (rds x).toArray] w fun e w'=>e = .returned (.bool (joinedB x L))∧Below w.heap.size w w':=by
 obtain ⟨r,hr⟩:∃ r,r = joinedB x L:=⟨_,rfl⟩
 rw[←hr]
 unfold joinedB at hr
 have hln:=h.lens.1
 have hpn:=h.lens.2
 have hlc:=h.legs.hc
 have hlm:=h.legs.hm
 have hpc:=h.paus.hc
 have hpm:=h.paus.hm
 obtain ⟨x1,x2,x3,x4,x5,x6,x7,x8,x9,x10,x11,x12,x13,x14,x15,x16,x17⟩:=x
 dsimp only at hln hpn hlc hlm hpc hpm
 unfold rds
 dsimp only
 have BB:Hid (Below w.heap.size w (w.alloc (.cells #[.int .i64 x1,.int .i64 x2,.int .i64 x3,.int .i64 x4,.int .i64 x5,.int .i64 x6,.bool x7,.slice x8 x9 x10,.slice x11 x12 x13,.int .i64 x14,.int .i64 x15,.int .i64 x16,.int .i64 x17] 71))):=Lib.hid (by (repeat' (first | with_reducible (first | exact Below.refl _ _ | assumption | refine Below.drew ?_ | refine below_drewN ?_ _ | refine Below.alloc ?_ ?_ _ | refine Below.setCell ?_ ?_ _) | go_size)))
 have X0:=Lib.hid (al_at w (.cells #[.int .i64 x1,.int .i64 x2,.int .i64 x3,.int .i64 x4,.int .i64 x5,.int .i64 x6,.bool x7,.slice x8 x9 x10,.slice x11 x12 x13,.int .i64 x14,.int .i64 x15,.int .i64 x16,.int .i64 x17] 71) rfl)
 obtain ⟨w1,hw1⟩:∃ w1,w1 = w.alloc (.cells #[.int .i64 x1,.int .i64 x2,.int .i64 x3,.int .i64 x4,.int .i64 x5,.int .i64 x6,.bool x7,.slice x8 x9 x10,.slice x11 x12 x13,.int .i64 x14,.int .i64 x15,.int .i64 x16,.int .i64 x17] 71):=⟨_,rfl⟩
 rw[←hw1] at BB X0
 have HW:=Lib.hid hw1
 clear hw1
 have H1:=Lib.hid h
 clear h
 have c2:=cell_at X0.out 2
 have c3:=cell_at X0.out 3
 have c7:=cell_at X0.out 7
 have c8:=cell_at X0.out 8
 have zx:=szs (block_lt X0.out)
 dsimp only at hr
 by_cases h0:(x9:Int) < 1
 ·have t0:decide ((x9:Int) < 1) = true:=decide_eq_true h0
  rw[decide_eq_false (show ¬ 1≤x9 by omega)] at hr
  simp only[Bool.false_and] at hr
  subst hr
  go_enter Tryz.func69,Tryz.ntmps69
  go_simp
  ((repeat ((fail_if_success (rw[←HW.out]));go_step));rw[←HW.out])
  go_wp2_with fail
  go_returns
  exact ⟨rfl,BB.out⟩
 have t0:decide ((x9:Int) < 1) = false:=decide_eq_false h0
 rw[decide_eq_true (show 1≤x9 by omega)] at hr
 by_cases h1:(x9:Int) > 512
 ·have t1:decide ((x9:Int) > 512) = true:=decide_eq_true h1
  have t1o:decide (512 < (x9:Int)) = true:=decide_eq_true h1
  rw[decide_eq_false (show ¬ x9≤512 by omega)] at hr
  simp only[Bool.false_and,Bool.true_and] at hr
  subst hr
  go_enter Tryz.func69,Tryz.ntmps69
  go_simp
  ((repeat ((fail_if_success (rw[←HW.out]));go_step));rw[←HW.out])
  go_wp2_with fail
  go_returns
  exact ⟨rfl,BB.out⟩
 have t1:decide ((x9:Int) > 512) = false:=decide_eq_false h1
 have t1o:decide (512 < (x9:Int)) = false:=decide_eq_false h1
 rw[decide_eq_true (show x9≤512 by omega)] at hr
 by_cases h2:(x12:Int) > 512
 ·have t2:decide ((x12:Int) > 512) = true:=decide_eq_true h2
  have t2o:decide (512 < (x12:Int)) = true:=decide_eq_true h2
  rw[decide_eq_false (show ¬ x12≤512 by omega)] at hr
  simp only[Bool.false_and,Bool.true_and] at hr
  subst hr
  go_enter Tryz.func69,Tryz.ntmps69
  go_simp
  ((repeat ((fail_if_success (rw[←HW.out]));go_step));rw[←HW.out])
  go_wp2_with fail
  go_returns
  exact ⟨rfl,BB.out⟩
 have t2:decide ((x12:Int) > 512) = false:=decide_eq_false h2
 have t2o:decide (512 < (x12:Int)) = false:=decide_eq_false h2
 rw[decide_eq_true (show x12≤512 by omega)] at hr
 simp only[Bool.true_and] at hr
 have HR:=Lib.hid hr
 clear hr
 have BA:Hid (Below w1.heap.size w1 (w1.alloc (.cells #[.int .i64 x3,.int .i64 x4] 65))):=Lib.hid (by (repeat' (first | with_reducible (first | exact Below.refl _ _ | assumption | refine Below.drew ?_ | refine below_drewN ?_ _ | refine Below.alloc ?_ ?_ _ | refine Below.setCell ?_ ?_ _) | go_size)))
 have XA:=Lib.hid (al_at w1 (.cells #[.int .i64 x3,.int .i64 x4] 65) rfl)
 obtain ⟨wa,hwa⟩:∃ wa,wa = w1.alloc (.cells #[.int .i64 x3,.int .i64 x4] 65):=⟨_,rfl⟩
 rw[←hwa] at BA XA
 have HWA:=Lib.hid hwa
 clear hwa
 have HL0:Hid (Below w.heap.size w wa∧wa.heap[w.heap.size]? = some (.cells #[.int .i64 x1,.int .i64 x2,.int .i64 x3,.int .i64 x4,.int .i64 x5,.int .i64 x6,.bool x7,.slice x8 x9 x10,.slice x11 x12 x13,.int .i64 x14,.int .i64 x15,.int .i64 x16,.int .i64 x17] 71 (0,0))):=Lib.hid ⟨BB.out.trans (BA.out.mono BB.out.size),(BA.out.block _ (block_lt X0.out)).trans X0.out⟩
 obtain ⟨qa,hqa⟩:∃ qa,qa = w1.heap.size:=⟨_,rfl⟩
 rw[←hqa] at XA
 have HQA:=Lib.hid hqa
 have hqn:w.heap.size ≠ qa:=by rw[hqa];have:=block_lt X0.out;omega
 have hqn':qa ≠ w.heap.size:=Ne.symm hqn
 have hqge:w.heap.size≤qa:=by rw[hqa];exact Nat.le_of_lt (block_lt X0.out)
 clear hqa
 go_enter Tryz.func69,Tryz.ntmps69
 go_simp
 ((repeat ((fail_if_success (rw[←HW.out]));go_step));rw[←HW.out])
 go_simp
 ((repeat ((fail_if_success (rw[←HWA.out]));go_step));rw[←HWA.out])
 rw[←HQA.out]
 clear c2 c3 c7 c8 zx X0 BB HW HWA HQA BA
 have c7:=cell_at HL0.out.2 7
 have zx:=szs (block_lt HL0.out.2)
 go_wp2_with fail
 go_loopw [27] (fun s wr=>∃ (j:Nat) (a b:Int),s = .int .i64 j∧j≤x9∧Hid (r = joinL L x5 x6 (x9 - j) j a b)∧Hid (wr.heap[qa]? = some (.cells #[.int .i64 a,.int .i64 b] 65 (0,0)))∧Hid (Below w.heap.size w wr∧wr.heap[w.heap.size]? = some (.cells #[.int .i64 x1,.int .i64 x2,.int .i64 x3,.int .i64 x4,.int .i64 x5,.int .i64 x6,.bool x7,.slice x8 x9 x10,.slice x11 x12 x13,.int .i64 x14,.int .i64 x15,.int .i64 x16,.int .i64 x17] 71 (0,0)))) (fun s _=>x9 - (intOf s).toNat)
 case atStart=>exact ⟨0,x3,x4,rfl,Nat.zero_le _,by rw[Nat.sub_zero];exact HR,XA,HL0⟩
 case round =>
  obtain ⟨j,a,b,rfl,hj,hre,hat,hrel⟩:=hrel
  have HRE:=hre
  have HL:=hrel
  have XB:=hat
  clear hre hrel hat HR XA HL0 c7 zx
  by_cases hlt:j < x9
  ·have t3:decide ((j:Int) < (x9:Int)) = true:=decide_eq_true (by omega)
   have t3n:decide (j < x9) = true:=decide_eq_true (by omega)
   obtain ⟨g,o,e9,hcell⟩:=(H1.out.below HL.out.1).legs.cell hlt
   dsimp only at e9 hcell
   subst e9
   have e0:wr.cell? ⟨g,o+j * 5,none⟩ = some (.int .i64 ((L j).bike)):=hcell 0 (by decide)
   have e1:wr.cell? ⟨g,o+j * 5+1,none⟩ = some (.int .i64 ((L j).f0)):=hcell 1 (by decide)
   have e2:wr.cell? ⟨g,o+j * 5+2,none⟩ = some (.int .i64 ((L j).f1)):=hcell 2 (by decide)
   have e3:wr.cell? ⟨g,o+j * 5+3,none⟩ = some (.int .i64 ((L j).t0)):=hcell 3 (by decide)
   have e4:wr.cell? ⟨g,o+j * 5+4,none⟩ = some (.int .i64 ((L j).t1)):=hcell 4 (by decide)
   have zg:=szs (cell_lt e0)
   have BN:Hid (Below wr.heap.size wr (wr.alloc (.cells #[.int .i64 ((L j).bike),.int .i64 ((L j).f0),.int .i64 ((L j).f1),.int .i64 ((L j).t0),.int .i64 ((L j).t1)] 67))):=Lib.hid (by (repeat' (first | with_reducible (first | exact Below.refl _ _ | assumption | refine Below.drew ?_ | refine below_drewN ?_ _ | refine Below.alloc ?_ ?_ _ | refine Below.setCell ?_ ?_ _) | go_size)))
   have XN:=Lib.hid (al_at wr (.cells #[.int .i64 ((L j).bike),.int .i64 ((L j).f0),.int .i64 ((L j).f1),.int .i64 ((L j).t0),.int .i64 ((L j).t1)] 67) rfl)
   obtain ⟨wn,hwn⟩:∃ wn,wn = wr.alloc (.cells #[.int .i64 ((L j).bike),.int .i64 ((L j).f0),.int .i64 ((L j).f1),.int .i64 ((L j).t0),.int .i64 ((L j).t1)] 67):=⟨_,rfl⟩
   rw[←hwn] at BN XN
   have HWN:=Lib.hid hwn
   clear hwn hcell
   have hre:=HRE.out
   obtain ⟨k,hk⟩:∃ k,x9 - j = k+1:=⟨x9 - j - 1,by omega⟩
   rw[hk] at hre
   unfold joinL at hre
   have XBN:=Lib.hid ((BN.out.block _ (block_lt XB.out)).trans XB.out)
   have HN:=Lib.hid (And.intro (HL.out.1.trans (BN.out.mono HL.out.1.size)) ((BN.out.block _ (block_lt HL.out.2)).trans HL.out.2))
   have nqn:wr.heap.size ≠ qa:=by have:=block_lt XB.out;omega
   have nqn':qa ≠ wr.heap.size:=Ne.symm nqn
   have nqw:w.heap.size ≠ wr.heap.size:=by have:=block_lt HL.out.2;omega
   have a0:=cell_at XBN.out 0
   have a1:=cell_at XBN.out 1
   have fa:=fun i=>free_at XBN.out i
   have za:=szs (block_lt XBN.out)
   have n0:=cell_at XN.out 1
   have n1:=cell_at XN.out 2
   have n2:=cell_at XN.out 3
   have n3:=cell_at XN.out 4
   have zn:=szs (block_lt XN.out)
   have HHRE:=Lib.hid hre
   clear hre HRE XB
   go_simp
   ((repeat ((fail_if_success (rw[←HWN.out]));go_step));rw[←HWN.out])
   clear e0 e1 e2 e3 e4 zg HWN BN HL
   by_cases q1:(L j).f0 = a
   ·by_cases q2:(L j).f1 = b
    ·have hre:=HHRE.out
     rw[q1,q2] at hre
     simp only[beq_self_eq_true,Bool.true_and] at hre
     have HRE:Hid (r = joinL L x5 x6 (x9 - (j+1)) (j+1) (L j).t0 (L j).t1):=Lib.hid (by rw[show x9 - (j+1) = k by omega];exact hre)
     have O3:Off (fun q=>q = qa) wn ((wn.setCell ⟨qa,0,none⟩ (.int .i64 (L j).t0)).setCell ⟨qa,1,none⟩ (.int .i64 (L j).t1)):=off_set2
     have XB3:Hid (((wn.setCell ⟨qa,0,none⟩ (.int .i64 (L j).t0)).setCell ⟨qa,1,none⟩ (.int .i64 (L j).t1)).heap[qa]? = some (.cells #[.int .i64 (L j).t0,.int .i64 (L j).t1] 65 (0,0))):=Lib.hid (by
      rw[setCell_at XBN.out,setAt_setCell (block_lt XBN.out),setAt_same (block_lt XBN.out)];rfl)
     have HL3:=Lib.hid (And.intro (HN.out.1.trans (O3.toBelow HN.out.1.size (fun q hq e=>by have e:q = qa:=e;omega))) ((O3.block _ (block_lt HN.out.2) (fun e=>hqn e)).trans HN.out.2))
     clear hre HHRE O3 hk HN XN XBN
     go_wp2_with fail
     go_roundw
     case rel=>exact ⟨_,_,_,⟨j+1,by go_num,by omega,(L j).t0,(L j).t1,HRE,XB3,HL3⟩,_,_,_,_,_,_,_,_,_,_,rfl⟩
     case measure=>simp [intOf] <;> omega
    ·have u2:((L j).f1 == b) = false:=by simp [q2]
     have u3:¬ b = (L j).f1:=fun e=>q2 e.symm
     have hre:=HHRE.out
     rw[u2] at hre
     simp only[Bool.and_false,Bool.false_and] at hre
     subst hre
     clear HHRE
     go_wp2_with fail
     all_goals go_returns
     all_goals exact ⟨rfl,HN.out.1⟩
   ·have u1:((L j).f0 == a) = false:=by simp [q1]
    have hre:=HHRE.out
    rw[u1] at hre
    simp only[Bool.false_and] at hre
    subst hre
    clear HHRE
    go_wp2_with fail
    all_goals go_returns
    all_goals exact ⟨rfl,HN.out.1⟩
  ·have t3:decide ((j:Int) < (x9:Int)) = false:=decide_eq_false (by omega)
   have t3n:decide (j < x9) = false:=decide_eq_false (by omega)
   have hre:=HRE.out
   rw[show x9 - j = 0 by omega] at hre
   unfold joinL at hre
   have a0:=cell_at XB.out 0
   have a1:=cell_at XB.out 1
   have za:=szs (block_lt XB.out)
   have c4:=cell_at HL.out.2 4
   have c5:=cell_at HL.out.2 5
   have zx:=szs (block_lt HL.out.2)
   by_cases e1:a = x5
   ·subst e1
    by_cases e2:b = x6
    ·subst e2
     simp only[beq_self_eq_true,Bool.and_self] at hre
     subst hre
     go_wp2_with fail
     go_returns
     exact ⟨rfl,HL.out.1⟩
    ·have u2:(b == x6) = false:=by simp [e2]
     have u3:¬ x6 = b:=fun e=>e2 e.symm
     rw[u2] at hre
     simp only[Bool.and_false] at hre
     subst hre
     go_wp2_with fail
     all_goals go_returns
     all_goals exact ⟨rfl,HL.out.1⟩
   ·have u1:(a == x5) = false:=by simp [e1]
    rw[u1] at hre
    simp only[Bool.false_and] at hre
    subst hre
    go_wp2_with fail
    all_goals go_returns
    all_goals exact ⟨rfl,HL.out.1⟩
end Go.Proofs.YtdpoppilnokniaaGreatDoor
