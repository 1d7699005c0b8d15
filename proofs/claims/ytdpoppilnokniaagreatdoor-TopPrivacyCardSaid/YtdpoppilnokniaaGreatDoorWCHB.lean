/- Theorems of this seat. -/
import Derived.Test.YtdpoppilnokniaaGreatDoorWCHA
import Derived.BigQuiet
import Derived.WalkLawsBesides
import Derived.BigRegion
import Derived.Test.YtdpoppilnokniaaGreatDoorWKA
namespace Go.Proofs.YtdpoppilnokniaaGreatDoor
open Go.RowKit Go.ChangeShapes Go.WideShapes Go.Deep
set_option linter.unusedVariables false
set_option linter.unusedSimpArgs false
def ordL (L:Nat→Leg) (op:Bool):Nat→Nat→Bool
 | 0,_=>true
 | k+1,j=>(decide ((L j).f0≤(L j).t0) || (op && (k == 0))) && ordL L op k (j+1)
def ordQ (Q:Nat→Pau) (op:Bool) (n:Nat) (e0:Int):Nat→Nat→Int→Bool
 | 0,_,last=>op || ((n == 0) || decide (last≤e0))
 | k+1,j,last=>decide (last≤(Q j).f0) && ((op && ((k == 0) && ((Q j).t0 == 0))) || (decide ((Q j).f0≤(Q j).t0) && ordQ Q op n e0 k (j+1) (Q j).t0))
def orderedB (x:Rid) (L:Nat→Leg) (Q:Nat→Pau):Bool:=ordL L x.op x.ln 0 && ordQ Q x.op x.pn x.e0 x.pn 0 x.s0
def RideBox (w wr:World) (cs:Array Value):Prop:=Below w.heap.size w wr∧wr.heap[w.heap.size]? = some (.cells cs 71 (0,0))
set_option maxRecDepth 8000 in
set_option maxHeartbeats 32000000 in
theorem ordered70 (x:Rid) (L:Nat→Leg) (Q:Nat→Pau) (w:World) (h:RidIn w x L Q):Calls Tryz.prog 70 #[.agg (rds x).toArray] w fun e w'=>e = .returned (.bool (orderedB x L Q))∧Below w.heap.size w w':=by
 obtain ⟨r,hr⟩:∃ r,r = orderedB x L Q:=⟨_,rfl⟩
 rw[←hr]
 unfold orderedB at hr
 have hln:=h.lens.1
 have hpn:=h.lens.2
 have hlc:=h.legs.hc
 have hlm:=h.legs.hm
 have hpc:=h.paus.hc
 have hpm:=h.paus.hm
 obtain ⟨x1,x2,x3,x4,x5,x6,x7,x8,x9,x10,x11,x12,x13,x14,x15,x16,x17⟩:=x
 dsimp only at hln hpn hlc hlm hpc hpm hr
 unfold rds
 dsimp only
 have BB:Hid (Below w.heap.size w (w.alloc (.cells #[.int .i64 x1,.int .i64 x2,.int .i64 x3,.int .i64 x4,.int .i64 x5,.int .i64 x6,.bool x7,.slice x8 x9 x10,.slice x11 x12 x13,.int .i64 x14,.int .i64 x15,.int .i64 x16,.int .i64 x17] 71))):=Lib.hid (by (repeat' (first | with_reducible (first | exact Below.refl _ _ | assumption | refine Below.drew ?_ | refine below_drewN ?_ _ | refine Below.alloc ?_ ?_ _ | refine Below.setCell ?_ ?_ _) | go_size)))
 have X0:=Lib.hid (al_at w (.cells #[.int .i64 x1,.int .i64 x2,.int .i64 x3,.int .i64 x4,.int .i64 x5,.int .i64 x6,.bool x7,.slice x8 x9 x10,.slice x11 x12 x13,.int .i64 x14,.int .i64 x15,.int .i64 x16,.int .i64 x17] 71) rfl)
 obtain ⟨w1,hw1⟩:∃ w1,w1 = w.alloc (.cells #[.int .i64 x1,.int .i64 x2,.int .i64 x3,.int .i64 x4,.int .i64 x5,.int .i64 x6,.bool x7,.slice x8 x9 x10,.slice x11 x12 x13,.int .i64 x14,.int .i64 x15,.int .i64 x16,.int .i64 x17] 71):=⟨_,rfl⟩
 rw[←hw1] at BB X0
 have HW:=Lib.hid hw1
 have H1:=Lib.hid h
 have HR:=Lib.hid hr
 have HL0:Hid (RideBox w w1 #[.int .i64 x1,.int .i64 x2,.int .i64 x3,.int .i64 x4,.int .i64 x5,.int .i64 x6,.bool x7,.slice x8 x9 x10,.slice x11 x12 x13,.int .i64 x14,.int .i64 x15,.int .i64 x16,.int .i64 x17]):=Lib.hid (And.intro BB.out X0.out)
 clear hw1 h hr
 have c7:=cell_at X0.out 7
 have zx:=szs (block_lt X0.out)
 go_enter Tryz.func70,Tryz.ntmps70
 go_simp
 ((repeat ((fail_if_success (rw[←HW.out]));go_step));rw[←HW.out])
 go_wp2_with fail
 go_loopw [11] (fun s wr=>∃ j:Nat,s = .int .i64 j∧j≤x9∧Hid (r = (ordL L x7 (x9 - j) j && ordQ Q x7 x12 x5 x12 0 x3))∧Hid (RideBox w wr #[.int .i64 x1,.int .i64 x2,.int .i64 x3,.int .i64 x4,.int .i64 x5,.int .i64 x6,.bool x7,.slice x8 x9 x10,.slice x11 x12 x13,.int .i64 x14,.int .i64 x15,.int .i64 x16,.int .i64 x17])) (fun s _=>x9 - (intOf s).toNat)
 case atStart=>exact ⟨0,rfl,Nat.zero_le _,by rw[Nat.sub_zero];exact HR,HL0⟩
 case round =>
  obtain ⟨j,rfl,hj,hre,hrel⟩:=hrel
  have HRE:=hre
  have HL:=hrel
  clear hre hrel HR HL0 c7 zx X0 BB HW
  by_cases hlt:j < x9
  ·have t3:decide ((j:Int) < (x9:Int)) = true:=decide_eq_true (by omega)
   have t3n:decide (j < x9) = true:=decide_eq_true (by omega)
   obtain ⟨g,o,e9,hcell⟩:=(H1.out.below HL.out.1).legs.cell hlt
   dsimp only at e9 hcell
   subst e9
   obtain ⟨y,hy⟩:∃ y,y = L j:=⟨_,rfl⟩
   rw[←hy] at hcell
   obtain ⟨k,hk⟩:∃ k,x9 - j = k+1:=⟨x9 - j - 1,by omega⟩
   have hre:=HRE.out
   rw[hk] at hre
   unfold ordL at hre
   rw[←hy] at hre
   obtain ⟨y1,y2,y3,y4,y5⟩:=y
   dsimp only at hre
   have e0:wr.cell? ⟨g,o+j * 5,none⟩ = some (.int .i64 y1):=hcell 0 (by decide)
   have e1:wr.cell? ⟨g,o+j * 5+1,none⟩ = some (.int .i64 y2):=hcell 1 (by decide)
   have e2:wr.cell? ⟨g,o+j * 5+2,none⟩ = some (.int .i64 y3):=hcell 2 (by decide)
   have e3:wr.cell? ⟨g,o+j * 5+3,none⟩ = some (.int .i64 y4):=hcell 3 (by decide)
   have e4:wr.cell? ⟨g,o+j * 5+4,none⟩ = some (.int .i64 y5):=hcell 4 (by decide)
   have zg:=szs (cell_lt e0)
   have BN:Hid (Below wr.heap.size wr (wr.alloc (.cells #[.int .i64 y1,.int .i64 y2,.int .i64 y3,.int .i64 y4,.int .i64 y5] 67))):=Lib.hid (by (repeat' (first | with_reducible (first | exact Below.refl _ _ | assumption | refine Below.drew ?_ | refine below_drewN ?_ _ | refine Below.alloc ?_ ?_ _ | refine Below.setCell ?_ ?_ _) | go_size)))
   have XN:=Lib.hid (al_at wr (.cells #[.int .i64 y1,.int .i64 y2,.int .i64 y3,.int .i64 y4,.int .i64 y5] 67) rfl)
   obtain ⟨wn,hwn⟩:∃ wn,wn = wr.alloc (.cells #[.int .i64 y1,.int .i64 y2,.int .i64 y3,.int .i64 y4,.int .i64 y5] 67):=⟨_,rfl⟩
   rw[←hwn] at BN XN
   have HWN:=Lib.hid hwn
   have HHRE:=Lib.hid hre
   have HK:=Lib.hid hk
   clear hwn hcell hre HRE hy hk
   have HN:Hid (RideBox w wn #[.int .i64 x1,.int .i64 x2,.int .i64 x3,.int .i64 x4,.int .i64 x5,.int .i64 x6,.bool x7,.slice (some ⟨g,o,none⟩) x9 x10,.slice x11 x12 x13,.int .i64 x14,.int .i64 x15,.int .i64 x16,.int .i64 x17]):=Lib.hid (And.intro (HL.out.1.trans (BN.out.mono HL.out.1.size)) ((BN.out.block _ (block_lt HL.out.2)).trans HL.out.2))
   have n1:=cell_at XN.out 1
   have n3:=cell_at XN.out 3
   have zn:=szs (block_lt XN.out)
   have c6:=cell_at HN.out.2 6
   have c7:=cell_at HN.out.2 7
   have zx:=szs (block_lt HN.out.2)
   go_simp
   ((repeat ((fail_if_success (rw[←HWN.out]));go_step));rw[←HWN.out])
   clear e0 e1 e2 e3 e4 zg HWN BN HL
   by_cases q1:y2 > y4
   ·have u1:decide (y2 > y4) = true:=decide_eq_true q1
    have u1o:decide (y4 < y2) = true:=decide_eq_true q1
    have hre:=HHRE.out
    rw[decide_eq_false (show ¬ y2≤y4 by omega)] at hre
    cases x7
    ·simp only[Bool.false_and,Bool.false_or] at hre
     subst hre
     clear HHRE
     go_wp2_with fail
     go_returns
     exact ⟨rfl,HN.out.1⟩
    ·by_cases q2:k = 0
     ·have u2:((j:Int) == (x9:Int) - 1) = true:=by have:=HK.out;simp;omega
      rw[show (k == 0) = true by simp [q2]] at hre
      simp only[Bool.true_and,Bool.false_or] at hre
      have HRE:Hid (r = (ordL L true (x9 - (j+1)) (j+1) && ordQ Q true x12 x5 x12 0 x3)):=Lib.hid (by rw[show x9 - (j+1) = k by have:=HK.out;omega];exact hre)
      clear hre HHRE HK q2 XN
      go_wp2_with fail
      go_roundw
      case rel=>first | (first | exact ⟨_,_,_,_,⟨j+1,by go_num,by omega,HRE,HN⟩,_,_,_,_,_,_,_,_,_,_,_,_,_,_,_,_,_,_,_,_,_,_,_,_,rfl⟩ | exact ⟨_,_,_,_,⟨j+1,by go_num,by omega,HRE,HN⟩,_,_,_,_,_,_,_,_,_,_,_,_,_,_,_,_,_,_,_,_,_,_,_,_,_,rfl⟩ | exact ⟨_,_,_,_,⟨j+1,by go_num,by omega,HRE,HN⟩,_,_,_,_,_,_,_,_,_,_,_,_,_,_,_,_,_,_,_,_,_,_,_,_,_,_,rfl⟩ | exact ⟨_,_,_,_,⟨j+1,by go_num,by omega,HRE,HN⟩,rfl⟩ | exact ⟨_,_,_,_,⟨j+1,by go_num,by omega,HRE,HN⟩,rfl,rfl⟩ | exact ⟨_,_,_,_,⟨j+1,by go_num,by omega,HRE,HN⟩,rfl,rfl,rfl⟩ | exact ⟨_,_,_,_,⟨j+1,by go_num,by omega,HRE,HN⟩,rfl,rfl,rfl,rfl⟩ | exact ⟨_,_,_,_,⟨j+1,by go_num,by omega,HRE,HN⟩,rfl,rfl,rfl,rfl,rfl⟩ | exact ⟨_,_,_,_,⟨j+1,by go_num,by omega,HRE,HN⟩,rfl,rfl,rfl,rfl,rfl,rfl⟩ | exact ⟨_,_,_,_,⟨j+1,by go_num,by omega,HRE,HN⟩,rfl,rfl,rfl,rfl,rfl,rfl,rfl⟩ | exact ⟨_,_,_,_,⟨j+1,by go_num,by omega,HRE,HN⟩,rfl,rfl,rfl,rfl,rfl,rfl,rfl,rfl⟩) | (first | exact ⟨_,_,_,_,⟨j+1,by go_num,by omega,HRE⟩,_,_,_,_,_,_,_,_,_,_,_,_,_,_,_,_,_,_,_,_,_,_,_,_,rfl⟩ | exact ⟨_,_,_,_,⟨j+1,by go_num,by omega,HRE⟩,_,_,_,_,_,_,_,_,_,_,_,_,_,_,_,_,_,_,_,_,_,_,_,_,_,rfl⟩ | exact ⟨_,_,_,_,⟨j+1,by go_num,by omega,HRE⟩,_,_,_,_,_,_,_,_,_,_,_,_,_,_,_,_,_,_,_,_,_,_,_,_,_,_,rfl⟩ | exact ⟨_,_,_,_,⟨j+1,by go_num,by omega,HRE⟩,rfl⟩ | exact ⟨_,_,_,_,⟨j+1,by go_num,by omega,HRE⟩,rfl,rfl⟩ | exact ⟨_,_,_,_,⟨j+1,by go_num,by omega,HRE⟩,rfl,rfl,rfl⟩ | exact ⟨_,_,_,_,⟨j+1,by go_num,by omega,HRE⟩,rfl,rfl,rfl,rfl⟩ | exact ⟨_,_,_,_,⟨j+1,by go_num,by omega,HRE⟩,rfl,rfl,rfl,rfl,rfl⟩ | exact ⟨_,_,_,_,⟨j+1,by go_num,by omega,HRE⟩,rfl,rfl,rfl,rfl,rfl,rfl⟩ | exact ⟨_,_,_,_,⟨j+1,by go_num,by omega,HRE⟩,rfl,rfl,rfl,rfl,rfl,rfl,rfl⟩ | exact ⟨_,_,_,_,⟨j+1,by go_num,by omega,HRE⟩,rfl,rfl,rfl,rfl,rfl,rfl,rfl,rfl⟩)
      case measure=>simp [intOf] <;> omega
     ·have u2:((j:Int) == (x9:Int) - 1) = false:=by have:=HK.out;simp;omega
      rw[show (k == 0) = false by simp [q2]] at hre
      simp only[Bool.and_false,Bool.false_and,Bool.false_or] at hre
      subst hre
      clear HHRE HK
      go_wp2_with fail
      go_returns
      exact ⟨rfl,HN.out.1⟩
   ·have u1:decide (y2 > y4) = false:=decide_eq_false q1
    have u1o:decide (y4 < y2) = false:=decide_eq_false q1
    have hre:=HHRE.out
    rw[decide_eq_true (show y2≤y4 by omega)] at hre
    simp only[Bool.true_or,Bool.true_and] at hre
    have HRE:Hid (r = (ordL L x7 (x9 - (j+1)) (j+1) && ordQ Q x7 x12 x5 x12 0 x3)):=Lib.hid (by rw[show x9 - (j+1) = k by have:=HK.out;omega];exact hre)
    clear hre HHRE HK XN
    go_wp2_with fail
    go_roundw
    case rel=>first | (first | exact ⟨_,_,_,_,⟨j+1,by go_num,by omega,HRE,HN⟩,_,_,_,_,_,_,_,_,_,_,_,_,_,_,_,_,_,_,_,_,_,_,_,_,rfl⟩ | exact ⟨_,_,_,_,⟨j+1,by go_num,by omega,HRE,HN⟩,_,_,_,_,_,_,_,_,_,_,_,_,_,_,_,_,_,_,_,_,_,_,_,_,_,rfl⟩ | exact ⟨_,_,_,_,⟨j+1,by go_num,by omega,HRE,HN⟩,_,_,_,_,_,_,_,_,_,_,_,_,_,_,_,_,_,_,_,_,_,_,_,_,_,_,rfl⟩ | exact ⟨_,_,_,_,⟨j+1,by go_num,by omega,HRE,HN⟩,rfl⟩ | exact ⟨_,_,_,_,⟨j+1,by go_num,by omega,HRE,HN⟩,rfl,rfl⟩ | exact ⟨_,_,_,_,⟨j+1,by go_num,by omega,HRE,HN⟩,rfl,rfl,rfl⟩ | exact ⟨_,_,_,_,⟨j+1,by go_num,by omega,HRE,HN⟩,rfl,rfl,rfl,rfl⟩ | exact ⟨_,_,_,_,⟨j+1,by go_num,by omega,HRE,HN⟩,rfl,rfl,rfl,rfl,rfl⟩ | exact ⟨_,_,_,_,⟨j+1,by go_num,by omega,HRE,HN⟩,rfl,rfl,rfl,rfl,rfl,rfl⟩ | exact ⟨_,_,_,_,⟨j+1,by go_num,by omega,HRE,HN⟩,rfl,rfl,rfl,rfl,rfl,rfl,rfl⟩ | exact ⟨_,_,_,_,⟨j+1,by go_num,by omega,HRE,HN⟩,rfl,rfl,rfl,rfl,rfl,rfl,rfl,rfl⟩) | (first | exact ⟨_,_,_,_,⟨j+1,by go_num,by omega,HRE⟩,_,_,_,_,_,_,_,_,_,_,_,_,_,_,_,_,_,_,_,_,_,_,_,_,rfl⟩ | exact ⟨_,_,_,_,⟨j+1,by go_num,by omega,HRE⟩,_,_,_,_,_,_,_,_,_,_,_,_,_,_,_,_,_,_,_,_,_,_,_,_,_,rfl⟩ | exact ⟨_,_,_,_,⟨j+1,by go_num,by omega,HRE⟩,_,_,_,_,_,_,_,_,_,_,_,_,_,_,_,_,_,_,_,_,_,_,_,_,_,_,rfl⟩ | exact ⟨_,_,_,_,⟨j+1,by go_num,by omega,HRE⟩,rfl⟩ | exact ⟨_,_,_,_,⟨j+1,by go_num,by omega,HRE⟩,rfl,rfl⟩ | exact ⟨_,_,_,_,⟨j+1,by go_num,by omega,HRE⟩,rfl,rfl,rfl⟩ | exact ⟨_,_,_,_,⟨j+1,by go_num,by omega,HRE⟩,rfl,rfl,rfl,rfl⟩ | exact ⟨_,_,_,_,⟨j+1,by go_num,by omega,HRE⟩,rfl,rfl,rfl,rfl,rfl⟩ | exact ⟨_,_,_,_,⟨j+1,by go_num,by omega,HRE⟩,rfl,rfl,rfl,rfl,rfl,rfl⟩ | exact ⟨_,_,_,_,⟨j+1,by go_num,by omega,HRE⟩,rfl,rfl,rfl,rfl,rfl,rfl,rfl⟩ | exact ⟨_,_,_,_,⟨j+1,by go_num,by omega,HRE⟩,rfl,rfl,rfl,rfl,rfl,rfl,rfl,rfl⟩)
    case measure=>simp [intOf] <;> omega
  ·have t3:decide ((j:Int) < (x9:Int)) = false:=decide_eq_false (by omega)
   have t3n:decide (j < x9) = false:=decide_eq_false (by omega)
   have hre:=HRE.out
   rw[show x9 - j = 0 by omega] at hre
   unfold ordL at hre
   simp only[Bool.true_and] at hre
   have HP:=Lib.hid hre
   have HL1:=HL
   clear hre HRE HL hlt
   have c2:=cell_at HL1.out.2 2
   have c8:=cell_at HL1.out.2 8
   have zx:=szs (block_lt HL1.out.2)
   go_wp2_with fail
   go_loopw [5,43] (fun s5 s wr=>∃ (j:Nat) (a:Int),s5 = .int .i64 a∧s = .int .i64 j∧j≤x12∧Hid (r = ordQ Q x7 x12 x5 (x12 - j) j a)∧Hid (RideBox w wr #[.int .i64 x1,.int .i64 x2,.int .i64 x3,.int .i64 x4,.int .i64 x5,.int .i64 x6,.bool x7,.slice x8 x9 x10,.slice x11 x12 x13,.int .i64 x14,.int .i64 x15,.int .i64 x16,.int .i64 x17])) (fun _ s _=>x12 - (intOf s).toNat)
   case atStart=>exact ⟨0,x3,rfl,rfl,Nat.zero_le _,by rw[Nat.sub_zero];exact HP,HL1⟩
   case round =>
    obtain ⟨j,a,rfl,rfl,hj,hre,hrel⟩:=hrel
    have HRE:=hre
    have HL:=hrel
    clear hre hrel HP HL1 c2 c8 zx t3 t3n
    by_cases hlt:j < x12
    ·have t3:decide ((j:Int) < (x12:Int)) = true:=decide_eq_true (by omega)
     have t3n:decide (j < x12) = true:=decide_eq_true (by omega)
     obtain ⟨g,o,e9,hcell⟩:=(H1.out.below HL.out.1).paus.cell hlt
     dsimp only at e9 hcell
     subst e9
     obtain ⟨y,hy⟩:∃ y,y = Q j:=⟨_,rfl⟩
     rw[←hy] at hcell
     obtain ⟨k,hk⟩:∃ k,x12 - j = k+1:=⟨x12 - j - 1,by omega⟩
     have hre:=HRE.out
     rw[hk] at hre
     unfold ordQ at hre
     rw[←hy] at hre
     obtain ⟨y1,y2,y3,y4⟩:=y
     dsimp only at hre
     have e0:wr.cell? ⟨g,o+j * 4,none⟩ = some (.int .i64 y1):=hcell 0 (by decide)
     have e1:wr.cell? ⟨g,o+j * 4+1,none⟩ = some (.int .i64 y2):=hcell 1 (by decide)
     have e2:wr.cell? ⟨g,o+j * 4+2,none⟩ = some (.int .i64 y3):=hcell 2 (by decide)
     have e3:wr.cell? ⟨g,o+j * 4+3,none⟩ = some (.int .i64 y4):=hcell 3 (by decide)
     have zg:=szs (cell_lt e0)
     have BN:Hid (Below wr.heap.size wr (wr.alloc (.cells #[.int .i64 y1,.int .i64 y2,.int .i64 y3,.int .i64 y4] 108))):=Lib.hid (by (repeat' (first | with_reducible (first | exact Below.refl _ _ | assumption | refine Below.drew ?_ | refine below_drewN ?_ _ | refine Below.alloc ?_ ?_ _ | refine Below.setCell ?_ ?_ _) | go_size)))
     have XN:=Lib.hid (al_at wr (.cells #[.int .i64 y1,.int .i64 y2,.int .i64 y3,.int .i64 y4] 108) rfl)
     obtain ⟨wn,hwn⟩:∃ wn,wn = wr.alloc (.cells #[.int .i64 y1,.int .i64 y2,.int .i64 y3,.int .i64 y4] 108):=⟨_,rfl⟩
     rw[←hwn] at BN XN
     have HWN:=Lib.hid hwn
     have HHRE:=Lib.hid hre
     have HK:=Lib.hid hk
     clear hwn hcell hre HRE hy hk
     have HN:Hid (RideBox w wn #[.int .i64 x1,.int .i64 x2,.int .i64 x3,.int .i64 x4,.int .i64 x5,.int .i64 x6,.bool x7,.slice x8 x9 x10,.slice (some ⟨g,o,none⟩) x12 x13,.int .i64 x14,.int .i64 x15,.int .i64 x16,.int .i64 x17]):=Lib.hid (And.intro (HL.out.1.trans (BN.out.mono HL.out.1.size)) ((BN.out.block _ (block_lt HL.out.2)).trans HL.out.2))
     have n0:=cell_at XN.out 0
     have n2:=cell_at XN.out 2
     have zn:=szs (block_lt XN.out)
     have c6:=cell_at HN.out.2 6
     have c8:=cell_at HN.out.2 8
     have zx:=szs (block_lt HN.out.2)
     go_simp
     ((repeat ((fail_if_success (rw[←HWN.out]));go_step));rw[←HWN.out])
     clear e0 e1 e2 e3 zg HWN BN HL
     by_cases q1:y1 < a
     ·have u1:decide (y1 < a) = true:=decide_eq_true q1
      have hre:=HHRE.out
      rw[decide_eq_false (show ¬ a≤y1 by omega)] at hre
      simp only[Bool.false_and] at hre
      subst hre
      clear HHRE
      go_wp2_with fail
      go_returns
      exact ⟨rfl,HN.out.1⟩
     have u1:decide (y1 < a) = false:=decide_eq_false q1
     have hre:=HHRE.out
     rw[decide_eq_true (show a≤y1 by omega)] at hre
     simp only[Bool.true_and] at hre
     replace HHRE:=Lib.hid hre
     clear hre
     by_cases qo:x7 = true∧k = 0∧y3 = 0
     ·obtain ⟨rfl,qk,rfl⟩:=qo
      have u2:((j:Int) == (x12:Int) - 1) = true:=by have:=HK.out;simp;omega
      have hre:=HHRE.out
      rw[show (k == 0) = true by simp [qk]] at hre
      simp only[beq_self_eq_true,Bool.and_self,Bool.true_or] at hre
      subst hre
      clear HHRE HK qk
      go_wp2_with fail
      go_returns
      exact ⟨rfl,HN.out.1⟩
     have hre:=HHRE.out
     have hz:(x7 && ((k == 0) && (y3 == 0))) = false:=by
      cases x7
      ·rfl
      ·by_cases qk:k = 0
       ·have:y3 ≠ 0:=fun e=>qo ⟨rfl,qk,e⟩
        simp [this]
       ·simp [qk]
     rw[hz] at hre
     simp only[Bool.false_or] at hre
     replace HHRE:=Lib.hid hre
     clear hre hz
     have cont:∀ b:Bool,x7 = b→(b = true→((j:Int) == (x12:Int) - 1) = true→(y3 == 0) = false):=fun b hb hbt hji=>by
      subst hb
      have:y3 ≠ 0:=fun e=>qo ⟨hbt,by have:=HK.out;simp at hji;omega,e⟩
      simp [this]
     have HC:=Lib.hid cont
     have HKJ:Hid (x12 - (j+1) = k):=Lib.hid (by have:=HK.out;omega)
     clear cont qo HK
     by_cases q3:y3 < y1
     ·have u3:decide (y3 < y1) = true:=decide_eq_true q3
      have hre:=HHRE.out
      rw[decide_eq_false (show ¬ y1≤y3 by omega)] at hre
      simp only[Bool.false_and] at hre
      subst hre
      clear HHRE HKJ
      cases x7
      ·go_wp2_with fail
       go_returns
       exact ⟨rfl,HN.out.1⟩
      ·by_cases qj:((j:Int) == (x12:Int) - 1) = true
       ·have u4:=HC.out true rfl rfl qj
        go_wp2_with fail
        go_returns
        exact ⟨rfl,HN.out.1⟩
       ·have u4:((j:Int) == (x12:Int) - 1) = false:=by simpa using qj
        clear qj
        go_wp2_with fail
        go_returns
        exact ⟨rfl,HN.out.1⟩
     have u3:decide (y3 < y1) = false:=decide_eq_false q3
     have hre:=HHRE.out
     rw[decide_eq_true (show y1≤y3 by omega)] at hre
     simp only[Bool.true_and] at hre
     have HRE:Hid (r = ordQ Q x7 x12 x5 (x12 - (j+1)) (j+1) y3):=Lib.hid (by rw[HKJ.out];exact hre)
     clear hre HHRE HKJ XN
     cases x7
     ·go_wp2_with fail
      go_roundw
      case rel=>first | (first | exact ⟨_,_,_,_,_,⟨j+1,y3,by go_num,by go_num,by omega,HRE,HN⟩,_,_,_,_,_,_,_,_,_,_,_,_,_,_,_,_,_,_,_,_,_,_,_,_,_,_,_,_,_,_,_,_,_,_,_,_,rfl⟩ | exact ⟨_,_,_,_,_,⟨j+1,y3,by go_num,by go_num,by omega,HRE,HN⟩,_,_,_,_,_,_,_,_,_,_,_,_,_,_,_,_,_,_,_,_,_,_,_,_,_,_,_,_,_,_,_,_,_,_,_,_,_,rfl⟩ | exact ⟨_,_,_,_,_,⟨j+1,y3,by go_num,by go_num,by omega,HRE,HN⟩,_,_,_,_,_,_,_,_,_,_,_,_,_,_,_,_,_,_,_,_,_,_,_,_,_,_,_,_,_,_,_,_,_,_,_,_,_,_,rfl⟩ | exact ⟨_,_,_,_,_,⟨j+1,y3,by go_num,by go_num,by omega,HRE,HN⟩,rfl⟩ | exact ⟨_,_,_,_,_,⟨j+1,y3,by go_num,by go_num,by omega,HRE,HN⟩,rfl,rfl⟩ | exact ⟨_,_,_,_,_,⟨j+1,y3,by go_num,by go_num,by omega,HRE,HN⟩,rfl,rfl,rfl⟩ | exact ⟨_,_,_,_,_,⟨j+1,y3,by go_num,by go_num,by omega,HRE,HN⟩,rfl,rfl,rfl,rfl⟩ | exact ⟨_,_,_,_,_,⟨j+1,y3,by go_num,by go_num,by omega,HRE,HN⟩,rfl,rfl,rfl,rfl,rfl⟩ | exact ⟨_,_,_,_,_,⟨j+1,y3,by go_num,by go_num,by omega,HRE,HN⟩,rfl,rfl,rfl,rfl,rfl,rfl⟩ | exact ⟨_,_,_,_,_,⟨j+1,y3,by go_num,by go_num,by omega,HRE,HN⟩,rfl,rfl,rfl,rfl,rfl,rfl,rfl⟩ | exact ⟨_,_,_,_,_,⟨j+1,y3,by go_num,by go_num,by omega,HRE,HN⟩,rfl,rfl,rfl,rfl,rfl,rfl,rfl,rfl⟩) | (first | exact ⟨_,_,_,_,_,⟨j+1,y3,by go_num,by go_num,by omega,HRE⟩,_,_,_,_,_,_,_,_,_,_,_,_,_,_,_,_,_,_,_,_,_,_,_,_,_,_,_,_,_,_,_,_,_,_,_,_,rfl⟩ | exact ⟨_,_,_,_,_,⟨j+1,y3,by go_num,by go_num,by omega,HRE⟩,_,_,_,_,_,_,_,_,_,_,_,_,_,_,_,_,_,_,_,_,_,_,_,_,_,_,_,_,_,_,_,_,_,_,_,_,_,rfl⟩ | exact ⟨_,_,_,_,_,⟨j+1,y3,by go_num,by go_num,by omega,HRE⟩,_,_,_,_,_,_,_,_,_,_,_,_,_,_,_,_,_,_,_,_,_,_,_,_,_,_,_,_,_,_,_,_,_,_,_,_,_,_,rfl⟩ | exact ⟨_,_,_,_,_,⟨j+1,y3,by go_num,by go_num,by omega,HRE⟩,rfl⟩ | exact ⟨_,_,_,_,_,⟨j+1,y3,by go_num,by go_num,by omega,HRE⟩,rfl,rfl⟩ | exact ⟨_,_,_,_,_,⟨j+1,y3,by go_num,by go_num,by omega,HRE⟩,rfl,rfl,rfl⟩ | exact ⟨_,_,_,_,_,⟨j+1,y3,by go_num,by go_num,by omega,HRE⟩,rfl,rfl,rfl,rfl⟩ | exact ⟨_,_,_,_,_,⟨j+1,y3,by go_num,by go_num,by omega,HRE⟩,rfl,rfl,rfl,rfl,rfl⟩ | exact ⟨_,_,_,_,_,⟨j+1,y3,by go_num,by go_num,by omega,HRE⟩,rfl,rfl,rfl,rfl,rfl,rfl⟩ | exact ⟨_,_,_,_,_,⟨j+1,y3,by go_num,by go_num,by omega,HRE⟩,rfl,rfl,rfl,rfl,rfl,rfl,rfl⟩ | exact ⟨_,_,_,_,_,⟨j+1,y3,by go_num,by go_num,by omega,HRE⟩,rfl,rfl,rfl,rfl,rfl,rfl,rfl,rfl⟩)
      case measure=>simp [intOf] <;> omega
     ·by_cases qj:((j:Int) == (x12:Int) - 1) = true
      ·have u4:=HC.out true rfl rfl qj
       go_wp2_with fail
       go_roundw
       case rel=>first | (first | exact ⟨_,_,_,_,_,⟨j+1,y3,by go_num,by go_num,by omega,HRE,HN⟩,_,_,_,_,_,_,_,_,_,_,_,_,_,_,_,_,_,_,_,_,_,_,_,_,_,_,_,_,_,_,_,_,_,_,_,_,rfl⟩ | exact ⟨_,_,_,_,_,⟨j+1,y3,by go_num,by go_num,by omega,HRE,HN⟩,_,_,_,_,_,_,_,_,_,_,_,_,_,_,_,_,_,_,_,_,_,_,_,_,_,_,_,_,_,_,_,_,_,_,_,_,_,rfl⟩ | exact ⟨_,_,_,_,_,⟨j+1,y3,by go_num,by go_num,by omega,HRE,HN⟩,_,_,_,_,_,_,_,_,_,_,_,_,_,_,_,_,_,_,_,_,_,_,_,_,_,_,_,_,_,_,_,_,_,_,_,_,_,_,rfl⟩ | exact ⟨_,_,_,_,_,⟨j+1,y3,by go_num,by go_num,by omega,HRE,HN⟩,rfl⟩ | exact ⟨_,_,_,_,_,⟨j+1,y3,by go_num,by go_num,by omega,HRE,HN⟩,rfl,rfl⟩ | exact ⟨_,_,_,_,_,⟨j+1,y3,by go_num,by go_num,by omega,HRE,HN⟩,rfl,rfl,rfl⟩ | exact ⟨_,_,_,_,_,⟨j+1,y3,by go_num,by go_num,by omega,HRE,HN⟩,rfl,rfl,rfl,rfl⟩ | exact ⟨_,_,_,_,_,⟨j+1,y3,by go_num,by go_num,by omega,HRE,HN⟩,rfl,rfl,rfl,rfl,rfl⟩ | exact ⟨_,_,_,_,_,⟨j+1,y3,by go_num,by go_num,by omega,HRE,HN⟩,rfl,rfl,rfl,rfl,rfl,rfl⟩ | exact ⟨_,_,_,_,_,⟨j+1,y3,by go_num,by go_num,by omega,HRE,HN⟩,rfl,rfl,rfl,rfl,rfl,rfl,rfl⟩ | exact ⟨_,_,_,_,_,⟨j+1,y3,by go_num,by go_num,by omega,HRE,HN⟩,rfl,rfl,rfl,rfl,rfl,rfl,rfl,rfl⟩) | (first | exact ⟨_,_,_,_,_,⟨j+1,y3,by go_num,by go_num,by omega,HRE⟩,_,_,_,_,_,_,_,_,_,_,_,_,_,_,_,_,_,_,_,_,_,_,_,_,_,_,_,_,_,_,_,_,_,_,_,_,rfl⟩ | exact ⟨_,_,_,_,_,⟨j+1,y3,by go_num,by go_num,by omega,HRE⟩,_,_,_,_,_,_,_,_,_,_,_,_,_,_,_,_,_,_,_,_,_,_,_,_,_,_,_,_,_,_,_,_,_,_,_,_,_,rfl⟩ | exact ⟨_,_,_,_,_,⟨j+1,y3,by go_num,by go_num,by omega,HRE⟩,_,_,_,_,_,_,_,_,_,_,_,_,_,_,_,_,_,_,_,_,_,_,_,_,_,_,_,_,_,_,_,_,_,_,_,_,_,_,rfl⟩ | exact ⟨_,_,_,_,_,⟨j+1,y3,by go_num,by go_num,by omega,HRE⟩,rfl⟩ | exact ⟨_,_,_,_,_,⟨j+1,y3,by go_num,by go_num,by omega,HRE⟩,rfl,rfl⟩ | exact ⟨_,_,_,_,_,⟨j+1,y3,by go_num,by go_num,by omega,HRE⟩,rfl,rfl,rfl⟩ | exact ⟨_,_,_,_,_,⟨j+1,y3,by go_num,by go_num,by omega,HRE⟩,rfl,rfl,rfl,rfl⟩ | exact ⟨_,_,_,_,_,⟨j+1,y3,by go_num,by go_num,by omega,HRE⟩,rfl,rfl,rfl,rfl,rfl⟩ | exact ⟨_,_,_,_,_,⟨j+1,y3,by go_num,by go_num,by omega,HRE⟩,rfl,rfl,rfl,rfl,rfl,rfl⟩ | exact ⟨_,_,_,_,_,⟨j+1,y3,by go_num,by go_num,by omega,HRE⟩,rfl,rfl,rfl,rfl,rfl,rfl,rfl⟩ | exact ⟨_,_,_,_,_,⟨j+1,y3,by go_num,by go_num,by omega,HRE⟩,rfl,rfl,rfl,rfl,rfl,rfl,rfl,rfl⟩)
       case measure=>simp [intOf] <;> omega
      ·have u4:((j:Int) == (x12:Int) - 1) = false:=by simpa using qj
       clear qj
       go_wp2_with fail
       go_roundw
       case rel=>first | (first | exact ⟨_,_,_,_,_,⟨j+1,y3,by go_num,by go_num,by omega,HRE,HN⟩,_,_,_,_,_,_,_,_,_,_,_,_,_,_,_,_,_,_,_,_,_,_,_,_,_,_,_,_,_,_,_,_,_,_,_,_,rfl⟩ | exact ⟨_,_,_,_,_,⟨j+1,y3,by go_num,by go_num,by omega,HRE,HN⟩,_,_,_,_,_,_,_,_,_,_,_,_,_,_,_,_,_,_,_,_,_,_,_,_,_,_,_,_,_,_,_,_,_,_,_,_,_,rfl⟩ | exact ⟨_,_,_,_,_,⟨j+1,y3,by go_num,by go_num,by omega,HRE,HN⟩,_,_,_,_,_,_,_,_,_,_,_,_,_,_,_,_,_,_,_,_,_,_,_,_,_,_,_,_,_,_,_,_,_,_,_,_,_,_,rfl⟩ | exact ⟨_,_,_,_,_,⟨j+1,y3,by go_num,by go_num,by omega,HRE,HN⟩,rfl⟩ | exact ⟨_,_,_,_,_,⟨j+1,y3,by go_num,by go_num,by omega,HRE,HN⟩,rfl,rfl⟩ | exact ⟨_,_,_,_,_,⟨j+1,y3,by go_num,by go_num,by omega,HRE,HN⟩,rfl,rfl,rfl⟩ | exact ⟨_,_,_,_,_,⟨j+1,y3,by go_num,by go_num,by omega,HRE,HN⟩,rfl,rfl,rfl,rfl⟩ | exact ⟨_,_,_,_,_,⟨j+1,y3,by go_num,by go_num,by omega,HRE,HN⟩,rfl,rfl,rfl,rfl,rfl⟩ | exact ⟨_,_,_,_,_,⟨j+1,y3,by go_num,by go_num,by omega,HRE,HN⟩,rfl,rfl,rfl,rfl,rfl,rfl⟩ | exact ⟨_,_,_,_,_,⟨j+1,y3,by go_num,by go_num,by omega,HRE,HN⟩,rfl,rfl,rfl,rfl,rfl,rfl,rfl⟩ | exact ⟨_,_,_,_,_,⟨j+1,y3,by go_num,by go_num,by omega,HRE,HN⟩,rfl,rfl,rfl,rfl,rfl,rfl,rfl,rfl⟩) | (first | exact ⟨_,_,_,_,_,⟨j+1,y3,by go_num,by go_num,by omega,HRE⟩,_,_,_,_,_,_,_,_,_,_,_,_,_,_,_,_,_,_,_,_,_,_,_,_,_,_,_,_,_,_,_,_,_,_,_,_,rfl⟩ | exact ⟨_,_,_,_,_,⟨j+1,y3,by go_num,by go_num,by omega,HRE⟩,_,_,_,_,_,_,_,_,_,_,_,_,_,_,_,_,_,_,_,_,_,_,_,_,_,_,_,_,_,_,_,_,_,_,_,_,_,rfl⟩ | exact ⟨_,_,_,_,_,⟨j+1,y3,by go_num,by go_num,by omega,HRE⟩,_,_,_,_,_,_,_,_,_,_,_,_,_,_,_,_,_,_,_,_,_,_,_,_,_,_,_,_,_,_,_,_,_,_,_,_,_,_,rfl⟩ | exact ⟨_,_,_,_,_,⟨j+1,y3,by go_num,by go_num,by omega,HRE⟩,rfl⟩ | exact ⟨_,_,_,_,_,⟨j+1,y3,by go_num,by go_num,by omega,HRE⟩,rfl,rfl⟩ | exact ⟨_,_,_,_,_,⟨j+1,y3,by go_num,by go_num,by omega,HRE⟩,rfl,rfl,rfl⟩ | exact ⟨_,_,_,_,_,⟨j+1,y3,by go_num,by go_num,by omega,HRE⟩,rfl,rfl,rfl,rfl⟩ | exact ⟨_,_,_,_,_,⟨j+1,y3,by go_num,by go_num,by omega,HRE⟩,rfl,rfl,rfl,rfl,rfl⟩ | exact ⟨_,_,_,_,_,⟨j+1,y3,by go_num,by go_num,by omega,HRE⟩,rfl,rfl,rfl,rfl,rfl,rfl⟩ | exact ⟨_,_,_,_,_,⟨j+1,y3,by go_num,by go_num,by omega,HRE⟩,rfl,rfl,rfl,rfl,rfl,rfl,rfl⟩ | exact ⟨_,_,_,_,_,⟨j+1,y3,by go_num,by go_num,by omega,HRE⟩,rfl,rfl,rfl,rfl,rfl,rfl,rfl,rfl⟩)
       case measure=>simp [intOf] <;> omega
    ·have t3:decide ((j:Int) < (x12:Int)) = false:=decide_eq_false (by omega)
     have t3n:decide (j < x12) = false:=decide_eq_false (by omega)
     have hre:=HRE.out
     rw[show x12 - j = 0 by omega] at hre
     unfold ordQ at hre
     have c3:=cell_at HL.out.2 4
     have c6:=cell_at HL.out.2 6
     have c8:=cell_at HL.out.2 8
     have zx:=szs (block_lt HL.out.2)
     cases x7
     ·by_cases qn:x12 = 0
      ·have u1:((x12:Int) == 0) = true:=by simp;omega
       rw[show (x12 == 0) = true by simp [qn]] at hre
       simp only[Bool.true_or,Bool.or_true] at hre
       subst hre
       clear HRE qn
       go_wp2_with fail
       go_returns
       exact ⟨rfl,HL.out.1⟩
      ·have u1:((x12:Int) == 0) = false:=by simp;omega
       rw[show (x12 == 0) = false by simp [qn]] at hre
       simp only[Bool.false_or] at hre
       by_cases qe:a≤x5
       ·have u2:decide (a≤x5) = true:=decide_eq_true qe
        rw[u2] at hre
        subst hre
        clear HRE qn
        go_wp2_with fail
        go_returns
        exact ⟨rfl,HL.out.1⟩
       ·have u2:decide (a≤x5) = false:=decide_eq_false qe
        rw[u2] at hre
        subst hre
        clear HRE qn
        go_wp2_with fail
        go_returns
        exact ⟨rfl,HL.out.1⟩
     ·simp only[Bool.true_or] at hre
      subst hre
      clear HRE
      go_wp2_with fail
      go_returns
      exact ⟨rfl,HL.out.1⟩
end Go.Proofs.YtdpoppilnokniaaGreatDoor
namespace Go.Proofs.YtdpoppilnokniaaGreatDoor
open Go.RowKit Go.ChangeShapes Go.WideShapes Go.Deep
set_option linter.unusedVariables false
set_option linter.unusedSimpArgs false
def stateB (x:Rid):Bool:=(x.op && !((x.e0 == 0) && (x.e1 == 0))) || (x.op != (x.wh == 3))
def chkE (x:Rid) (L:Nat→Leg) (Q:Nat→Pau):Int:=if rangedB x L Q = false then 1 else if joinedB x L = false then 3 else if orderedB x L Q = false then 9 else if stateB x = true then 12 else 0
set_option maxRecDepth 8000 in
set_option maxHeartbeats 16000000 in
theorem check49 (x:Rid) (L:Nat→Leg) (Q:Nat→Pau) (w:World) (h:RidIn w x L Q):Calls Tryz.prog 49 #[.agg (rds x).toArray] w fun e w'=>e = .returned (.int .i64 (chkE x L Q))∧Below w.heap.size w w':=by
 obtain ⟨r,hr⟩:∃ r,r = chkE x L Q:=⟨_,rfl⟩
 rw[←hr]
 unfold chkE stateB at hr
 have H1:=Lib.hid h
 have A1:=Lib.hid (fun w' (b:Below w.heap.size w w')=>ranged68 x L Q w' (h.below b))
 have A2:=Lib.hid (fun w' (b:Below w.heap.size w w')=>joined69 x L Q w' (h.below b))
 have A3:=Lib.hid (fun w' (b:Below w.heap.size w w')=>ordered70 x L Q w' (h.below b))
 obtain ⟨v1,hv1⟩:∃ v1,v1 = rangedB x L Q:=⟨_,rfl⟩
 obtain ⟨v2,hv2⟩:∃ v2,v2 = joinedB x L:=⟨_,rfl⟩
 obtain ⟨v3,hv3⟩:∃ v3,v3 = orderedB x L Q:=⟨_,rfl⟩
 rw[←hv1,←hv2,←hv3] at hr
 rw[←hv1] at A1
 rw[←hv2] at A2
 rw[←hv3] at A3
 clear h hv1 hv2 hv3 H1
 obtain ⟨x1,x2,x3,x4,x5,x6,x7,x8,x9,x10,x11,x12,x13,x14,x15,x16,x17⟩:=x
 unfold rds at A1 A2 A3 ⊢
 dsimp only at hr A1 A2 A3 ⊢
 have HR:=Lib.hid hr
 clear hr
 have BB:Hid (Below w.heap.size w (w.alloc (.cells #[.int .i64 x1,.int .i64 x2,.int .i64 x3,.int .i64 x4,.int .i64 x5,.int .i64 x6,.bool x7,.slice x8 x9 x10,.slice x11 x12 x13,.int .i64 x14,.int .i64 x15,.int .i64 x16,.int .i64 x17] 71))):=Lib.hid (by (repeat' (first | with_reducible (first | exact Below.refl _ _ | assumption | refine Below.drew ?_ | refine below_drewN ?_ _ | refine Below.alloc ?_ ?_ _ | refine Below.setCell ?_ ?_ _) | go_size)))
 have X0:=Lib.hid (al_at w (.cells #[.int .i64 x1,.int .i64 x2,.int .i64 x3,.int .i64 x4,.int .i64 x5,.int .i64 x6,.bool x7,.slice x8 x9 x10,.slice x11 x12 x13,.int .i64 x14,.int .i64 x15,.int .i64 x16,.int .i64 x17] 71) rfl)
 obtain ⟨w1,hw1⟩:∃ w1,w1 = w.alloc (.cells #[.int .i64 x1,.int .i64 x2,.int .i64 x3,.int .i64 x4,.int .i64 x5,.int .i64 x6,.bool x7,.slice x8 x9 x10,.slice x11 x12 x13,.int .i64 x14,.int .i64 x15,.int .i64 x16,.int .i64 x17] 71):=⟨_,rfl⟩
 rw[←hw1] at BB X0
 have HW:=Lib.hid hw1
 have HB:Hid (RideBox w w1 #[.int .i64 x1,.int .i64 x2,.int .i64 x3,.int .i64 x4,.int .i64 x5,.int .i64 x6,.bool x7,.slice x8 x9 x10,.slice x11 x12 x13,.int .i64 x14,.int .i64 x15,.int .i64 x16,.int .i64 x17]):=Lib.hid (And.intro BB.out X0.out)
 clear hw1 BB X0
 have c0:=cell_at HB.out.2 0
 have c1:=cell_at HB.out.2 1
 have c2:=cell_at HB.out.2 2
 have c3:=cell_at HB.out.2 3
 have c4:=cell_at HB.out.2 4
 have c5:=cell_at HB.out.2 5
 have c6:=cell_at HB.out.2 6
 have c7:=cell_at HB.out.2 7
 have c8:=cell_at HB.out.2 8
 have c9:=cell_at HB.out.2 9
 have c10:=cell_at HB.out.2 10
 have c11:=cell_at HB.out.2 11
 have c12:=cell_at HB.out.2 12
 have zx:=szs (block_lt HB.out.2)
 go_enter Tryz.func49,Tryz.ntmps49
 go_simp
 ((repeat ((fail_if_success (rw[←HW.out]));go_step));rw[←HW.out])
 clear HW
 go_wp2_with fail
 refine (A1.out _ HB.out.1).mono ?_
 rintro e w2 ⟨rfl,b2⟩
 have HN:Hid (RideBox w w2 #[.int .i64 x1,.int .i64 x2,.int .i64 x3,.int .i64 x4,.int .i64 x5,.int .i64 x6,.bool x7,.slice x8 x9 x10,.slice x11 x12 x13,.int .i64 x14,.int .i64 x15,.int .i64 x16,.int .i64 x17]):=Lib.hid ⟨HB.out.1.trans (b2.mono HB.out.1.size),(b2.block _ (block_lt HB.out.2)).trans HB.out.2⟩
 clear b2 c0 c1 c2 c3 c4 c5 c6 c7 c8 c9 c10 c11 c12 zx HB
 have HB:=HN
 clear HN
 have c0:=cell_at HB.out.2 0
 have c1:=cell_at HB.out.2 1
 have c2:=cell_at HB.out.2 2
 have c3:=cell_at HB.out.2 3
 have c4:=cell_at HB.out.2 4
 have c5:=cell_at HB.out.2 5
 have c6:=cell_at HB.out.2 6
 have c7:=cell_at HB.out.2 7
 have c8:=cell_at HB.out.2 8
 have c9:=cell_at HB.out.2 9
 have c10:=cell_at HB.out.2 10
 have c11:=cell_at HB.out.2 11
 have c12:=cell_at HB.out.2 12
 have zx:=szs (block_lt HB.out.2)
 clear A1
 cases v1
 ·have hr:=HR.out
  rw[if_pos rfl] at hr
  subst hr
  go_wp2_with fail
  go_returns
  exact ⟨rfl,HB.out.1⟩
 go_wp2_with fail
 refine (A2.out _ HB.out.1).mono ?_
 rintro e w3 ⟨rfl,b3⟩
 have HN:Hid (RideBox w w3 #[.int .i64 x1,.int .i64 x2,.int .i64 x3,.int .i64 x4,.int .i64 x5,.int .i64 x6,.bool x7,.slice x8 x9 x10,.slice x11 x12 x13,.int .i64 x14,.int .i64 x15,.int .i64 x16,.int .i64 x17]):=Lib.hid ⟨HB.out.1.trans (b3.mono HB.out.1.size),(b3.block _ (block_lt HB.out.2)).trans HB.out.2⟩
 clear b3 c0 c1 c2 c3 c4 c5 c6 c7 c8 c9 c10 c11 c12 zx HB
 have HB:=HN
 clear HN
 have c0:=cell_at HB.out.2 0
 have c1:=cell_at HB.out.2 1
 have c2:=cell_at HB.out.2 2
 have c3:=cell_at HB.out.2 3
 have c4:=cell_at HB.out.2 4
 have c5:=cell_at HB.out.2 5
 have c6:=cell_at HB.out.2 6
 have c7:=cell_at HB.out.2 7
 have c8:=cell_at HB.out.2 8
 have c9:=cell_at HB.out.2 9
 have c10:=cell_at HB.out.2 10
 have c11:=cell_at HB.out.2 11
 have c12:=cell_at HB.out.2 12
 have zx:=szs (block_lt HB.out.2)
 clear A2
 cases v2
 ·have hr:=HR.out
  rw[if_neg (by simp),if_pos rfl] at hr
  subst hr
  go_wp2_with fail
  go_returns
  exact ⟨rfl,HB.out.1⟩
 go_wp2_with fail
 refine (A3.out _ HB.out.1).mono ?_
 rintro e w4 ⟨rfl,b4⟩
 have HN:Hid (RideBox w w4 #[.int .i64 x1,.int .i64 x2,.int .i64 x3,.int .i64 x4,.int .i64 x5,.int .i64 x6,.bool x7,.slice x8 x9 x10,.slice x11 x12 x13,.int .i64 x14,.int .i64 x15,.int .i64 x16,.int .i64 x17]):=Lib.hid ⟨HB.out.1.trans (b4.mono HB.out.1.size),(b4.block _ (block_lt HB.out.2)).trans HB.out.2⟩
 clear b4 c0 c1 c2 c3 c4 c5 c6 c7 c8 c9 c10 c11 c12 zx HB
 have HB:=HN
 clear HN
 have c0:=cell_at HB.out.2 0
 have c1:=cell_at HB.out.2 1
 have c2:=cell_at HB.out.2 2
 have c3:=cell_at HB.out.2 3
 have c4:=cell_at HB.out.2 4
 have c5:=cell_at HB.out.2 5
 have c6:=cell_at HB.out.2 6
 have c7:=cell_at HB.out.2 7
 have c8:=cell_at HB.out.2 8
 have c9:=cell_at HB.out.2 9
 have c10:=cell_at HB.out.2 10
 have c11:=cell_at HB.out.2 11
 have c12:=cell_at HB.out.2 12
 have zx:=szs (block_lt HB.out.2)
 clear A3
 cases v3
 ·have hr:=HR.out
  rw[if_neg (by simp),if_neg (by simp),if_pos rfl] at hr
  subst hr
  go_wp2_with fail
  go_returns
  exact ⟨rfl,HB.out.1⟩
 have hr:=HR.out
 rw[if_neg (by simp),if_neg (by simp),if_neg (by simp)] at hr
 clear HR
 have HR:=Lib.hid hr
 clear hr
 by_cases q3:x16 = 3
 ·subst q3
  cases x7
  ·have hr:=HR.out
   simp at hr
   subst hr
   go_wp2_with fail
   go_returns
   exact ⟨rfl,HB.out.1⟩
  ·by_cases q5:x5 = 0
   ·subst q5
    by_cases q6:x6 = 0
    ·subst q6
     have hr:=HR.out
     simp at hr
     subst hr
     go_wp2_with fail
     go_returns
     exact ⟨rfl,HB.out.1⟩
    ·have q6b:(x6 == 0) = false:=by simp [q6]
     have hr:=HR.out
     simp [q6] at hr
     subst hr
     go_wp2_with fail
     all_goals go_returns
     all_goals exact ⟨rfl,HB.out.1⟩
   ·have q5b:(x5 == 0) = false:=by simp [q5]
    have hr:=HR.out
    simp [q5] at hr
    subst hr
    go_wp2_with fail
    all_goals go_returns
    all_goals exact ⟨rfl,HB.out.1⟩
 ·have q3b:(x16 == 3) = false:=by simp [q3]
  have hr:=HR.out
  cases x7
  ·simp [q3] at hr
   subst hr
   go_wp2_with fail
   go_returns
   exact ⟨rfl,HB.out.1⟩
  ·simp [q3] at hr
   subst hr
   go_wp2_with fail
   all_goals go_returns
   all_goals exact ⟨rfl,HB.out.1⟩
end Go.Proofs.YtdpoppilnokniaaGreatDoor
namespace Go.Proofs.YtdpoppilnokniaaGreatDoor
open Go.RowKit Go.ChangeShapes Go.WideShapes Go.Deep Go.Maps
set_option linter.unusedVariables false
set_option linter.unusedSimpArgs false
set_option linter.unnecessarySimpa false
structure RdsIn (w:World) (ao:Option Addr) (n c:Nat) (F:Nat→Rid) (L:Nat→Nat→Leg) (Q:Nat→Nat→Pau):Prop where
 row:Sl w 13 ao n c (fun i=>rds (F i))
 each:∀ i,i < n→RidIn w (F i) (L i) (Q i)
theorem RdsIn.below {w w':World}{ao:Option Addr}{n c:Nat}{F:Nat→Rid}{L:Nat→Nat→Leg}{Q:Nat→Nat→Pau}(h:RdsIn w ao n c F L Q) (hb:Below w.heap.size w w'):RdsIn w' ao n c F L Q:=⟨h.row.below hb,fun i hi=>(h.each i hi).below hb⟩
structure RdsOk (n:Nat) (each:Int) (F:Nat→Rid) (L:Nat→Nat→Leg) (Q:Nat→Nat→Pau):Prop where
 each:0≤each∧each≤256
 few:n≤256
 chk:∀ i,i < n→chkE (F i) (L i) (Q i) = 0
 ids:∀ i j,i < j→j < n→(F i).id ≠ (F j).id
theorem chk_head {x:Rid}{L:Nat→Leg}{Q:Nat→Pau}(h:chkE x L Q = 0):1≤x.id∧x.id≤1000000∧0≤x.rid∧x.rid < 128∧0≤x.s0∧x.s0≤4294943999:=by
 unfold chkE at h
 split at h
 ·omega
 ·rename_i h1
  simp only[Bool.not_eq_false] at h1
  unfold rangedB headB validB at h1
  simp only[Bool.and_eq_true,decide_eq_true_eq] at h1
  omega
def idsS (F:Nat→Rid):Nat→Int→Bool
 | 0,_=>false
 | j+1,z=>if z = (F j).id then true else idsS F j z
theorem idsS_true {F:Nat→Rid}{z:Int}:∀ {j:Nat},idsS F j z = true→∃ i,i < j∧(F i).id = z
 | 0,h=>by cases h
 | j+1,h=>by
  unfold idsS at h
  split at h
  ·rename_i e;exact ⟨j,by omega,e.symm⟩
  ·obtain ⟨i,hi,e⟩:=idsS_true h;exact ⟨i,by omega,e⟩
theorem idsS_false {F:Nat→Rid}{z:Int}:∀ {j:Nat},idsS F j z = false→∀ i,i < j→(F i).id ≠ z
 | 0,h,i,hi=>by omega
 | j+1,h,i,hi=>by
  unfold idsS at h
  split at h
  ·cases h
  ·rename_i e
   by_cases q:i = j
   ·subst q;exact fun e2=>e e2.symm
   ·exact idsS_false h i (by omega)
theorem zeroB4 (w:World):(zeroValue 4).run Tryz.prog w = .ok (.bool false) w:=by kernel_rfl
set_option maxRecDepth 8000 in
set_option maxHeartbeats 16000000 in
theorem checked28 (ao:Option Addr) (n c:Nat) (F:Nat→Rid) (L:Nat→Nat→Leg) (Q:Nat→Nat→Pau) (each:Int) (w:World) (h:RdsIn w ao n c F L Q) (hn:n≤1000) :
  Calls Tryz.prog 28 #[.slice ao n c,.int .i64 each] w fun e w'=>(∃ r:Int,e = .returned (.int .i64 r)∧(r = 0↔RdsOk n each F L Q))∧Below w.heap.size w w':=by
 have hlc:=h.row.hc
 have hlm:=h.row.hm
 have H:=Lib.hid h
 clear h
 by_cases h0:each < 0
 ·have t0:decide (each < 0) = true:=decide_eq_true h0
  go_enter Tryz.func28,Tryz.ntmps28
  go_wp2_with fail
  go_returns
  exact ⟨⟨1,rfl,⟨fun e=>by omega,fun e=>by have:=e.each.1;omega⟩⟩,Below.refl _ _⟩
 have t0:decide (each < 0) = false:=decide_eq_false h0
 by_cases h1:each > 256
 ·have t1:decide (each > 256) = true:=decide_eq_true h1
  have t1o:decide (256 < each) = true:=decide_eq_true h1
  go_enter Tryz.func28,Tryz.ntmps28
  go_wp2_with fail
  go_returns
  exact ⟨⟨1,rfl,⟨fun e=>by omega,fun e=>by have:=e.each.2;omega⟩⟩,Below.refl _ _⟩
 have t1:decide (each > 256) = false:=decide_eq_false h1
 have t1o:decide (256 < each) = false:=decide_eq_false h1
 by_cases h2:(n:Int) > 256
 ·have t2:decide ((n:Int) > 256) = true:=decide_eq_true h2
  have t2o:decide (256 < (n:Int)) = true:=decide_eq_true h2
  go_enter Tryz.func28,Tryz.ntmps28
  go_wp2_with fail
  go_returns
  exact ⟨⟨8,rfl,⟨fun e=>by omega,fun e=>by have:=e.few;omega⟩⟩,Below.refl _ _⟩
 have t2:decide ((n:Int) > 256) = false:=decide_eq_false h2
 have t2o:decide (256 < (n:Int)) = false:=decide_eq_false h2
 go_enter Tryz.func28,Tryz.ntmps28
 go_wp2_with fail
 go_loopw [22] (fun s wr=>∃ j:Nat,s = .int .i64 j∧j≤n∧Hid (∀ i,i < j→chkE (F i) (L i) (Q i) = 0)∧Hid (Below w.heap.size w wr)) (fun s _=>n - (intOf s).toNat)
 case atStart=>exact ⟨0,rfl,Nat.zero_le _,Lib.hid (fun i hi=>absurd hi (Nat.not_lt_zero _)),Lib.hid (Below.refl _ _)⟩
 case round =>
  obtain ⟨j,rfl,hj,hok,hrel⟩:=hrel
  have HOK:=hok
  have HL:=hrel
  clear hok hrel
  by_cases hlt:j < n
  ·have t3:decide ((j:Int) < (n:Int)) = true:=decide_eq_true (by omega)
   have t3n:decide (j < n) = true:=decide_eq_true (by omega)
   obtain ⟨g,o,e9,hcell⟩:=(H.out.row.below HL.out).cell hlt
   have HRI:=Lib.hid ((H.out.each j hlt).below HL.out)
   try dsimp only at e9 hcell
   subst e9
   have HCE:Hid (∃ r,r = chkE (F j) (L j) (Q j)):=Lib.hid ⟨_,rfl⟩
   obtain ⟨r,hr⟩:=HCE.out
   have CK:=Lib.hid (fun w' (b:Below wr.heap.size wr w')=>check49 (F j) (L j) (Q j) w' (HRI.out.below b))
   rw[←hr] at CK
   obtain ⟨y,hy⟩:∃ y,y = F j:=⟨_,rfl⟩
   rw[←hy] at hcell CK
   have HRR:=Lib.hid hr
   clear hr hy HCE
   obtain ⟨a1,a2,a3,a4,a5,a6,a7,a8,a9,a10,a11,a12,a13,a14,a15,a16,a17⟩:=y
   have e0:wr.cell? ⟨g,o+j * 13,none⟩ = some (.int .i64 a1):=hcell 0 (by decide)
   have e1:wr.cell? ⟨g,o+j * 13+1,none⟩ = some (.int .i64 a2):=hcell 1 (by decide)
   have e2:wr.cell? ⟨g,o+j * 13+2,none⟩ = some (.int .i64 a3):=hcell 2 (by decide)
   have e3:wr.cell? ⟨g,o+j * 13+3,none⟩ = some (.int .i64 a4):=hcell 3 (by decide)
   have e4:wr.cell? ⟨g,o+j * 13+4,none⟩ = some (.int .i64 a5):=hcell 4 (by decide)
   have e5:wr.cell? ⟨g,o+j * 13+5,none⟩ = some (.int .i64 a6):=hcell 5 (by decide)
   have e6:wr.cell? ⟨g,o+j * 13+6,none⟩ = some (.bool a7):=hcell 6 (by decide)
   have e7:wr.cell? ⟨g,o+j * 13+7,none⟩ = some (.slice a8 a9 a10):=hcell 7 (by decide)
   have e8:wr.cell? ⟨g,o+j * 13+8,none⟩ = some (.slice a11 a12 a13):=hcell 8 (by decide)
   have e9':wr.cell? ⟨g,o+j * 13+9,none⟩ = some (.int .i64 a14):=hcell 9 (by decide)
   have e10:wr.cell? ⟨g,o+j * 13+10,none⟩ = some (.int .i64 a15):=hcell 10 (by decide)
   have e11:wr.cell? ⟨g,o+j * 13+11,none⟩ = some (.int .i64 a16):=hcell 11 (by decide)
   have e12:wr.cell? ⟨g,o+j * 13+12,none⟩ = some (.int .i64 a17):=hcell 12 (by decide)
   have zg:=szs (cell_lt e0)
   have BN:Hid (Below wr.heap.size wr (wr.alloc (.cells #[.int .i64 a1,.int .i64 a2,.int .i64 a3,.int .i64 a4,.int .i64 a5,.int .i64 a6,.bool a7,.slice a8 a9 a10,.slice a11 a12 a13,.int .i64 a14,.int .i64 a15,.int .i64 a16,.int .i64 a17] 71))):=Lib.hid (by (repeat' (first | with_reducible (first | exact Below.refl _ _ | assumption | refine Below.drew ?_ | refine below_drewN ?_ _ | refine Below.alloc ?_ ?_ _ | refine Below.setCell ?_ ?_ _) | go_size)))
   have XN:=Lib.hid (al_at wr (.cells #[.int .i64 a1,.int .i64 a2,.int .i64 a3,.int .i64 a4,.int .i64 a5,.int .i64 a6,.bool a7,.slice a8 a9 a10,.slice a11 a12 a13,.int .i64 a14,.int .i64 a15,.int .i64 a16,.int .i64 a17] 71) rfl)
   obtain ⟨wn,hwn⟩:∃ wn,wn = wr.alloc (.cells #[.int .i64 a1,.int .i64 a2,.int .i64 a3,.int .i64 a4,.int .i64 a5,.int .i64 a6,.bool a7,.slice a8 a9 a10,.slice a11 a12 a13,.int .i64 a14,.int .i64 a15,.int .i64 a16,.int .i64 a17] 71):=⟨_,rfl⟩
   rw[←hwn] at BN XN
   have HWN:=Lib.hid hwn
   clear hwn hcell
   unfold rds at CK
   dsimp only at CK
   go_simp
   ((repeat ((fail_if_success (rw[←HWN.out]));go_step));rw[←HWN.out])
   clear e0 e1 e2 e3 e4 e5 e6 e7 e8 e9' e10 e11 e12 zg HWN
   have n0:=cell_at XN.out 0
   have n1:=cell_at XN.out 1
   have n2:=cell_at XN.out 2
   have n3:=cell_at XN.out 3
   have n4:=cell_at XN.out 4
   have n5:=cell_at XN.out 5
   have n6:=cell_at XN.out 6
   have n7:=cell_at XN.out 7
   have n8:=cell_at XN.out 8
   have n9:=cell_at XN.out 9
   have n10:=cell_at XN.out 10
   have n11:=cell_at XN.out 11
   have n12:=cell_at XN.out 12
   have zn:=szs (block_lt XN.out)
   go_wp2_with fail
   refine (CK.out _ BN.out).mono ?_
   rintro e wp ⟨rfl,bp⟩
   have BP:=Lib.hid (HL.out.trans ((BN.out.trans (bp.mono BN.out.size)).mono HL.out.size))
   clear bp n0 n1 n2 n3 n4 n5 n6 n7 n8 n9 n10 n11 n12 zn XN BN CK HRI HL
   by_cases hr0:r = 0
   ·have HOK2:Hid (∀ i,i < j+1→chkE (F i) (L i) (Q i) = 0):=Lib.hid (fun i hi=>by
     by_cases e:i = j
     ·subst e;rw[←HRR.out];exact hr0
     ·exact HOK.out i (by omega))
    have u1:(r != 0) = false:=by simp [hr0]
    clear HRR hr0 HOK
    go_wp2_with fail
    go_roundw
    case rel=>(first | exact ⟨_,_,_,_,⟨j+1,by go_num,by omega,HOK2,BP⟩,_,_,_,_,_,_,_,_,rfl⟩ | exact ⟨_,_,_,_,⟨j+1,by go_num,by omega,HOK2,BP⟩,_,_,_,_,_,_,_,_,_,rfl⟩ | exact ⟨_,_,_,_,⟨j+1,by go_num,by omega,HOK2,BP⟩,_,_,_,_,_,_,_,_,_,_,rfl⟩ | exact ⟨_,_,_,_,⟨j+1,by go_num,by omega,HOK2,BP⟩,rfl⟩ | exact ⟨_,_,_,_,⟨j+1,by go_num,by omega,HOK2,BP⟩,rfl,rfl⟩ | exact ⟨_,_,_,_,⟨j+1,by go_num,by omega,HOK2,BP⟩,rfl,rfl,rfl⟩ | exact ⟨_,_,_,_,⟨j+1,by go_num,by omega,HOK2,BP⟩,rfl,rfl,rfl,rfl⟩ | exact ⟨_,_,_,_,⟨j+1,by go_num,by omega,HOK2,BP⟩,rfl,rfl,rfl,rfl,rfl⟩ | exact ⟨_,_,_,_,⟨j+1,by go_num,by omega,HOK2,BP⟩,rfl,rfl,rfl,rfl,rfl,rfl⟩ | exact ⟨_,_,_,_,⟨j+1,by go_num,by omega,HOK2,BP⟩,rfl,rfl,rfl,rfl,rfl,rfl,rfl⟩ | exact ⟨_,_,_,_,⟨j+1,by go_num,by omega,HOK2,BP⟩,rfl,rfl,rfl,rfl,rfl,rfl,rfl,rfl⟩)
    case measure=>simp [intOf] <;> omega
   ·have u1:(r != 0) = true:=by simp [hr0]
    have HR0:=Lib.hid hr0
    clear hr0
    go_wp2_with fail
    go_returns
    refine ⟨⟨r,rfl,⟨fun e=>absurd e HR0.out,fun e=>?_⟩⟩,BP.out⟩
    exact absurd ((HRR.out).trans (e.chk j hlt)) HR0.out
  ·have t3:decide ((j:Int) < (n:Int)) = false:=decide_eq_false (by omega)
   have t3n:decide (j < n) = false:=decide_eq_false (by omega)
   obtain rfl:j = n:=by omega
   have hmm:=@run_makeMap Tryz.prog
   have BM:Hid (Below wr.heap.size wr (wr.alloc (.map #[] 0))):=Lib.hid (by (repeat' (first | with_reducible (first | exact Below.refl _ _ | assumption | refine Below.drew ?_ | refine below_drewN ?_ _ | refine Below.alloc ?_ ?_ _ | refine Below.setCell ?_ ?_ _) | go_size)))
   have SM:=Lib.hid (IntSet.made Tryz.prog 3 4 wr)
   obtain ⟨wm,hwm⟩:∃ wm,wm = wr.alloc (.map #[] 0):=⟨_,rfl⟩
   rw[←hwm] at BM SM
   have HWM:=Lib.hid hwm
   obtain ⟨qm,hqm⟩:∃ qm,qm = wr.heap.size:=⟨_,rfl⟩
   rw[←hqm] at SM
   have HQM:=Lib.hid hqm
   have B1:=Lib.hid (HL.out.trans (BM.out.mono HL.out.size))
   have hqB:w.heap.size≤qm:=by rw[hqm];exact HL.out.size
   clear hwm hqm HL
   go_simp
   ((repeat ((fail_if_success (rw[←HWM.out]));go_step));rw[←HWM.out])
   rw[←HQM.out]
   clear HWM HQM hmm BM
   go_wp2_with fail
   go_loopw [35] (fun s wr=>∃ k:Nat,s = .int .i64 k∧k≤j∧Hid (IntSet Tryz.prog 3 4 wr qm k (idsS F k))∧Hid (∀ i l,i < l→l < k→(F i).id ≠ (F l).id)∧Hid (Below w.heap.size w wr)) (fun s _=>j - (intOf s).toNat)
   case atStart=>exact ⟨0,rfl,Nat.zero_le _,SM,Lib.hid (fun i l _ hl=>absurd hl (Nat.not_lt_zero _)),B1⟩
   case round =>
    obtain ⟨k,rfl,hk,hset,hids,hrel⟩:=hrel
    have HS:=hset
    have HI:=hids
    have HL:=hrel
    clear hset hids hrel SM B1 t3 t3n
    by_cases hlt2:k < j
    ·have t3:decide ((k:Int) < (j:Int)) = true:=decide_eq_true (by omega)
     have t3n:decide (k < j) = true:=decide_eq_true (by omega)
     obtain ⟨g,o,e9,hcell⟩:=(H.out.row.below HL.out).cell hlt2
     try dsimp only at e9 hcell
     subst e9
     have hhd:=chk_head (HOK.out k hlt2)
     have hwf:(Lit.int .i64 (F k).id).wf = true:=WalkArith.wf_i64 ⟨by omega,by omega⟩
     obtain ⟨y,hy⟩:∃ y,y = F k:=⟨_,rfl⟩
     rw[←hy] at hcell hwf
     have HY:=Lib.hid hy
     clear hy hhd
     obtain ⟨a1,a2,a3,a4,a5,a6,a7,a8,a9,a10,a11,a12,a13,a14,a15,a16,a17⟩:=y
     try dsimp only at hwf
     have e0:wr.cell? ⟨g,o+k * 13,none⟩ = some (.int .i64 a1):=hcell 0 (by decide)
     have e1:wr.cell? ⟨g,o+k * 13+1,none⟩ = some (.int .i64 a2):=hcell 1 (by decide)
     have e2:wr.cell? ⟨g,o+k * 13+2,none⟩ = some (.int .i64 a3):=hcell 2 (by decide)
     have e3:wr.cell? ⟨g,o+k * 13+3,none⟩ = some (.int .i64 a4):=hcell 3 (by decide)
     have e4:wr.cell? ⟨g,o+k * 13+4,none⟩ = some (.int .i64 a5):=hcell 4 (by decide)
     have e5:wr.cell? ⟨g,o+k * 13+5,none⟩ = some (.int .i64 a6):=hcell 5 (by decide)
     have e6:wr.cell? ⟨g,o+k * 13+6,none⟩ = some (.bool a7):=hcell 6 (by decide)
     have e7:wr.cell? ⟨g,o+k * 13+7,none⟩ = some (.slice a8 a9 a10):=hcell 7 (by decide)
     have e8:wr.cell? ⟨g,o+k * 13+8,none⟩ = some (.slice a11 a12 a13):=hcell 8 (by decide)
     have e9':wr.cell? ⟨g,o+k * 13+9,none⟩ = some (.int .i64 a14):=hcell 9 (by decide)
     have e10:wr.cell? ⟨g,o+k * 13+10,none⟩ = some (.int .i64 a15):=hcell 10 (by decide)
     have e11:wr.cell? ⟨g,o+k * 13+11,none⟩ = some (.int .i64 a16):=hcell 11 (by decide)
     have e12:wr.cell? ⟨g,o+k * 13+12,none⟩ = some (.int .i64 a17):=hcell 12 (by decide)
     have zg:=szs (cell_lt e0)
     have BN:Hid (Below wr.heap.size wr (wr.alloc (.cells #[.int .i64 a1,.int .i64 a2,.int .i64 a3,.int .i64 a4,.int .i64 a5,.int .i64 a6,.bool a7,.slice a8 a9 a10,.slice a11 a12 a13,.int .i64 a14,.int .i64 a15,.int .i64 a16,.int .i64 a17] 71))):=Lib.hid (by (repeat' (first | with_reducible (first | exact Below.refl _ _ | assumption | refine Below.drew ?_ | refine below_drewN ?_ _ | refine Below.alloc ?_ ?_ _ | refine Below.setCell ?_ ?_ _) | go_size)))
     have XN:=Lib.hid (al_at wr (.cells #[.int .i64 a1,.int .i64 a2,.int .i64 a3,.int .i64 a4,.int .i64 a5,.int .i64 a6,.bool a7,.slice a8 a9 a10,.slice a11 a12 a13,.int .i64 a14,.int .i64 a15,.int .i64 a16,.int .i64 a17] 71) rfl)
     obtain ⟨wn,hwn⟩:∃ wn,wn = wr.alloc (.cells #[.int .i64 a1,.int .i64 a2,.int .i64 a3,.int .i64 a4,.int .i64 a5,.int .i64 a6,.bool a7,.slice a8 a9 a10,.slice a11 a12 a13,.int .i64 a14,.int .i64 a15,.int .i64 a16,.int .i64 a17] 71):=⟨_,rfl⟩
     rw[←hwn] at BN XN
     have HWN:=Lib.hid hwn
     clear hwn hcell
     have SN:=Lib.hid (HS.out.below BN.out)
     have hl:=SN.out.look Tryz.underlying3 Tryz.underlying122 Tryz.underlying4 (zeroB4 _) a1 hwf
     have BP:=Lib.hid (HL.out.trans (BN.out.mono HL.out.size))
     obtain ⟨bv,hbv⟩:∃ bv,bv = idsS F k a1:=⟨_,rfl⟩
     rw[←hbv] at hl
     have HBV:=Lib.hid hbv
     clear hbv
     go_simp
     ((repeat ((fail_if_success (rw[←HWN.out]));go_step));rw[←HWN.out])
     clear e0 e1 e2 e3 e4 e5 e6 e7 e8 e9' e10 e11 e12 zg HWN
     have n0:=cell_at XN.out 0
     have zn:=szs (block_lt XN.out)
     cases bv
     ·obtain ⟨w',hrun,hp,ho⟩:=SN.out.put Tryz.underlying3 Tryz.underlying122 Tryz.underlying4 (by unfold maxLen;omega) a1 true hwf
      have HP:Hid (IntSet Tryz.prog 3 4 w' qm (k+1) (idsS F (k+1))):=Lib.hid (by
       have e:(fun z=>if z = a1 then true else idsS F k z) = idsS F (k+1):=by
        funext z
        show _ = (if z = (F k).id then true else idsS F k z)
        rw[←HY.out]
       rw[←e];exact hp)
      have HI2:Hid (∀ i l,i < l→l < k+1→(F i).id ≠ (F l).id):=Lib.hid (fun i l hil hl2=>by
       by_cases e:l = k
       ·subst e
        rw[←HY.out]
        exact idsS_false HBV.out.symm i hil
       ·exact HI.out i l hil (by omega))
      have HB2:=Lib.hid (BP.out.trans (ho.toBelow BP.out.size (fun q hq e=>by have e:q = qm:=e;omega)))
      clear hp ho HBV HY HS HI BP XN BN SN hwf HL
      go_wp2_with fail
      go_roundw
      case rel=>(first | exact ⟨_,_,_,⟨k+1,by go_num,by omega,HP,HI2,HB2⟩,_,_,_,_,_,_,_,_,_,_,rfl⟩ | exact ⟨_,_,_,⟨k+1,by go_num,by omega,HP,HI2,HB2⟩,_,_,_,_,_,_,_,_,_,_,_,rfl⟩ | exact ⟨_,_,_,⟨k+1,by go_num,by omega,HP,HI2,HB2⟩,_,_,_,_,_,_,_,_,_,_,_,_,rfl⟩ | exact ⟨_,_,_,⟨k+1,by go_num,by omega,HP,HI2,HB2⟩,rfl⟩ | exact ⟨_,_,_,⟨k+1,by go_num,by omega,HP,HI2,HB2⟩,rfl,rfl⟩ | exact ⟨_,_,_,⟨k+1,by go_num,by omega,HP,HI2,HB2⟩,rfl,rfl,rfl⟩ | exact ⟨_,_,_,⟨k+1,by go_num,by omega,HP,HI2,HB2⟩,rfl,rfl,rfl,rfl⟩ | exact ⟨_,_,_,⟨k+1,by go_num,by omega,HP,HI2,HB2⟩,rfl,rfl,rfl,rfl,rfl⟩ | exact ⟨_,_,_,⟨k+1,by go_num,by omega,HP,HI2,HB2⟩,rfl,rfl,rfl,rfl,rfl,rfl⟩ | exact ⟨_,_,_,⟨k+1,by go_num,by omega,HP,HI2,HB2⟩,rfl,rfl,rfl,rfl,rfl,rfl,rfl⟩ | exact ⟨_,_,_,⟨k+1,by go_num,by omega,HP,HI2,HB2⟩,rfl,rfl,rfl,rfl,rfl,rfl,rfl,rfl⟩)
      case measure=>simp [intOf] <;> omega
     ·clear XN SN BN
      go_wp2_with fail
      go_returns
      refine ⟨⟨6,rfl,⟨fun e=>by omega,fun e=>?_⟩⟩,BP.out⟩
      obtain ⟨i,hi,he⟩:=idsS_true HBV.out.symm
      exact absurd (by rw[he,←HY.out]) (e.ids i k hi hlt2)
    ·have t3:decide ((k:Int) < (j:Int)) = false:=decide_eq_false (by omega)
     have t3n:decide (k < j) = false:=decide_eq_false (by omega)
     obtain rfl:k = j:=by omega
     go_wp2_with fail
     go_returns
     exact ⟨⟨0,rfl,⟨fun _=>⟨⟨by omega,by omega⟩,by omega,HOK.out,fun i l hil hl=>HI.out i l hil hl⟩,fun _=>rfl⟩⟩,HL.out⟩
end Go.Proofs.YtdpoppilnokniaaGreatDoor
