/- Theorems of this seat. -/
import Derived.Test.YtdpoppilnokniaaGreatDoorWTKX
import Derived.Test.YtdpoppilnokniaaGreatDoorWNS6
import Derived.Test.YtdpoppilnokniaaGreatDoorWKB
import Derived.Test.YtdpoppilnokniaaGreatDoorWFLU
import Derived.Test.YtdpoppilnokniaaGreatDoorWPRX
namespace Go.Proofs.YtdpoppilnokniaaGreatDoor
open Go.RowKit Go.ChangeShapes Go.WideShapes Go.Deep
set_option linter.unusedVariables false
set_option linter.unusedSimpArgs false
set_option linter.unnecessarySimpa false
def chU (n:Nat) (W Z X:Nat→Int) (j:Nat):Nat→Int:=fun i=>if i < j then wtE n W (Z i - X i) else 0
def ChaP (m n:Nat) (W Z X:Nat→Int) (base:Nat) (e:Ending) (w':World):Prop :=
 ∃ v:Value,e = .returned (.tuple #[v,.int .i64 0])∧Row w' base 3 1 v m (nuR (fun i=>wtE n W (Z i - X i)))
set_option maxRecDepth 8000 in
set_option maxHeartbeats 16000000 in
theorem Chances15 (f t each a b:Int) (zo:Option Addr) (m zc:Nat) (Z:Nat→Int) (h6:Option Addr) (h6n h6c:Nat) (h7:Option Addr) (h7n h7c:Nat) (h8:Option Addr) (h8n h8c:Nat) (wo:Option Addr) (n wc:Nat) (W:Nat→Int) (xo:Option Addr) (xc:Nat) (X:Nat→Int) (w:World)
  (hZ:Sl w 1 zo m zc (nuR Z)) (hW:Sl w 1 wo n wc (nuR W)) (hX:Sl w 1 xo m xc (nuR X)) (hs:Sgn w) (okZ:TCk a b m Z) (okX:TCk a b m X) (okW:NOK n W) :
  Calls Tryz.prog 15 #[.agg #[.int .i64 f,.int .i64 t,.int .i64 each,.int .i64 a,.int .i64 b,.slice zo m zc,.slice h6 h6n h6c,.slice h7 h7n h7c,.slice h8 h8n h8c,.slice wo n wc],.agg #[.int .i64 a,.int .i64 b,.slice xo m xc]] w fun e w'=>ChaP m n W Z X w.heap.size e w'∧Below w.heap.size w w':=by
 have l1:=hZ.hm
 have l2:=hZ.hc
 have l3:=hW.hm
 have l4:=hW.hc
 have l5:=hX.hm
 have l6:=hX.hc
 have hm64:m≤64:=by
  have h1:=okX.1
  have h2:=okX.2.1
  have h3:=okX.2.2.1
  have:=Int.mul_le_mul h1.2 h2.2 (by omega) (by omega)
  omega
 have B0:Hid (Below w.heap.size w (w.alloc (.cells #[.int .i64 f,.int .i64 t,.int .i64 each,.int .i64 a,.int .i64 b,.slice zo m zc,.slice h6 h6n h6c,.slice h7 h7n h7c,.slice h8 h8n h8c,.slice wo n wc] 42))):=Lib.hid (by (repeat' (first | with_reducible (first | exact Below.refl _ _ | assumption | refine Below.drew ?_ | refine below_drewN ?_ _ | refine Below.alloc ?_ ?_ _ | refine Below.setCell ?_ ?_ _) | go_size)));have X0:=Lib.hid (al_at w (.cells #[.int .i64 f,.int .i64 t,.int .i64 each,.int .i64 a,.int .i64 b,.slice zo m zc,.slice h6 h6n h6c,.slice h7 h7n h7c,.slice h8 h8n h8c,.slice wo n wc] 42) rfl);obtain ⟨w1,hw0⟩:∃ w1,w1 = w.alloc (.cells #[.int .i64 f,.int .i64 t,.int .i64 each,.int .i64 a,.int .i64 b,.slice zo m zc,.slice h6 h6n h6c,.slice h7 h7n h7c,.slice h8 h8n h8c,.slice wo n wc] 42):=⟨_,rfl⟩;rw[←hw0] at B0 X0;have HW0:=Lib.hid hw0;clear hw0;have z0:=szs (block_lt X0.out);skip
 have B1:Hid (Below w1.heap.size w1 (w1.alloc (.cells #[.int .i64 a,.int .i64 b,.slice xo m xc] 37))):=Lib.hid (by (repeat' (first | with_reducible (first | exact Below.refl _ _ | assumption | refine Below.drew ?_ | refine below_drewN ?_ _ | refine Below.alloc ?_ ?_ _ | refine Below.setCell ?_ ?_ _) | go_size)));have X1:=Lib.hid (al_at w1 (.cells #[.int .i64 a,.int .i64 b,.slice xo m xc] 37) rfl);obtain ⟨w2,hw1⟩:∃ w2,w2 = w1.alloc (.cells #[.int .i64 a,.int .i64 b,.slice xo m xc] 37):=⟨_,rfl⟩;rw[←hw1] at B1 X1;have HW1:=Lib.hid hw1;clear hw1;have z1:=szs (block_lt X1.out);skip
 have B2:Hid (Below w2.heap.size w2 (w2.alloc (.cells #[.int .i64 a,.int .i64 b,.slice zo m zc,.int .i64 a,.int .i64 b,.slice xo m xc] 37))):=Lib.hid (by (repeat' (first | with_reducible (first | exact Below.refl _ _ | assumption | refine Below.drew ?_ | refine below_drewN ?_ _ | refine Below.alloc ?_ ?_ _ | refine Below.setCell ?_ ?_ _) | go_size)));have X2:=Lib.hid (al_at w2 (.cells #[.int .i64 a,.int .i64 b,.slice zo m zc,.int .i64 a,.int .i64 b,.slice xo m xc] 37) rfl);obtain ⟨w3,hw2⟩:∃ w3,w3 = w2.alloc (.cells #[.int .i64 a,.int .i64 b,.slice zo m zc,.int .i64 a,.int .i64 b,.slice xo m xc] 37):=⟨_,rfl⟩;rw[←hw2] at B2 X2;have HW2:=Lib.hid hw2;clear hw2;have z2:=szs (block_lt X2.out);skip
 have s1:w1.heap.size = w.heap.size+1:=by rw[HW0.out];simp
 have s2:w2.heap.size = w.heap.size+2:=by rw[HW1.out];simp [s1]
 rw[s1] at X1
 rw[s2] at X2
 have HS:=Lib.hid (And.intro s1 s2)
 have XR:=Lib.hid ((B2.out.block _ (by omega)).trans ((B1.out.block _ (by omega)).trans X0.out))
 have XT:=Lib.hid ((B2.out.block _ (by omega)).trans X1.out)
 have BB:=Lib.hid (B0.out.trans ((B1.out.trans (B2.out.mono B1.out.size)).mono B0.out.size))
 have HZ:=Lib.hid hZ
 have HW:=Lib.hid hW
 have HX:=Lib.hid hX
 have HG:=Lib.hid hs
 have OZ:=Lib.hid okZ
 have OX:=Lib.hid okX
 have OW:=Lib.hid okW
 clear hZ hW hX hs okZ okX okW s1 s2
 have a0:=cell_kept B1.out (cell_at X0.out 3)
 have a1:=cell_kept B1.out (cell_at X0.out 4)
 have a2:=cell_kept B1.out (cell_at X0.out 5)
 have c0:=cell_at X1.out 0
 have c1:=cell_at X1.out 1
 have c2:=cell_at X1.out 2
 have za:=szs (Nat.lt_of_lt_of_le z0.1 B1.out.size)
 have zc':=szs (block_lt X1.out)
 go_enter Tryz.func15,Tryz.ntmps15
 go_simp
 ((repeat ((fail_if_success (rw[←HW0.out]));go_step));rw[←HW0.out])
 go_simp
 ((repeat ((fail_if_success (rw[←HW1.out]));go_step));rw[←HW1.out])
 rw[HS.out.1]
 go_simp
 ((repeat ((fail_if_success (rw[←HW2.out]));go_step));rw[←HW2.out])
 rw[HS.out.2]
 clear HW0 HW1 HW2 a0 a1 a2 c0 c1 c2 za zc' X0 X1 B0 B1 B2 z0 z1 z2 HS
 go_wp2_with fail
 go_loopw [18] (fun s wr=>∃ j:Nat,s = .int .i64 j∧j≤2∧Hid (Below w3.heap.size w3 wr)) (fun s _=>2 - (intOf s).toNat)
 case atStart=>exact ⟨0,rfl,Nat.zero_le _,Lib.hid (Below.refl _ _)⟩
 case round =>
  obtain ⟨j,rfl,hj,hbel⟩:=hrel
  have HB:=hbel
  clear hbel
  have X2':=Lib.hid ((HB.out.block _ (block_lt X2.out)).trans X2.out)
  have XR':=Lib.hid ((HB.out.block _ (block_lt XR.out)).trans XR.out)
  have XT':=Lib.hid ((HB.out.block _ (block_lt XT.out)).trans XT.out)
  by_cases hlt:j < 2
  ·have t3:decide ((j:Int) < 2) = true:=decide_eq_true (by omega)
   have t3n:decide (j < 2) = true:=decide_eq_true (by omega)
   have e0:=cell_at X2'.out 0
   have e1:=cell_at X2'.out 1
   have e2:=cell_at X2'.out 2
   have e3:=cell_at X2'.out 3
   have e4:=cell_at X2'.out 4
   have e5:=cell_at X2'.out 5
   have ze:=szs (block_lt X2'.out)
   rcases (show j = 0∨j = 1 by omega) with e | e
   ·subst e
    have B5:Hid (Below wr.heap.size wr (wr.alloc (.cells #[.int .i64 a,.int .i64 b,.slice zo m zc] 37))):=Lib.hid (by (repeat' (first | with_reducible (first | exact Below.refl _ _ | assumption | refine Below.drew ?_ | refine below_drewN ?_ _ | refine Below.alloc ?_ ?_ _ | refine Below.setCell ?_ ?_ _) | go_size)));have X5:=Lib.hid (al_at wr (.cells #[.int .i64 a,.int .i64 b,.slice zo m zc] 37) rfl);obtain ⟨w5,hw5⟩:∃ w5,w5 = wr.alloc (.cells #[.int .i64 a,.int .i64 b,.slice zo m zc] 37):=⟨_,rfl⟩;rw[←hw5] at B5 X5;have HW5:=Lib.hid hw5;clear hw5;have z5:=szs (block_lt X5.out);have x5_0:=cell_at X5.out 0;have x5_1:=cell_at X5.out 1;have x5_2:=cell_at X5.out 2
    have CK:=Lib.hid (check31 a b zo m zc Z w5 ((HZ.out.below BB.out).below (HB.out.trans (B5.out.mono HB.out.size))))
    go_simp
    ((repeat ((fail_if_success (rw[←HW5.out]));go_step));rw[←HW5.out])
    clear e0 e1 e2 e3 e4 e5 ze HW5
    go_wp2_with fail
    refine CK.out.mono ?_
    rintro e w6 ⟨⟨r,rfl,hr⟩,b6⟩
    obtain rfl:r = 0:=hr.2 OZ.out
    have HN:=Lib.hid (HB.out.trans ((B5.out.trans (b6.mono B5.out.size)).mono HB.out.size))
    clear hr b6
    go_wp2_with fail
    go_roundw
    case rel=>(first | exact (show Exists (fun j:Nat=>_) from ⟨1,rfl,by omega,HN⟩) | (repeat (first | exact rfl | refine And.intro ((show Exists (fun j:Nat=>_) from ⟨1,rfl,by omega,HN⟩)) ?_ | apply Exists.intro)))
    case measure=>simp [intOf] <;> omega
   ·subst e
    have B5:Hid (Below wr.heap.size wr (wr.alloc (.cells #[.int .i64 a,.int .i64 b,.slice xo m xc] 37))):=Lib.hid (by (repeat' (first | with_reducible (first | exact Below.refl _ _ | assumption | refine Below.drew ?_ | refine below_drewN ?_ _ | refine Below.alloc ?_ ?_ _ | refine Below.setCell ?_ ?_ _) | go_size)));have X5:=Lib.hid (al_at wr (.cells #[.int .i64 a,.int .i64 b,.slice xo m xc] 37) rfl);obtain ⟨w5,hw5⟩:∃ w5,w5 = wr.alloc (.cells #[.int .i64 a,.int .i64 b,.slice xo m xc] 37):=⟨_,rfl⟩;rw[←hw5] at B5 X5;have HW5:=Lib.hid hw5;clear hw5;have z5:=szs (block_lt X5.out);have x5_0:=cell_at X5.out 0;have x5_1:=cell_at X5.out 1;have x5_2:=cell_at X5.out 2
    have CK:=Lib.hid (check31 a b xo m xc X w5 ((HX.out.below BB.out).below (HB.out.trans (B5.out.mono HB.out.size))))
    go_simp
    ((repeat ((fail_if_success (rw[←HW5.out]));go_step));rw[←HW5.out])
    clear e0 e1 e2 e3 e4 e5 ze HW5
    go_wp2_with fail
    refine CK.out.mono ?_
    rintro e w6 ⟨⟨r,rfl,hr⟩,b6⟩
    obtain rfl:r = 0:=hr.2 OX.out
    have HN:=Lib.hid (HB.out.trans ((B5.out.trans (b6.mono B5.out.size)).mono HB.out.size))
    clear hr b6
    go_wp2_with fail
    go_roundw
    case rel=>(first | exact (show Exists (fun j:Nat=>_) from ⟨2,rfl,by omega,HN⟩) | (repeat (first | exact rfl | refine And.intro ((show Exists (fun j:Nat=>_) from ⟨2,rfl,by omega,HN⟩)) ?_ | apply Exists.intro)))
    case measure=>simp [intOf] <;> omega
  ·have t3:decide ((j:Int) < 2) = false:=decide_eq_false (by omega)
   have t3n:decide (j < 2) = false:=decide_eq_false (by omega)
   have BB4:=Lib.hid (BB.out.trans (HB.out.mono BB.out.size))
   clear HB X2'
   have r3:=cell_at XR'.out 3
   have r4:=cell_at XR'.out 4
   have r9:=cell_at XR'.out 9
   have q0:=cell_at XT'.out 0
   have q1:=cell_at XT'.out 1
   have zr:=szs (block_lt XR'.out)
   have zt:=szs (block_lt XT'.out)
   have CW:=Lib.hid (check32 wo n wc W wr (HW.out.below BB4.out))
   go_wp2_with fail
   refine CW.out.mono ?_
   rintro e w6 ⟨⟨r,rfl,hr⟩,b6⟩
   obtain rfl:r = 0:=hr.2 OW.out
   have XR6:=Lib.hid ((b6.block _ (block_lt XR'.out)).trans XR'.out)
   have XT6:=Lib.hid ((b6.block _ (block_lt XT'.out)).trans XT'.out)
   have BB6:=Lib.hid (BB4.out.trans (b6.mono BB4.out.size))
   clear hr b6 r3 r4 r9 q0 q1 zr zt CW XR' XT' BB4 XR XT BB X2
   have hmk:=mkIn m (by omega) w6
   rw[Nat.mul_one] at hmk
   have B7:Hid (Below w6.heap.size w6 (w6.alloc (.cells (madeCells #[.int .i64 0] m) 3))):=Lib.hid (by (repeat' (first | with_reducible (first | exact Below.refl _ _ | assumption | refine Below.drew ?_ | refine below_drewN ?_ _ | refine Below.alloc ?_ ?_ _ | refine Below.setCell ?_ ?_ _) | go_size)));have X7:=Lib.hid (al_at w6 (.cells (madeCells #[.int .i64 0] m) 3) rfl);obtain ⟨w7,hw7⟩:∃ w7,w7 = w6.alloc (.cells (madeCells #[.int .i64 0] m) 3):=⟨_,rfl⟩;rw[←hw7] at B7 X7;have HW7:=Lib.hid hw7;clear hw7;have z7:=szs (block_lt X7.out);skip
   obtain ⟨qo,hqo⟩:∃ qo,qo = w6.heap.size:=⟨_,rfl⟩
   rw[←hqo] at X7 z7
   have HQO:=Lib.hid hqo
   have hq1:w.heap.size+1 < qo:=by rw[hqo];exact block_lt XT6.out
   have R7:=Lib.hid (show Row w7 qo 3 1 (.slice (some ⟨qo,0,none⟩) m m) m (nuR (chU n W Z X 0)) from Row.congr (Row.of_made (n:=m) (s:=1) (z:=#[.int .i64 0]) rfl (by decide) (by rw[Nat.mul_one];exact X7.out) (Nat.le_refl _) (by unfold maxLen;omega)) (fun j _=>by show _ = [Value.int .i64 (chU n W Z X 0 j)];unfold chU;rw[if_neg (by omega)]))
   have XR7:=Lib.hid ((B7.out.block _ (block_lt XR6.out)).trans XR6.out)
   have XT7:=Lib.hid ((B7.out.block _ (block_lt XT6.out)).trans XT6.out)
   have BB7:=Lib.hid (BB6.out.trans (B7.out.mono BB6.out.size))
   have hs7:qo < w7.heap.size:=z7.1
   have q2:=cell_at XT6.out 2
   have zt:=szs (block_lt XT6.out)
   clear hqo
   have q27:=cell_at XT7.out 2
   have zt7:=szs (block_lt XT7.out)
   go_wp2_with (rw[←HW7.out])
   rw[←HQO.out]
   clear q2 zt q27 zt7 HW7 HQO hmk XR6 XT6 BB6 B7 X7 z7
   go_loopw [55] (fun s wr=>∃ j:Nat,s = .int .i64 j∧j≤m∧Hid (Row wr qo 3 1 (.slice (some ⟨qo,0,none⟩) m m) m (nuR (chU n W Z X j)))∧Hid (Below qo w7 wr)) (fun s _=>m - (intOf s).toNat)
   case atStart=>exact ⟨0,rfl,Nat.zero_le _,R7,Lib.hid (Below.refl _ _)⟩
   case round =>
    obtain ⟨j,rfl,hj,hrow,hbel⟩:=hrel
    have HR:=hrow
    have HB:=hbel
    clear hrow hbel R7
    have XR8:=Lib.hid ((HB.out.block _ (by omega)).trans XR7.out)
    have XT8:=Lib.hid ((HB.out.block _ (by omega)).trans XT7.out)
    have BB8:=Lib.hid (BB7.out.trans (HB.out.mono (by omega)))
    by_cases hlt:j < m
    ·have t4:decide ((j:Int) < (m:Int)) = true:=decide_eq_true (by omega)
     have t4n:decide (j < m) = true:=decide_eq_true (by omega)
     obtain ⟨gz,oz,rfl,hgz,cz⟩:=(HZ.out.below BB8.out).num1 hlt
     obtain ⟨gx,ox,rfl,hgx,cx⟩:=(HX.out.below BB8.out).num1 hlt
     have hzb:=OZ.out.2.2.2 j hlt
     have hxb:=OX.out.2.2.2 j hlt
     obtain ⟨y,hy⟩:∃ y,y = Z j:=⟨_,rfl⟩
     obtain ⟨x,hx⟩:∃ x,x = X j:=⟨_,rfl⟩
     rw[←hy] at cz hzb
     rw[←hx] at cx hxb
     have CWt:=Lib.hid (fun w' (b:Below wr.heap.size wr w')=>Weight33 wo n wc W (y - x) w' ((HW.out.below BB8.out).below b) ((HG.out.below BB8.out).below b) (by omega) OW.out)
     have HV:=Lib.hid (show wtE n W (y - x) = wtE n W (Z j - X j) by rw[hy,hx])
     have ew:wrap64 (y - x) = y - x:=by unfold wrap64;omega
     have hjI:(j:Int) < (m:Int):=by omega
     clear hy hx
     have r5:=cell_at XR8.out 5
     have r9:=cell_at XR8.out 9
     have q2:=cell_at XT8.out 2
     have zr:=szs (block_lt XR8.out)
     have zt:=szs (block_lt XT8.out)
     have zz:=szs hgz
     have zx:=szs hgx
     have fo:=fun i=>Row.free HR.out i
     have k0:wr.cell? ⟨qo,j * 1+0,none⟩ = some (.int .i64 (chU n W Z X j j)):=Row.cell HR.out (fun i=>rfl) hlt (j:=0) (by decide)
     rw[Nat.mul_one,Nat.add_zero] at k0
     have zo':=szs (World.ownsRow.lt HR.out qo rfl).2
     go_wp2_with fail
     (obtain ⟨ι,hne,Fw,fb,hF⟩:=grow_family wr);have hF:∀ w',(sPlan wr (fun s=>s = [.int .i64 (wtE n W (y - x))]) [12] [] []).D [] w'→∃ i,w' = Fw i:=hF
     have f5:=fun i=>cell_kept (fb i) r5
     have f9:=fun i=>cell_kept (fb i) r9
     have f2:=fun i=>cell_kept (fb i) q2
     have fz:=fun i=>cell_kept (fb i) cz
     have fx:=fun i=>cell_kept (fb i) cx
     clear r5 r9 q2 cz cx zr zt zz zx hgz hgx
     replace k0:=Lib.hid k0
     replace fo:=Lib.hid fo
     replace zo':=Lib.hid zo'
     (refine region_chainO (sPlan wr (fun s=>s = [.int .i64 (wtE n W (y - x))]) [12] [] []) [] [] [0,1,2,3,4,5,6,7,8,9,10,11,12] [13,14] mixed (by kernel_rfl) (by kernel_rfl) (fun _ _ h=>nomatch h) (sPlan_ok (by simp) (by simp)) sPlan_start ?_;refine wpPure_nil ?_;simp only[List.map_cons,List.map_nil,Array.getD_eq_getD_getElem?,List.getElem?_toArray,List.getElem?_cons_zero,List.getElem?_cons_succ,Option.getD_some])
     (repeat (first | (refine wpChainO_skip rfl ?_;simp only[Act.put,List.setIfInBounds_toArray,List.set_cons_succ,List.set_cons_zero]) | (refine wpChainO_quiet hF rfl rfl rfl ?_;intro K hK;go_big_quiet_op;go_big_quiet_on) | (refine wpChainO_pure _ rfl rfl (fun w' _=>by go_simp;try rfl) ?_;simp only[Act.put,List.setIfInBounds_toArray,List.set_cons_succ,List.set_cons_zero])))
     refine wpChainO_scall 33 #[.agg #[.slice wo n wc],.int .i64 (y - x)] rfl rfl (fun w'=>by go_simp) (fun w' hb=>?_) ?_
     ·refine (CWt.out w' hb).mono ?_
      rintro e w5 ⟨rfl,hb5⟩
      exact ⟨_,rfl,rfl,hb5⟩
     rintro u9 hu9
     cases hu9
     simp only[Act.put,List.setIfInBounds_toArray,List.set_cons_succ,List.set_cons_zero]
     (repeat (first | (refine wpChainO_skip rfl ?_;simp only[Act.put,List.setIfInBounds_toArray,List.set_cons_succ,List.set_cons_zero]) | (refine wpChainO_quiet hF rfl rfl rfl ?_;intro K hK;go_big_quiet_op;go_big_quiet_on) | (refine wpChainO_pure _ rfl rfl (fun w' _=>by go_simp;try rfl) ?_;simp only[Act.put,List.setIfInBounds_toArray,List.set_cons_succ,List.set_cons_zero])))
     refine wpChainO_nil (fun w9 hb9 hl9=>?_)
     have b9:Below wr.heap.size wr w9:=hb9
     have R9:=Lib.hid (Row.off (X:=fun _=>False) HR.out (Off.of_below b9) (fun _ _ h=>h))
     have B9:=Lib.hid (HB.out.trans (b9.mono (by have:=HB.out.size;omega)))
     have k9:=cell_kept b9 k0.out
     have fo9:=fun i=>Row.free R9.out i
     have z9:=szs (World.ownsRow.lt R9.out qo rfl).2
     clear hb9 hl9 hF fb hne b9 f5 f9 f2 fz fx k0 fo zo' HR HB CWt XR8 XT8 BB8
     obtain ⟨u,hu⟩:∃ u,u = wtE n W (y - x):=⟨_,rfl⟩
     rw[←hu] at HV ⊢
     have O9:Off (fun q=>q = qo) w9 (w9.setCell ⟨qo,j,none⟩ (.int .i64 u)):=off_set
     have HN:Hid (Row (w9.setCell ⟨qo,j,none⟩ (.int .i64 u)) qo 3 1 (.slice (some ⟨qo,0,none⟩) m m) m (nuR (chU n W Z X (j+1)))):=Lib.hid (by
      have h1:=Row.store R9.out (fun i=>rfl) hlt (j:=0) (by decide) (.int .i64 u)
      rw[Nat.mul_one,Nat.add_zero] at h1
      refine Row.congr h1 (fun l _=>?_)
      show _ = [Value.int .i64 (chU n W Z X (j+1) l)]
      by_cases e:l = j
      ·subst e;rw[upd_same];unfold chU;rw[if_pos (by omega),←HV.out];rfl
      ·rw[upd_ne e];unfold nuR chU;by_cases q:l < j
       ·rw[if_pos q,if_pos (by omega)]
       ·rw[if_neg q,if_neg (by omega)])
     have HNB:Hid (Below qo w7 (w9.setCell ⟨qo,j,none⟩ (.int .i64 u))):=Lib.hid (B9.out.trans (O9.toBelow (by have:=z9.1;omega) (fun q hq e=>by have e:q = qo:=e;omega)))
     clear hu R9 B9 O9
     go_wp2_with fail
     try (refine onlyN_intro ?_;go_wp2_with fail)
     go_roundw
     case rel=>(first | exact (show Exists (fun j:Nat=>_) from ⟨j+1,by go_num,by omega,HN,HNB⟩) | (repeat (first | exact rfl | refine And.intro ((show Exists (fun j:Nat=>_) from ⟨j+1,by go_num,by omega,HN,HNB⟩)) ?_ | apply Exists.intro)))
     case measure=>simp [intOf] <;> omega
    ·have t4:decide ((j:Int) < (m:Int)) = false:=decide_eq_false (by omega)
     have t4n:decide (j < m) = false:=decide_eq_false (by omega)
     obtain rfl:j = m:=by omega
     go_wp2_with fail
     go_returns
     refine ⟨⟨_,rfl,Row.congr (Row.base_mono HR.out (by omega)) (fun i hi=>?_)⟩,BB8.out⟩
     show [Value.int .i64 (chU n W Z X j i)] = [Value.int .i64 (wtE n W (Z i - X i))]
     unfold chU
     rw[if_pos hi]
end Go.Proofs.YtdpoppilnokniaaGreatDoor
namespace Go.Proofs.YtdpoppilnokniaaGreatDoor
open Go.RowKit Go.ChangeShapes Go.WideShapes Go.Deep
set_option linter.unusedVariables false
set_option linter.unusedSimpArgs false
set_option linter.unnecessarySimpa false
def AlkI (num den:Int) (x y:Int) (u v:Int):Prop :=
 ∃ k:Nat,k≤3∧max (x - y) (y - x) = (k:Int)∧powE den k * u≤powE num k * v∧powE den k * v≤powE num k * u
theorem prod_small {a b:Int}(ha:0≤a∧a≤1073741824) (hb:0≤b∧b≤16777216):0≤a * b∧a * b≤18014398509481984:=by
 constructor
 ·exact Int.mul_nonneg ha.1 hb.1
 ·have:=Int.mul_le_mul ha.2 hb.2 hb.1 (by omega)
  omega
theorem powE_small {n:Int}(h:1≤n∧n≤1024) {k:Nat}(hk:k≤3):0≤powE n k∧powE n k≤1073741824:=by
 have h1:=powE_bound h k
 have h2:1024 ^ k≤1024 ^ 3:=Nat.pow_le_pow_right (by omega) hk
 have h3:(1024 ^ k:Nat)≤1073741824:=h2
 omega
set_option maxRecDepth 8000 in
set_option maxHeartbeats 16000000 in
theorem Alike16 (f t each a b:Int) (zo:Option Addr) (m zc:Nat) (Z:Nat→Int) (h6:Option Addr) (h6n h6c:Nat) (h7:Option Addr) (h7n h7c:Nat) (h8:Option Addr) (h8n h8c:Nat) (wo:Option Addr) (n wc:Nat) (W:Nat→Int) (xo:Option Addr) (xc:Nat) (X:Nat→Int) (yo:Option Addr) (yc:Nat) (Y:Nat→Int) (num den:Int) (w:World)
  (hZ:Sl w 1 zo m zc (nuR Z)) (hW:Sl w 1 wo n wc (nuR W)) (hX:Sl w 1 xo m xc (nuR X)) (hY:Sl w 1 yo m yc (nuR Y)) (hs:Sgn w) (okZ:TCk a b m Z) (okX:TCk a b m X) (okY:TCk a b m Y) (okW:NOK n W) (hr:(1≤den∧den≤num)∧num≤1024) (hA:∀ i,i < m→AlkI num den (X i) (Y i) (wtE n W (Z i - X i)) (wtE n W (Z i - Y i))) :
  Calls Tryz.prog 16 #[.agg #[.int .i64 f,.int .i64 t,.int .i64 each,.int .i64 a,.int .i64 b,.slice zo m zc,.slice h6 h6n h6c,.slice h7 h7n h7c,.slice h8 h8n h8c,.slice wo n wc],.agg #[.int .i64 a,.int .i64 b,.slice xo m xc],.agg #[.int .i64 a,.int .i64 b,.slice yo m yc],.agg #[.int .i64 num,.int .i64 den]] w fun e w'=>e = .returned (.bool true)∧Below w.heap.size w w':=by
 have hm64:m≤64:=by
  have h1:=okX.1
  have h2:=okX.2.1
  have h3:=okX.2.2.1
  have:=Int.mul_le_mul h1.2 h2.2 (by omega) (by omega)
  omega
 have l5:=hX.hm
 have l6:=hX.hc
 have l7:=hY.hm
 have l8:=hY.hc
 have B0:Hid (Below w.heap.size w (w.alloc (.cells #[.int .i64 f,.int .i64 t,.int .i64 each,.int .i64 a,.int .i64 b,.slice zo m zc,.slice h6 h6n h6c,.slice h7 h7n h7c,.slice h8 h8n h8c,.slice wo n wc] 42))):=Lib.hid (by (repeat' (first | with_reducible (first | exact Below.refl _ _ | assumption | refine Below.drew ?_ | refine below_drewN ?_ _ | refine Below.alloc ?_ ?_ _ | refine Below.setCell ?_ ?_ _) | go_size)));have X0:=Lib.hid (al_at w (.cells #[.int .i64 f,.int .i64 t,.int .i64 each,.int .i64 a,.int .i64 b,.slice zo m zc,.slice h6 h6n h6c,.slice h7 h7n h7c,.slice h8 h8n h8c,.slice wo n wc] 42) rfl);obtain ⟨w1,hw0⟩:∃ w1,w1 = w.alloc (.cells #[.int .i64 f,.int .i64 t,.int .i64 each,.int .i64 a,.int .i64 b,.slice zo m zc,.slice h6 h6n h6c,.slice h7 h7n h7c,.slice h8 h8n h8c,.slice wo n wc] 42):=⟨_,rfl⟩;rw[←hw0] at B0 X0;have HW0:=Lib.hid hw0;clear hw0;have z0:=szs (block_lt X0.out);skip
 have B1:Hid (Below w1.heap.size w1 (w1.alloc (.cells #[.int .i64 a,.int .i64 b,.slice xo m xc] 37))):=Lib.hid (by (repeat' (first | with_reducible (first | exact Below.refl _ _ | assumption | refine Below.drew ?_ | refine below_drewN ?_ _ | refine Below.alloc ?_ ?_ _ | refine Below.setCell ?_ ?_ _) | go_size)));have X1:=Lib.hid (al_at w1 (.cells #[.int .i64 a,.int .i64 b,.slice xo m xc] 37) rfl);obtain ⟨w2,hw1⟩:∃ w2,w2 = w1.alloc (.cells #[.int .i64 a,.int .i64 b,.slice xo m xc] 37):=⟨_,rfl⟩;rw[←hw1] at B1 X1;have HW1:=Lib.hid hw1;clear hw1;have z1:=szs (block_lt X1.out);skip
 have B2:Hid (Below w2.heap.size w2 (w2.alloc (.cells #[.int .i64 a,.int .i64 b,.slice yo m yc] 37))):=Lib.hid (by (repeat' (first | with_reducible (first | exact Below.refl _ _ | assumption | refine Below.drew ?_ | refine below_drewN ?_ _ | refine Below.alloc ?_ ?_ _ | refine Below.setCell ?_ ?_ _) | go_size)));have X2:=Lib.hid (al_at w2 (.cells #[.int .i64 a,.int .i64 b,.slice yo m yc] 37) rfl);obtain ⟨w3,hw2⟩:∃ w3,w3 = w2.alloc (.cells #[.int .i64 a,.int .i64 b,.slice yo m yc] 37):=⟨_,rfl⟩;rw[←hw2] at B2 X2;have HW2:=Lib.hid hw2;clear hw2;have z2:=szs (block_lt X2.out);skip
 have B3:Hid (Below w3.heap.size w3 (w3.alloc (.cells #[.int .i64 num,.int .i64 den] 50))):=Lib.hid (by (repeat' (first | with_reducible (first | exact Below.refl _ _ | assumption | refine Below.drew ?_ | refine below_drewN ?_ _ | refine Below.alloc ?_ ?_ _ | refine Below.setCell ?_ ?_ _) | go_size)));have X3:=Lib.hid (al_at w3 (.cells #[.int .i64 num,.int .i64 den] 50) rfl);obtain ⟨w4,hw3⟩:∃ w4,w4 = w3.alloc (.cells #[.int .i64 num,.int .i64 den] 50):=⟨_,rfl⟩;rw[←hw3] at B3 X3;have HW3:=Lib.hid hw3;clear hw3;have z3:=szs (block_lt X3.out);skip
 have s1:w1.heap.size = w.heap.size+1:=by rw[HW0.out];simp
 have s2:w2.heap.size = w.heap.size+2:=by rw[HW1.out];simp [s1]
 have s3:w3.heap.size = w.heap.size+3:=by rw[HW2.out];simp [s2]
 rw[s1] at X1
 rw[s2] at X2
 rw[s3] at X3
 have HS:=Lib.hid (And.intro s1 (And.intro s2 s3))
 have B34:=B3.out
 have B24:=B2.out.trans (B34.mono B2.out.size)
 have B14:=B1.out.trans (B24.mono B1.out.size)
 have XR:=Lib.hid ((B14.block _ (by omega)).trans X0.out)
 have XX:=Lib.hid ((B24.block _ (by omega)).trans X1.out)
 have XY:=Lib.hid ((B34.block _ (by omega)).trans X2.out)
 have BB:=Lib.hid (B0.out.trans (B14.mono B0.out.size))
 have CX:=Lib.hid (Chances15 f t each a b zo m zc Z h6 h6n h6c h7 h7n h7c h8 h8n h8c wo n wc W xo xc X w4 (hZ.below BB.out) (hW.below BB.out) (hX.below BB.out) (hs.below BB.out) okZ okX okW)
 have CY:=Lib.hid (fun w' (bb:Below w4.heap.size w4 w')=>Chances15 f t each a b zo m zc Z h6 h6n h6c h7 h7n h7c h8 h8n h8c wo n wc W yo yc Y w' ((hZ.below BB.out).below bb) ((hW.below BB.out).below bb) ((hY.below BB.out).below bb) ((hs.below BB.out).below bb) okZ okY okW)
 have HX:=Lib.hid hX
 have HYs:=Lib.hid hY
 have OX:=Lib.hid okX
 have OY:=Lib.hid okY
 have OW:=Lib.hid okW
 have HA:=Lib.hid hA
 clear hZ hW hX hY hs okZ okX okY okW hA s1 s2 s3 B34 B24 B14
 obtain ⟨⟨hr1,hr2⟩,hr3⟩:=hr
 have d1:decide (den < 1) = false:=decide_eq_false (by omega)
 have d2:decide (den > num) = false:=decide_eq_false (by omega)
 have d2o:decide (num < den) = false:=decide_eq_false (by omega)
 have d3:decide (num > 1024) = false:=decide_eq_false (by omega)
 have d3o:decide (1024 < num) = false:=decide_eq_false (by omega)
 go_enter Tryz.func16,Tryz.ntmps16
 go_simp
 ((repeat ((fail_if_success (rw[←HW0.out]));go_step));rw[←HW0.out])
 go_simp
 ((repeat ((fail_if_success (rw[←HW1.out]));go_step));rw[←HW1.out])
 rw[HS.out.1]
 go_simp
 ((repeat ((fail_if_success (rw[←HW2.out]));go_step));rw[←HW2.out])
 rw[HS.out.2.1]
 go_simp
 ((repeat ((fail_if_success (rw[←HW3.out]));go_step));rw[←HW3.out])
 rw[HS.out.2.2]
 clear HW0 HW1 HW2 HW3 X0 X1 X2 B0 B1 B2 B3 z0 z1 z2 z3 HS
 have r0:=cell_at XR.out 0
 have r1:=cell_at XR.out 1
 have r2:=cell_at XR.out 2
 have r3:=cell_at XR.out 3
 have r4:=cell_at XR.out 4
 have r5:=cell_at XR.out 5
 have r6:=cell_at XR.out 6
 have r7:=cell_at XR.out 7
 have r8:=cell_at XR.out 8
 have r9:=cell_at XR.out 9
 have x0:=cell_at XX.out 0
 have x1:=cell_at XX.out 1
 have x2:=cell_at XX.out 2
 have zr:=szs (block_lt XR.out)
 have zx:=szs (block_lt XX.out)
 go_wp2_with fail
 refine CX.out.mono ?_
 rintro e w5 ⟨⟨v,rfl,hv⟩,b5⟩
 obtain ⟨uo,uc,rfl,hu⟩:=Row.toSl hv (fun _=>rfl)
 have XR5:=Lib.hid ((b5.block _ (block_lt XR.out)).trans XR.out)
 have XX5:=Lib.hid ((b5.block _ (block_lt XX.out)).trans XX.out)
 have XY5:=Lib.hid ((b5.block _ (block_lt XY.out)).trans XY.out)
 have X35:=Lib.hid ((b5.block _ (block_lt X3.out)).trans X3.out)
 have B5:=Lib.hid b5
 have BB5:=Lib.hid (BB.out.trans (b5.mono BB.out.size))
 have HU:=Lib.hid hu
 have lu1:=hu.hm
 have lu2:=hu.hc
 clear b5 hv hu r0 r1 r2 r3 r4 r5 r6 r7 r8 r9 x0 x1 x2 zr zx XR XX XY X3 BB CX
 have r0:=cell_at XR5.out 0
 have r1:=cell_at XR5.out 1
 have r2:=cell_at XR5.out 2
 have r3:=cell_at XR5.out 3
 have r4:=cell_at XR5.out 4
 have r5:=cell_at XR5.out 5
 have r6:=cell_at XR5.out 6
 have r7:=cell_at XR5.out 7
 have r8:=cell_at XR5.out 8
 have r9:=cell_at XR5.out 9
 have x0:=cell_at XY5.out 0
 have x1:=cell_at XY5.out 1
 have x2:=cell_at XY5.out 2
 have zr:=szs (block_lt XR5.out)
 have zx:=szs (block_lt XY5.out)
 go_wp2_with fail
 refine (CY.out w5 B5.out).mono ?_
 rintro e w6 ⟨⟨v,rfl,hv⟩,b6⟩
 obtain ⟨vo,vc,rfl,hu⟩:=Row.toSl hv (fun _=>rfl)
 have XX6:=Lib.hid ((b6.block _ (block_lt XX5.out)).trans XX5.out)
 have XY6:=Lib.hid ((b6.block _ (block_lt XY5.out)).trans XY5.out)
 have X36:=Lib.hid ((b6.block _ (block_lt X35.out)).trans X35.out)
 have BB6:=Lib.hid (BB5.out.trans (b6.mono BB5.out.size))
 have HU6:=Lib.hid (HU.out.below b6)
 have HV6:=Lib.hid hu
 have lv1:=hu.hm
 have lv2:=hu.hc
 clear b6 hv hu r0 r1 r2 r3 r4 r5 r6 r7 r8 r9 x0 x1 x2 zr zx XR5 XX5 XY5 X35 BB5 CY B5 HU
 have q0:=cell_at X36.out 0
 have q1:=cell_at X36.out 1
 have zq:=szs (block_lt X36.out)
 go_wp2_with fail
 clear q0 q1 zq
 go_loopw [54] (fun s wr=>∃ j:Nat,s = .int .i64 j∧j≤m∧Hid (Below w6.heap.size w6 wr)) (fun s _=>m - (intOf s).toNat)
 case atStart=>exact ⟨0,rfl,Nat.zero_le _,Lib.hid (Below.refl _ _)⟩
 case round =>
  obtain ⟨j,rfl,hj,hbel⟩:=hrel
  have HB:=hbel
  clear hbel
  by_cases hlt:j < m
  ·have t3:decide ((j:Int) < (m:Int)) = true:=decide_eq_true (by omega)
   have t3n:decide (j < m) = true:=decide_eq_true (by omega)
   have hjI:(j:Int) < (m:Int):=by omega
   have BBr:=Lib.hid (BB6.out.trans (HB.out.mono BB6.out.size))
   obtain ⟨gx,ox,rfl,hgx,cx⟩:=(HX.out.below BBr.out).num1 hlt
   obtain ⟨gy,oy,rfl,hgy,cy⟩:=(HYs.out.below BBr.out).num1 hlt
   obtain ⟨gu,ou,rfl,hgu,cu⟩:=(HU6.out.below HB.out).num1 hlt
   obtain ⟨gv,ov,rfl,hgv,cv⟩:=(HV6.out.below HB.out).num1 hlt
   have hxb:=OX.out.2.2.2 j hlt
   have hyb:=OY.out.2.2.2 j hlt
   obtain ⟨k,hk3,hkm,hp1,hp2⟩:=HA.out j hlt
   have hub:=wtE_bound OW.out (Z j - X j)
   have hvb:=wtE_bound OW.out (Z j - Y j)
   obtain ⟨x,hx⟩:∃ x,x = X j:=⟨_,rfl⟩
   obtain ⟨y,hy⟩:∃ y,y = Y j:=⟨_,rfl⟩
   obtain ⟨u,hu⟩:∃ u,u = wtE n W (Z j - X j):=⟨_,rfl⟩
   obtain ⟨v,hv⟩:∃ v,v = wtE n W (Z j - Y j):=⟨_,rfl⟩
   rw[←hx] at cx hxb hkm
   rw[←hy] at cy hyb hkm
   rw[←hu] at cu hub hp1 hp2
   rw[←hv] at cv hvb hp1 hp2
   clear hx hy hu hv
   have hnb:=powE_small (n:=num) ⟨by omega,by omega⟩ hk3
   have hdb:=powE_small (n:=den) ⟨by omega,by omega⟩ hk3
   have CPN:=Lib.hid (fun w'=>power34 num k w' ⟨by omega,by omega⟩ hk3)
   have CPD:=Lib.hid (fun w'=>power34 den k w' ⟨by omega,by omega⟩ hk3)
   obtain ⟨pn,hpn⟩:∃ pn,pn = powE num k:=⟨_,rfl⟩
   obtain ⟨pd,hpd⟩:∃ pd,pd = powE den k:=⟨_,rfl⟩
   rw[←hpn] at hp1 hp2 hnb CPN
   rw[←hpd] at hp1 hp2 hdb CPD
   have g1:=prod_small hdb hub
   have g2:=prod_small hnb hvb
   have g3:=prod_small hdb hvb
   have g4:=prod_small hnb hub
   obtain ⟨m1,hm1⟩:∃ m1,pd * u = m1:=⟨_,rfl⟩
   obtain ⟨m2,hm2⟩:∃ m2,pn * v = m2:=⟨_,rfl⟩
   obtain ⟨m3,hm3⟩:∃ m3,pd * v = m3:=⟨_,rfl⟩
   obtain ⟨m4,hm4⟩:∃ m4,pn * u = m4:=⟨_,rfl⟩
   rw[hm1] at g1 hp1
   rw[hm2] at g2 hp1
   rw[hm3] at g3 hp2
   rw[hm4] at g4 hp2
   have e1:wrap64 (pd * u) = m1:=by rw[hm1];unfold wrap64;omega
   have e2:wrap64 (pn * v) = m2:=by rw[hm2];unfold wrap64;omega
   have e3:wrap64 (pd * v) = m3:=by rw[hm3];unfold wrap64;omega
   have e4:wrap64 (pn * u) = m4:=by rw[hm4];unfold wrap64;omega
   have f1:decide (m1 > m2) = false:=decide_eq_false (by omega)
   have f1o:decide (m2 < m1) = false:=decide_eq_false (by omega)
   have f2:decide (m3 > m4) = false:=decide_eq_false (by omega)
   have f2o:decide (m4 < m3) = false:=decide_eq_false (by omega)
   have k3:decide ((k:Int) > 3) = false:=decide_eq_false (by omega)
   have k3o:decide (3 < (k:Int)) = false:=decide_eq_false (by omega)
   have k3n:decide (3 < k) = false:=decide_eq_false (by omega)
   clear hpn hpd hp1 hp2
   have XX7:=Lib.hid ((HB.out.block _ (block_lt XX6.out)).trans XX6.out)
   have XY7:=Lib.hid ((HB.out.block _ (block_lt XY6.out)).trans XY6.out)
   have X37:=Lib.hid ((HB.out.block _ (block_lt X36.out)).trans X36.out)
   have x2:=cell_at XX7.out 2
   have y2:=cell_at XY7.out 2
   have zx:=szs (block_lt XX7.out)
   have zy:=szs (block_lt XY7.out)
   have zgx:=szs hgx
   have zgy:=szs hgy
   go_wp2_with fail
   (refine region_all (fun i:Nat=>World.drewN _ i) mixed (by kernel_rfl) ⟨1,rfl⟩ ?_;(repeat (any_goals (first | go_big_quiet_step (fail) | quiet_step (fail) | (refine wpQuiet_step (fun K hK=>?_);go_simp;split <;> (refine hK _ ?_;clear hK K)))));(all_goals (refine wpQuiet_nil (fun nq=>?_))))
   have BQ:Hid (Below wr.heap.size wr (wr.drewN nq)):=Lib.hid (by (repeat' (first | with_reducible (first | exact Below.refl _ _ | assumption | refine Below.drew ?_ | refine below_drewN ?_ _ | refine Below.alloc ?_ ?_ _ | refine Below.setCell ?_ ?_ _) | go_size)))
   obtain ⟨w7,hw7⟩:∃ w7,w7 = wr.drewN nq:=⟨_,rfl⟩
   rw[←hw7] at BQ ⊢
   have cu7:=cell_kept BQ.out cu
   have cv7:=cell_kept BQ.out cv
   have X38:=Lib.hid ((BQ.out.block _ (block_lt X37.out)).trans X37.out)
   have B7:=Lib.hid (HB.out.trans (BQ.out.mono HB.out.size))
   have n0:=cell_at X38.out 0
   have n1:=cell_at X38.out 1
   have zn:=szs (block_lt X38.out)
   have zgu:=szs (cell_lt cu7)
   have zgv:=szs (cell_lt cv7)
   clear hw7 x2 y2 zx zy zgx zgy hgx hgy cx cy cu cv hgu hgv HB BQ XX7 XY7 X37
   go_wp2_with fail
   (obtain ⟨ι,hne,Fw,fb,hF⟩:=grow_family w7);have hF:∀ w',(sPlan w7 (fun s=>s = [.int .i64 pn]∨s = [.int .i64 pd,.int .i64 pn]) [3,7] [] []).D [] w'→∃ i,w' = Fw i:=hF
   have fn0:=fun i=>cell_kept (fb i) n0
   have fn1:=fun i=>cell_kept (fb i) n1
   clear n0 n1 zn
   replace cu7:=Lib.hid cu7
   replace cv7:=Lib.hid cv7
   replace zgu:=Lib.hid zgu
   replace zgv:=Lib.hid zgv
   (refine region_chainO (sPlan w7 (fun s=>s = [.int .i64 pn]∨s = [.int .i64 pd,.int .i64 pn]) [3,7] [] []) [] [] [0,1,2,4,5,6,3,7,8,9] [] mixed (by kernel_rfl) (by kernel_rfl) (fun _ _ h=>nomatch h) (sPlan_ok (by simp) (by simp)) sPlan_start ?_;refine wpPure_nil ?_;simp only[List.map_cons,List.map_nil,Array.getD_eq_getD_getElem?,List.getElem?_toArray,List.getElem?_cons_zero,List.getElem?_cons_succ,Option.getD_some])
   (repeat (first | (refine wpChainO_skip rfl ?_;simp only[Act.put,List.setIfInBounds_toArray,List.set_cons_succ,List.set_cons_zero]) | (refine wpChainO_quiet hF rfl rfl rfl ?_;intro K hK;go_big_quiet_op;go_big_quiet_on) | (refine wpChainO_pure _ rfl rfl (fun w' _=>by go_simp;try rfl) ?_;simp only[Act.put,List.setIfInBounds_toArray,List.set_cons_succ,List.set_cons_zero])))
   refine wpChainO_scall 34 #[.int .i64 num,.int .i64 k] rfl rfl (fun w'=>by go_simp) (fun w' hb=>?_) ?_
   ·refine (CPN.out w').mono ?_
    rintro e w5 ⟨rfl,rfl⟩
    exact ⟨_,rfl,Or.inl rfl,Below.refl _ _⟩
   rintro u9 hu9
   obtain rfl:u9 = .int .i64 pn:=by
    rcases hu9 with h | h
    ·simpa using h
    ·exact absurd (congrArg List.length h) (by simp)
   simp only[Act.put,List.setIfInBounds_toArray,List.set_cons_succ,List.set_cons_zero]
   (repeat (first | (refine wpChainO_skip rfl ?_;simp only[Act.put,List.setIfInBounds_toArray,List.set_cons_succ,List.set_cons_zero]) | (refine wpChainO_quiet hF rfl rfl rfl ?_;intro K hK;go_big_quiet_op;go_big_quiet_on) | (refine wpChainO_pure _ rfl rfl (fun w' _=>by go_simp;try rfl) ?_;simp only[Act.put,List.setIfInBounds_toArray,List.set_cons_succ,List.set_cons_zero])))
   refine wpChainO_scall 34 #[.int .i64 den,.int .i64 k] rfl rfl (fun w'=>by go_simp) (fun w' hb=>?_) ?_
   ·refine (CPD.out w').mono ?_
    rintro e w5 ⟨rfl,rfl⟩
    exact ⟨_,rfl,Or.inr rfl,Below.refl _ _⟩
   rintro u8 hu8
   obtain rfl:u8 = .int .i64 pd:=by
    rcases hu8 with h | h
    ·exact absurd (congrArg List.length h) (by simp)
    ·simpa using h
   simp only[Act.put,List.setIfInBounds_toArray,List.set_cons_succ,List.set_cons_zero]
   (repeat (first | (refine wpChainO_skip rfl ?_;simp only[Act.put,List.setIfInBounds_toArray,List.set_cons_succ,List.set_cons_zero]) | (refine wpChainO_quiet hF rfl rfl rfl ?_;intro K hK;go_big_quiet_op;go_big_quiet_on) | (refine wpChainO_pure _ rfl rfl (fun w' _=>by go_simp;try rfl) ?_;simp only[Act.put,List.setIfInBounds_toArray,List.set_cons_succ,List.set_cons_zero])))
   refine wpChainO_nil (fun w9 hb9 hl9=>?_)
   have b9:Below w7.heap.size w7 w9:=hb9
   have B9:=Lib.hid (B7.out.trans (b9.mono B7.out.size))
   have cu9:=cell_kept b9 cu7.out
   have cv9:=cell_kept b9 cv7.out
   have zu9:=szs (cell_lt cu9)
   have zv9:=szs (cell_lt cv9)
   clear hb9 hl9 hF fb hne b9 fn0 fn1 cu7 cv7 zgu zgv hu9 hu8 B7
   refine onlyN_intro ?_
   go_wp2_with fail
   (refine region_all (fun i:Nat=>World.drewN _ i) mixed (by kernel_rfl) ⟨1,rfl⟩ ?_;(repeat (any_goals (first | go_big_quiet_step (fail) | quiet_step (fail) | (refine wpQuiet_step (fun K hK=>?_);go_simp;split <;> (refine hK _ ?_;clear hK K)))));(all_goals (refine wpQuiet_nil (fun nq=>?_))))
   have B10:Hid (Below w6.heap.size w6 (w9.drewN nq)):=Lib.hid (by have b9:=B9.out;(have hszz:=(b9).size;(repeat' (first | with_reducible (first | exact Below.refl _ _ | assumption | refine Below.drew ?_ | refine below_drewN ?_ _ | refine Below.alloc ?_ ?_ _ | refine Below.setCell ?_ ?_ _) | go_size))))
   obtain ⟨w10,hw10⟩:∃ w10,w10 = w9.drewN nq:=⟨_,rfl⟩
   rw[←hw10] at B10 ⊢
   clear hw10 cu9 cv9 zu9 zv9
   go_wp2_with fail
   go_roundw
   case rel=>(first | exact (show Exists (fun j:Nat=>_) from ⟨j+1,by go_num,by omega,B10⟩) | (repeat (first | exact rfl | refine And.intro ((show Exists (fun j:Nat=>_) from ⟨j+1,by go_num,by omega,B10⟩)) ?_ | apply Exists.intro)))
   case measure=>simp [intOf] <;> omega
  ·have t3:decide ((j:Int) < (m:Int)) = false:=decide_eq_false (by omega)
   have t3n:decide (j < m) = false:=decide_eq_false (by omega)
   go_wp2_with fail
   go_returns
   exact ⟨rfl,BB6.out.trans (HB.out.mono BB6.out.size)⟩
end Go.Proofs.YtdpoppilnokniaaGreatDoor
