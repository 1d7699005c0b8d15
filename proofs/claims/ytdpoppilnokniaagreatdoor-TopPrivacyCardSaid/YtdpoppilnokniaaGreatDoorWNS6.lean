/- Theorems of this seat. -/
import Derived.Test.YtdpoppilnokniaaGreatDoorWNSC
import Derived.Test.YtdpoppilnokniaaGreatDoorWFLY
namespace Go.Proofs.YtdpoppilnokniaaGreatDoor
open Go.RowKit Go.ChangeShapes Go.WideShapes Go.Deep
set_option linter.unusedVariables false
set_option linter.unusedSimpArgs false
set_option linter.unnecessarySimpa false
def MakP (rad num den:Int) (base:Nat) (v:Value) (r:Int) (w':World):Prop :=
 (r = 0↔(0≤rad∧rad≤32)∧rtE num den = true)∧(r = 0→Row w' base 3 1 v (rad.toNat+1) (nuR (wts num den)))∧∃ a n c,v = .slice a n c
set_option maxRecDepth 8000 in
set_option maxHeartbeats 16000000 in
theorem Make10 (rad num den:Int) (w:World) :
  Calls Tryz.prog 10 #[.int .i64 rad,.agg #[.int .i64 num,.int .i64 den]] w fun e w'=>(∃ (v:Value) (r:Int),e = .returned (.tuple #[.agg #[v],.int .i64 r])∧MakP rad num den w.heap.size v r w')∧Below w.heap.size w w':=by
 have BA:Hid (Below w.heap.size w ((w.alloc (.cells #[.int .i64 num,.int .i64 den] 50)).alloc (.cells #[.slice none 0 0] 40))):=Lib.hid (by (repeat' (first | with_reducible (first | exact Below.refl _ _ | assumption | refine Below.drew ?_ | refine below_drewN ?_ _ | refine Below.alloc ?_ ?_ _ | refine Below.setCell ?_ ?_ _) | go_size)))
 have X0:=Lib.hid (al_keep (al_at w (.cells #[.int .i64 num,.int .i64 den] 50) rfl) (.cells #[.slice none 0 0] 40))
 have X1:=Lib.hid (al_at (w.alloc (.cells #[.int .i64 num,.int .i64 den] 50)) (.cells #[.slice none 0 0] 40) (k:=w.heap.size+1) (by simp))
 obtain ⟨w1,hw1⟩:∃ w1,w1 = (w.alloc (.cells #[.int .i64 num,.int .i64 den] 50)).alloc (.cells #[.slice none 0 0] 40):=⟨_,rfl⟩
 rw[←hw1] at BA X0 X1
 have HW1:=Lib.hid hw1
 have C1:=Lib.hid (right25 num den w1)
 clear hw1
 have x0:=cell_at X0.out 0
 have x1:=cell_at X0.out 1
 have y0:=cell_at X1.out 0
 have fr:=fun j=>free_at X1.out j
 have zx:=szs (block_lt X0.out)
 have zy:=szs (block_lt X1.out)
 by_cases h0:rad < 0
 ·have t0:decide (rad < 0) = true:=decide_eq_true h0
  go_enter Tryz.func10,Tryz.ntmps10
  go_simp
  ((repeat ((fail_if_success (rw[←HW1.out]));go_step));rw[←HW1.out])
  go_wp2_with fail
  show bodyPost _ _ _ Exit.ret _ _
  have KZ:=put1 X1.out (.slice none 0 0)
  have OZ:=BA.out.trans ((off1 w1 (w.heap.size+1) (.slice none 0 0)).toBelow BA.out.size (fun q hq h=>by have h:q = w.heap.size+1:=h;omega))
  generalize World.setCell w1 _ _ = w9 at *
  have k0:=cell_at KZ 0
  have zk:=szs (block_lt KZ)
  exact bodyPost_ret (v:=.tuple #[.agg #[.slice none 0 0],.int .i64 1]) (by simp [results,Tryz.results10,go_sem,k0]) rfl ⟨⟨_,_,rfl,⟨fun e=>by omega,fun e=>by omega⟩,fun e=>by omega,_,_,_,rfl⟩,OZ⟩
 have t0:decide (rad < 0) = false:=decide_eq_false h0
 by_cases h1:rad > 32
 ·have t1:decide (rad > 32) = true:=decide_eq_true h1
  have t1o:decide (32 < rad) = true:=decide_eq_true h1
  go_enter Tryz.func10,Tryz.ntmps10
  go_simp
  ((repeat ((fail_if_success (rw[←HW1.out]));go_step));rw[←HW1.out])
  go_wp2_with fail
  show bodyPost _ _ _ Exit.ret _ _
  have KZ:=put1 X1.out (.slice none 0 0)
  have OZ:=BA.out.trans ((off1 w1 (w.heap.size+1) (.slice none 0 0)).toBelow BA.out.size (fun q hq h=>by have h:q = w.heap.size+1:=h;omega))
  generalize World.setCell w1 _ _ = w9 at *
  have k0:=cell_at KZ 0
  have zk:=szs (block_lt KZ)
  exact bodyPost_ret (v:=.tuple #[.agg #[.slice none 0 0],.int .i64 1]) (by simp [results,Tryz.results10,go_sem,k0]) rfl ⟨⟨_,_,rfl,⟨fun e=>by omega,fun e=>by omega⟩,fun e=>by omega,_,_,_,rfl⟩,OZ⟩
 have t1:decide (rad > 32) = false:=decide_eq_false h1
 have t1o:decide (32 < rad) = false:=decide_eq_false h1
 have HRT:Hid (∃ b,b = rtE num den):=Lib.hid ⟨_,rfl⟩
 obtain ⟨b,hb⟩:=HRT.out
 rw[←hb] at C1
 have HB:=Lib.hid hb
 clear hb HRT
 go_enter Tryz.func10,Tryz.ntmps10
 go_simp
 ((repeat ((fail_if_success (rw[←HW1.out]));go_step));rw[←HW1.out])
 go_wp2_with fail
 refine C1.out.mono ?_
 rintro e w2 ⟨rfl,b2⟩
 have B2:=Lib.hid (BA.out.trans (b2.mono BA.out.size))
 have X2:=Lib.hid ((b2.block _ (block_lt X1.out)).trans X1.out)
 have X3:=Lib.hid ((b2.block _ (block_lt X0.out)).trans X0.out)
 clear b2 x0 x1 y0 fr zx zy X0 X1 C1 HW1
 have x0:=cell_at X3.out 0
 have x1:=cell_at X3.out 1
 have y0:=cell_at X2.out 0
 have fr:=fun j=>free_at X2.out j
 have zx:=szs (block_lt X3.out)
 have zy:=szs (block_lt X2.out)
 cases b
 ·skip
  go_wp2_with fail
  show bodyPost _ _ _ Exit.ret _ _
  have KZ:=put1 X2.out (.slice none 0 0)
  have OZ:=B2.out.trans ((off1 w2 (w.heap.size+1) (.slice none 0 0)).toBelow B2.out.size (fun q hq h=>by have h:q = w.heap.size+1:=h;omega))
  generalize World.setCell w2 _ _ = w9 at *
  have k0:=cell_at KZ 0
  have zk:=szs (block_lt KZ)
  exact bodyPost_ret (v:=.tuple #[.agg #[.slice none 0 0],.int .i64 1]) (by simp [results,Tryz.results10,go_sem,k0]) rfl ⟨⟨_,_,rfl,⟨fun e=>by omega,fun e=>by rw[←HB.out] at e;cases e.2⟩,fun e=>by omega,_,_,_,rfl⟩,OZ⟩
 ·have hR:=HB.out.symm
  unfold rtE at hR
  simp only[Bool.and_eq_true,decide_eq_true_eq] at hR
  obtain ⟨hd1,hd2,hd3⟩:=hR
  obtain ⟨m,rfl⟩:∃ m:Nat,rad = (m:Int):=⟨rad.toNat,by omega⟩
  have B5:Hid (Below w2.heap.size w2 (w2.alloc (.cells #[.int .i64 16777216] 3))):=Lib.hid (by (repeat' (first | with_reducible (first | exact Below.refl _ _ | assumption | refine Below.drew ?_ | refine below_drewN ?_ _ | refine Below.alloc ?_ ?_ _ | refine Below.setCell ?_ ?_ _) | go_size)));have X5:=Lib.hid (al_at w2 (.cells #[.int .i64 16777216] 3) rfl);obtain ⟨w3,hw5⟩:∃ w3,w3 = w2.alloc (.cells #[.int .i64 16777216] 3):=⟨_,rfl⟩;rw[←hw5] at B5 X5;have HW5:=Lib.hid hw5;clear hw5;have z5:=szs (block_lt X5.out);skip
  obtain ⟨qb,hqb⟩:∃ qb,qb = w2.heap.size:=⟨_,rfl⟩
  have hq1:w.heap.size+1 < qb:=by rw[hqb];exact zy.1
  have hqs:qb < w3.heap.size:=by rw[hqb];exact z5.1
  have HR0:Hid (Row w3 qb 3 1 (.slice (some ⟨qb,0,none⟩) 1 1) 1 (nuR (wts num den))):=Lib.hid (by
   have hx:=X5.out
   rw[←hqb] at hx
   exact Row.of_block hx (Nat.le_refl _) (fun i=>rfl) rfl (by unfold maxLen;omega))
  have X2b:=Lib.hid ((B5.out.block _ (block_lt X2.out)).trans X2.out)
  have X3b:=Lib.hid ((B5.out.block _ (block_lt X3.out)).trans X3.out)
  have B5b:=Lib.hid (B2.out.trans (B5.out.mono B2.out.size))
  have HQ:=Lib.hid hqb
  clear hqb B5 X5 X2 X3 z5
  go_simp
  ((repeat ((fail_if_success (rw[←HW5.out]));go_step));rw[←HW5.out])
  rw[←HQ.out]
  clear HQ HW5 x0 x1 y0 fr zx zy B2
  go_wp2_with fail
  go_loopw [6,22] (fun s6 s22 wr=>∃ (j g cap:Nat),s6 = .slice (some ⟨g,0,none⟩) (j+1:Nat) cap∧s22 = .int .i64 j∧j≤m∧Hid (Row wr qb 3 1 (.slice (some ⟨g,0,none⟩) (j+1) cap) (j+1) (nuR (wts num den)))∧Hid (Below qb w3 wr)) (fun _ s _=>m - (intOf s).toNat)
  case atStart=>exact ⟨0,qb,1,rfl,rfl,Nat.zero_le _,HR0,Lib.hid (Below.refl _ _)⟩
  case round =>
   obtain ⟨j,g,cap,rfl,rfl,hj,hrow,hbel⟩:=hrel
   have HR:=hrow
   have HBL:=hbel
   clear hrow hbel HR0
   have XA:=Lib.hid ((HBL.out.block _ (by omega)).trans X3b.out)
   have XB:=Lib.hid ((HBL.out.block _ hq1).trans X2b.out)
   by_cases hlt:j < m
   ·have t3:decide ((j:Int) < (m:Int)) = true:=decide_eq_true (by omega)
    have t3n:decide (j < m) = true:=decide_eq_true (by omega)
    have x0:=cell_at XA.out 0
    have x1:=cell_at XA.out 1
    have u0:wr.cell? ⟨g,j * 1+0,none⟩ = some (.int .i64 (wts num den j)):=Row.cell HR.out (fun i=>rfl) (Nat.lt_succ_self j) (j:=0) (by decide)
    rw[Nat.mul_one,Nat.add_zero] at u0
    have hp:=wts_pos hd1 hd2 j
    obtain ⟨y,hy⟩:∃ y,y = wts num den j:=⟨_,rfl⟩
    rw[←hy] at u0 hp
    obtain ⟨p,hpe⟩:∃ p,p = y * den:=⟨_,rfl⟩
    have hpb:1≤p∧p≤17179869184:=by
     rw[hpe]
     constructor
     ·have:=Int.mul_le_mul hp.1 hd1 (by omega) (by omega);omega
     ·have:=Int.mul_le_mul hp.2 (show den≤1024 by omega) (by omega) (by omega);omega
    obtain ⟨z,hze⟩:∃ z,z = (p+num - 1) / num:=⟨_,rfl⟩
    have hz2:(p+num - 1).tdiv num = z:=by rw[hze];exact Int.tdiv_eq_ediv_of_nonneg (by omega)
    have HZ:Hid (z = wts num den (j+1)):=Lib.hid (by rw[hze,hpe,hy];rfl)
    have HPE:=Lib.hid hpe
    have HZE:=Lib.hid hze
    have hzb:0≤z∧z≤18000000000:=by
     rw[hze]
     refine ⟨Int.ediv_nonneg (by omega) (by omega),?_⟩
     have:=Int.ediv_le_self num (show 0≤p+num - 1 by omega)
     omega
    have e1:wrap64 (y * den) = p:=by rw[←hpe];unfold wrap64;omega
    have e2:wrap64 (p+num) = p+num:=by unfold wrap64;omega
    have e3:wrap64 (p+num - 1) = p+num - 1:=by unfold wrap64;omega
    have e4:wrap64 z = z:=by unfold wrap64;omega
    clear hpe hy hze
    have zg:=szs (World.ownsRow.lt HR.out g rfl).2
    have zx:=szs (block_lt XA.out)
    go_wp2_with fail
    (obtain ⟨ι,hne,Fw,fb,hF⟩:=grow_family wr);have hF:∀ w',(sPlan wr (fun _=>False) [] [(15,fun b=>.slice (some ⟨b,0,none⟩) 1 1,.cells #[.int .i64 z] 3)] []).D [] w'→∃ i,w' = Fw i:=hF
    have fu0:=fun i=>cell_kept (fb i) u0
    have fx0:=fun i=>cell_kept (fb i) x0
    have fx1:=fun i=>cell_kept (fb i) x1
    clear u0 x0 x1 zx
    (refine region_chainO (sPlan wr (fun _=>False) [] [(15,fun b=>.slice (some ⟨b,0,none⟩) 1 1,.cells #[.int .i64 z] 3)] []) [] [] [0,1,2,3,4,5,6,7,8,9,10,11,12,13,14,15] [16,17] mixed (by kernel_rfl) (by kernel_rfl) (fun _ _ h=>nomatch h) (sPlan_ok (by simp) (by simp)) sPlan_start ?_;refine wpPure_nil ?_;simp only[List.map_cons,List.map_nil,Array.getD_eq_getD_getElem?,List.getElem?_toArray,List.getElem?_cons_zero,List.getElem?_cons_succ,Option.getD_some])
    (repeat (first | (refine wpChainO_skip rfl ?_;simp only[Act.put,List.setIfInBounds_toArray,List.set_cons_succ,List.set_cons_zero]) | (refine wpChainO_quiet hF rfl rfl rfl ?_;intro K hK;go_big_quiet_op;go_big_quiet_on) | (refine wpChainO_pure _ rfl rfl (fun w' _=>by go_simp;try rfl) ?_;simp only[Act.put,List.setIfInBounds_toArray,List.set_cons_succ,List.set_cons_zero])))
    (refine wpChainO_alloc _ _ rfl (List.mem_cons_self ..) rfl (fun w'=>by go_simp) (fun b7 hb7=>?_);simp only[Act.put,List.setIfInBounds_toArray,List.set_cons_succ,List.set_cons_zero])
    refine wpChainO_nil (fun w11 hb11 hl11=>?_)
    have b11:Below wr.heap.size wr w11:=hb11
    have X7:=Lib.hid (hl11.1.2 (15,b7,.cells #[.int .i64 z] 3) (by simp)).2
    have HR11:=Lib.hid (Row.off (X:=fun _=>False) HR.out (Off.of_below b11) (fun _ _ h=>h))
    have HB11:=Lib.hid (HBL.out.trans (b11.mono (by have:=HBL.out.size;omega)))
    have hle:qb≤w11.heap.size:=by have:=HB11.out.size;omega
    clear hb11 hl11 hF fb hne b11 fu0 fx0 fx1 HR HBL zg
    go_wp2_with (at_builtin;go_loud (refine wpList_append_N _ rfl (.tmp 25) (.tmp 40) rfl qb _ (j+1) (wts num den) rfl HR11.out b7 z rfl 3 (0,0) X7.out (by omega) hle ?_))
    intro g12 cap12 w12 c1 c2 c3 c4 r12 o12
    have R12:Hid (Row w12 qb 3 1 (.slice (some ⟨g12,0,none⟩) (j+1+1) cap12) (j+1+1) (nuR (wts num den))):=Lib.hid (Row.congr r12 (fun l hl=>by
     show [Value.int .i64 (upd (wts num den) (j+1) z l)] = [Value.int .i64 (wts num den l)]
     by_cases e:l = j+1
     ·subst e;rw[upd_same,HZ.out]
     ·rw[upd_ne e]))
    have B12:=Lib.hid (HB11.out.trans (o12.toBelow hle (fun q hq h=>by have:=(World.ownsRow.lt HR11.out q h).1;omega)))
    clear r12 o12 HR11 HB11 X7 hle c4
    go_wp2_with fail
    try refine onlyN_intro ?_
    try go_wp2_with fail
    go_roundw
    case rel=>exact ⟨j+1,g12,cap12,rfl,by go_num,by omega,R12,B12⟩
    case measure=>simp [intOf] <;> omega
   ·have t3:decide ((j:Int) < (m:Int)) = false:=decide_eq_false (by omega)
    have t3n:decide (j < m) = false:=decide_eq_false (by omega)
    have y0:=cell_at XB.out 0
    have fr:=fun j=>free_at XB.out j
    have zy:=szs (block_lt XB.out)
    go_wp2_with fail
    show bodyPost _ _ _ Exit.ret _ _
    have KZ:=put1 XB.out (.slice (some ⟨g,0,none⟩) (j+1) cap)
    have OZ:=off1 wr (w.heap.size+1) (.slice (some ⟨g,0,none⟩) (j+1) cap)
    have RZ:=Lib.hid (Row.off HR.out OZ (fun q hq e=>by have h1:=(World.ownsRow.lt HR.out q hq).1;have e:q = w.heap.size+1:=e;omega))
    have BZ:=Lib.hid (B5b.out.trans ((HBL.out.mono (by omega)).trans (OZ.toBelow (by have:=HBL.out.size;omega) (fun q hq e=>by have e:q = w.heap.size+1:=e;omega))))
    clear fr zy y0 OZ HR HBL XA XB
    generalize World.setCell wr _ _ = w9 at *
    have k0:=cell_at KZ 0
    have zk:=szs (block_lt KZ)
    obtain rfl:j = m:=by omega
    exact bodyPost_ret (v:=.tuple #[.agg #[.slice (some ⟨g,0,none⟩) (j+1) cap],.int .i64 0]) (by simp [results,Tryz.results10,go_sem,k0]) rfl ⟨⟨_,_,rfl,⟨fun _=>⟨by omega,HB.out.symm⟩,fun _=>rfl⟩,fun _=>by rw[Int.toNat_natCast];exact Row.base_mono RZ.out (by omega),_,_,_,rfl⟩,BZ.out⟩
end Go.Proofs.YtdpoppilnokniaaGreatDoor
