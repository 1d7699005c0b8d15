/- Theorems of this seat. -/
import Derived.Test.YtdpoppilnokniaaGreatDoorWDSA
import Derived.BigQuiet
import Derived.WalkLawsBesides
import Derived.BigRegion
namespace Go.Proofs.YtdpoppilnokniaaGreatDoor
open Go.RowKit Go.ChangeShapes Go.WideShapes Go.Deep
set_option linter.unusedVariables false
set_option linter.unusedSimpArgs false
set_option maxRecDepth 8000 in
set_option maxHeartbeats 16000000 in
theorem symA (base b n c a m d:Nat) (F:Nat→Rid) (w:World) (hR:RdR w base (.slice (some ⟨b,0,none⟩) n c) n F) (hs:n≤1000) (ha:a < m) (hm:m < d) (hd:d≤n) (h1:m = a+1) :
  Calls Tryz.prog 62 #[.slice (some ⟨b,0,none⟩) n c,.int .i64 a,.int .i64 m,.int .i64 d,.func (.func 20) #[] #[]] w (MovW base b n c F w):=by
 obtain ⟨hb,hn,hc⟩:=hR.bnds
 have HR:=Lib.hid hR
 clear hR
 have z1:decide ((m:Int) - (a:Int) = 1) = true:=decide_eq_true (by omega)
 have ham:a+1≤m:=by omega
 have ham2:m≤a+1:=by omega
 have z3:((m:Int) - (a:Int) == 1) = true:=by simp;omega
 clear h1
 have han:a < n:=by omega
 go_enter Tryz.func62,Tryz.ntmps62
 go_wp2_with fail
 go_loopw [10,11] (fun s10 s11 wr=>∃ (i j:Nat) (F':Nat→Rid),s10 = .int .i64 i∧s11 = .int .i64 j∧m≤i∧i≤j∧j≤d∧Hid (From n F F'∧RdR wr base (.slice (some ⟨b,0,none⟩) n c) n F'∧Off (fun k=>k = b) w wr)) (fun s10 s11 _=>(intOf s11).toNat - (intOf s10).toNat)
 case atStart=>exact ⟨m,d,F,rfl,rfl,by omega,by omega,by omega,Lib.hid ⟨From.refl _ _,HR.out,Off.refl _ _⟩⟩
 case round =>
  obtain ⟨i,j,F',rfl,rfl,hi,hij,hj,hrel⟩:=hrel
  have HL:=hrel
  clear hrel HR
  by_cases hlt:i < j
  ·have t1:decide ((i:Int) < (j:Int)) = true:=decide_eq_true (by omega)
   go_wp2_with fail
   obtain ⟨q,hq⟩:∃ q:Nat,((i:Int)+(j:Int)) / 2 = (q:Int):=⟨(i+j) / 2,by omega⟩
   have q1:i≤q:=by omega
   have q2:q < j:=by omega
   rw[hq]
   clear hq
   have hqn:q < n:=by omega
   have fr:∀ o,wr.frozen? ⟨b,o,none⟩ = false:=fun o=>Row.free HL.out.2.1 o
   have zr:=szs (Nat.lt_of_lt_of_le hb HL.out.2.2.size)
   have A0:=(HL.out.2.1).at hqn
   have A1:=(HL.out.2.1).at han
   obtain ⟨x,hx⟩:∃ x,x = F' (q):=⟨_,rfl⟩
   obtain ⟨y,hy⟩:∃ y,y = F' (a):=⟨_,rfl⟩
   rw[←hx] at A0
   rw[←hy] at A1
   have HX:=Lib.hid hx
   have HY:=Lib.hid hy
   clear hx hy
   obtain ⟨a1,a2,a3,a4,a5,a6,a7,a8,a9,a10,a11,a12,a13,a14,a15,a16,a17⟩:=x
   obtain ⟨b1,b2,b3,b4,b5,b6,b7,b8,b9,b10,b11,b12,b13,b14,b15,b16,b17⟩:=y
   (have f0:=(A0).c0;have f1:=(A0).c1;have f2:=(A0).c2;have f3:=(A0).c3;have f4:=(A0).c4;have f5:=(A0).c5;have f6:=(A0).c6;have f7:=(A0).c7;have f8:=(A0).c8;have f9:=(A0).c9;have f10:=(A0).c10;have f11:=(A0).c11;have f12:=(A0).c12);(try dsimp only at f0 f1 f2 f3 f4 f5 f6 f7 f8 f9 f10 f11 f12)
   (have h0:=(A1).c0;have h1:=(A1).c1;have h2:=(A1).c2;have h3:=(A1).c3;have h4:=(A1).c4;have h5:=(A1).c5;have h6:=(A1).c6;have h7:=(A1).c7;have h8:=(A1).c8;have h9:=(A1).c9;have h10:=(A1).c10;have h11:=(A1).c11;have h12:=(A1).c12);(try dsimp only at h0 h1 h2 h3 h4 h5 h6 h7 h8 h9 h10 h11 h12)
   clear A0 A1
   go_wp2_with fail
   (refine region_order (fun i:Nat=>World.drewN _ i) [] [0,1,2,3,4,5,6,7,8] 9 [10] mixed (by kernel_rfl) ⟨1,rfl⟩ ?_;simp only[List.map_cons,List.map_nil,Array.getD_eq_getD_getElem?,List.getElem?_toArray,List.getElem?_cons_zero,List.getElem?_cons_succ,Option.getD_some];(repeat (refine wpPure_cons _ rfl (fun w'=>by go_simp;try rfl) ?_;dsimp only[Act.put]));refine wpPure_nil ?_;(repeat (any_goals (first | go_big_quiet_step (fail) | quiet_step (fail) | (refine wpQuiet_step (fun K hK=>?_);go_simp;split <;> (refine hK _ ?_;clear hK K)))));(all_goals (refine wpQuiet_nil (fun nq=>?_))))
   have bq1:Below wr.heap.size wr (wr.drewN nq):=below_drewN (Below.refl _ _) _
   go_wp2_with fail
   refine (cmp20 ⟨a1,a2,a3,a4,a5,a6,a7,a8,a9,a10,a11,a12,a13,a14,a15,a16,a17⟩ ⟨b1,b2,b3,b4,b5,b6,b7,b8,b9,b10,b11,b12,b13,b14,b15,b16,b17⟩ _).mono ?_
   rintro e w1 ⟨⟨r,rfl⟩,hB⟩
   have HM:Hid (From n F F'∧RdR w1 base (.slice (some ⟨b,0,none⟩) n c) n F'∧Off (fun k=>k = b) w w1):=Lib.hid ⟨HL.out.1,RdR.off (X:=fun _=>False) HL.out.2.1 (Off.of_below (bq1.trans (hB.mono bq1.size))) (fun _ _ h=>h),HL.out.2.2.trans (Off.of_below (bq1.trans (hB.mono bq1.size))) (fun _ _ h=>h)⟩
   clear bq1 hB zr f0 h0 f1 h1 f2 h2 f3 h3 f4 h4 f5 h5 f6 h6 f7 h7 f8 h8 f9 h9 f10 h10 f11 h11 f12 h12
   by_cases hr:r < 0
   ·have t4:decide (r < 0) = true:=decide_eq_true hr
    go_wp2_with fail
    refine onlyN_intro ?_
    go_wp2_with fail
    go_roundw
    case rel=>exact ⟨q+1,j,F',by go_num,rfl,by omega,by omega,by omega,HM⟩
    case measure=>simp [intOf] <;> omega
   ·have t4:decide (r < 0) = false:=decide_eq_false hr
    go_wp2_with fail
    refine onlyN_intro ?_
    go_wp2_with fail
    go_roundw
    case rel=>exact ⟨i,q,F',rfl,rfl,by omega,by omega,by omega,HM⟩
    case measure=>simp [intOf] <;> omega
  ·have t1:decide ((i:Int) < (j:Int)) = false:=decide_eq_false (by omega)
   go_wp2_with fail
   go_loopw [13] (fun s13 ws=>∃ (k:Nat) (F':Nat→Rid),s13 = .int .i64 k∧a≤k∧k+1≤i∧Hid (From n F F'∧RdR ws base (.slice (some ⟨b,0,none⟩) n c) n F'∧Off (fun k=>k = b) w ws)) (fun s13 _=>i - (intOf s13).toNat)
   case atStart=>exact ⟨a,F',rfl,by omega,by omega,HL⟩
   case round =>
    obtain ⟨k,F2,rfl,hk,hki,hrel⟩:=hrel
    have HM:=hrel
    clear hrel HL
    by_cases hlk:k+1 < i
    ·have t2:decide ((k:Int) < (i:Int) - 1) = true:=decide_eq_true (by omega)
     have hk0:k < n:=by omega
     have hk1:k+1 < n:=by omega
     have fr:∀ o,wr.frozen? ⟨b,o,none⟩ = false:=fun o=>Row.free HM.out.2.1 o
     have zr:=szs (Nat.lt_of_lt_of_le hb HM.out.2.2.size)
     have A0:=(HM.out.2.1).at hk0
     have A1:=(HM.out.2.1).at hk1
     obtain ⟨x,hx⟩:∃ x,x = F2 (k):=⟨_,rfl⟩
     obtain ⟨y,hy⟩:∃ y,y = F2 (k+1):=⟨_,rfl⟩
     rw[←hx] at A0
     rw[←hy] at A1
     have HX:=Lib.hid hx
     have HY:=Lib.hid hy
     clear hx hy
     obtain ⟨a1,a2,a3,a4,a5,a6,a7,a8,a9,a10,a11,a12,a13,a14,a15,a16,a17⟩:=x
     obtain ⟨b1,b2,b3,b4,b5,b6,b7,b8,b9,b10,b11,b12,b13,b14,b15,b16,b17⟩:=y
     (have f0:=(A0).c0;have f1:=(A0).c1;have f2:=(A0).c2;have f3:=(A0).c3;have f4:=(A0).c4;have f5:=(A0).c5;have f6:=(A0).c6;have f7:=(A0).c7;have f8:=(A0).c8;have f9:=(A0).c9;have f10:=(A0).c10;have f11:=(A0).c11;have f12:=(A0).c12);(try dsimp only at f0 f1 f2 f3 f4 f5 f6 f7 f8 f9 f10 f11 f12)
     (have h0:=(A1).c0;have h1:=(A1).c1;have h2:=(A1).c2;have h3:=(A1).c3;have h4:=(A1).c4;have h5:=(A1).c5;have h6:=(A1).c6;have h7:=(A1).c7;have h8:=(A1).c8;have h9:=(A1).c9;have h10:=(A1).c10;have h11:=(A1).c11;have h12:=(A1).c12);(try dsimp only at h0 h1 h2 h3 h4 h5 h6 h7 h8 h9 h10 h11 h12)
     clear A0 A1
     go_wp2_with fail
     (refine region_order (fun i:Nat=>World.drewN _ i) [2,3,4] [0,1,5,6,7,8,9,10,11,12,13,14] 15 [16,17] mixed (by kernel_rfl) ⟨1,rfl⟩ ?_;simp only[List.map_cons,List.map_nil,Array.getD_eq_getD_getElem?,List.getElem?_toArray,List.getElem?_cons_zero,List.getElem?_cons_succ,Option.getD_some];(repeat (refine wpPure_cons _ rfl (fun w'=>by go_simp;try rfl) ?_;dsimp only[Act.put]));refine wpPure_nil ?_;(repeat (any_goals (first | go_big_quiet_step (fail) | quiet_step (fail) | (refine wpQuiet_step (fun K hK=>?_);go_simp;split <;> (refine hK _ ?_;clear hK K)))));(all_goals (refine wpQuiet_nil (fun nq=>?_))))
     have HB:Below wr.heap.size wr (wr.drewN nq):=below_drewN (Below.refl _ _) _
     have H0:RdR (wr.drewN nq) base (.slice (some ⟨b,0,none⟩) n c) n F2:=RdR.off (X:=fun _=>False) HM.out.2.1 (Off.of_below HB) (fun _ _ h=>h)
     have H1:=Lib.hid ((H0.put hk0 ⟨b1,b2,b3,b4,b5,b6,b7,b8,b9,b10,b11,b12,b13,b14,b15,b16,b17⟩).put hk1 ⟨a1,a2,a3,a4,a5,a6,a7,a8,a9,a10,a11,a12,a13,a14,a15,a16,a17⟩)
     have O1:=Lib.hid (off_putCells (X:=fun k=>k = b) rfl (rds ⟨a1,a2,a3,a4,a5,a6,a7,a8,a9,a10,a11,a12,a13,a14,a15,a16,a17⟩) ((k+1) * 13) _ (off_putCells (X:=fun k=>k = b) rfl (rds ⟨b1,b2,b3,b4,b5,b6,b7,b8,b9,b10,b11,b12,b13,b14,b15,b16,b17⟩) ((k) * 13) _ (HM.out.2.2.trans (Off.of_below HB) (fun _ _ h=>h))))
     have ES:Hid (swapR F2 (k) (k+1) = upd (upd F2 (k) ⟨b1,b2,b3,b4,b5,b6,b7,b8,b9,b10,b11,b12,b13,b14,b15,b16,b17⟩) (k+1) ⟨a1,a2,a3,a4,a5,a6,a7,a8,a9,a10,a11,a12,a13,a14,a15,a16,a17⟩):=Lib.hid (by unfold swapR;rw[←HX.out,←HY.out])
     have G1:=Lib.hid (And.intro (HM.out.1.swap hk0 hk1) (And.intro (by rw[ES.out];exact H1.out) O1.out:RdR _ base (.slice (some ⟨b,0,none⟩) n c) n (swapR F2 (k) (k+1))∧Off (fun k=>k = b) w _))
     clear H0 HB H1 O1 ES
     go_wp2_with fail
     refine onlyN_intro ?_
     go_wp2_with fail
     go_roundw
     case rel=>exact ⟨k+1,swapR F2 k (k+1),by go_num,by omega,by omega,G1⟩
     case measure=>simp [intOf] <;> omega
    ·have t2:decide ((k:Int) < (i:Int) - 1) = false:=decide_eq_false (by omega)
     go_wp2_with fail
     go_returns
     exact ⟨rfl,F2,HM.out⟩
set_option maxRecDepth 8000 in
set_option maxHeartbeats 16000000 in
theorem symB (base b n c a m d:Nat) (F:Nat→Rid) (w:World) (hR:RdR w base (.slice (some ⟨b,0,none⟩) n c) n F) (hs:n≤1000) (ha:a < m) (hm:m < d) (hd:d≤n) (h0:a+1 < m) (h1:d = m+1) :
  Calls Tryz.prog 62 #[.slice (some ⟨b,0,none⟩) n c,.int .i64 a,.int .i64 m,.int .i64 d,.func (.func 20) #[] #[]] w (MovW base b n c F w):=by
 obtain ⟨hb,hn,hc⟩:=hR.bnds
 have HR:=Lib.hid hR
 clear hR
 have z0:decide ((m:Int) - (a:Int) = 1) = false:=decide_eq_false (by omega)
 have z1:decide ((d:Int) - (m:Int) = 1) = true:=decide_eq_true (by omega)
 have hdm:d≤m+1:=by omega
 have z4:((m:Int) - (a:Int) == 1) = false:=by simp;omega
 have z3:((d:Int) - (m:Int) == 1) = true:=by simp;omega
 clear h1
 have hmn:m < n:=by omega
 go_enter Tryz.func62,Tryz.ntmps62
 go_wp2_with fail
 go_loopw [14,15] (fun s10 s11 wr=>∃ (i j:Nat) (F':Nat→Rid),s10 = .int .i64 i∧s11 = .int .i64 j∧a≤i∧i≤j∧j≤m∧Hid (From n F F'∧RdR wr base (.slice (some ⟨b,0,none⟩) n c) n F'∧Off (fun k=>k = b) w wr)) (fun s10 s11 _=>(intOf s11).toNat - (intOf s10).toNat)
 case atStart=>exact ⟨a,m,F,rfl,rfl,by omega,by omega,by omega,Lib.hid ⟨From.refl _ _,HR.out,Off.refl _ _⟩⟩
 case round =>
  obtain ⟨i,j,F',rfl,rfl,hi,hij,hj,hrel⟩:=hrel
  have HL:=hrel
  clear hrel HR
  by_cases hlt:i < j
  ·have t1:decide ((i:Int) < (j:Int)) = true:=decide_eq_true (by omega)
   go_wp2_with fail
   obtain ⟨q,hq⟩:∃ q:Nat,((i:Int)+(j:Int)) / 2 = (q:Int):=⟨(i+j) / 2,by omega⟩
   have q1:i≤q:=by omega
   have q2:q < j:=by omega
   rw[hq]
   clear hq
   have hqn:q < n:=by omega
   have fr:∀ o,wr.frozen? ⟨b,o,none⟩ = false:=fun o=>Row.free HL.out.2.1 o
   have zr:=szs (Nat.lt_of_lt_of_le hb HL.out.2.2.size)
   have A0:=(HL.out.2.1).at hmn
   have A1:=(HL.out.2.1).at hqn
   obtain ⟨x,hx⟩:∃ x,x = F' (m):=⟨_,rfl⟩
   obtain ⟨y,hy⟩:∃ y,y = F' (q):=⟨_,rfl⟩
   rw[←hx] at A0
   rw[←hy] at A1
   have HX:=Lib.hid hx
   have HY:=Lib.hid hy
   clear hx hy
   obtain ⟨a1,a2,a3,a4,a5,a6,a7,a8,a9,a10,a11,a12,a13,a14,a15,a16,a17⟩:=x
   obtain ⟨b1,b2,b3,b4,b5,b6,b7,b8,b9,b10,b11,b12,b13,b14,b15,b16,b17⟩:=y
   (have f0:=(A0).c0;have f1:=(A0).c1;have f2:=(A0).c2;have f3:=(A0).c3;have f4:=(A0).c4;have f5:=(A0).c5;have f6:=(A0).c6;have f7:=(A0).c7;have f8:=(A0).c8;have f9:=(A0).c9;have f10:=(A0).c10;have f11:=(A0).c11;have f12:=(A0).c12);(try dsimp only at f0 f1 f2 f3 f4 f5 f6 f7 f8 f9 f10 f11 f12)
   (have h0:=(A1).c0;have h1:=(A1).c1;have h2:=(A1).c2;have h3:=(A1).c3;have h4:=(A1).c4;have h5:=(A1).c5;have h6:=(A1).c6;have h7:=(A1).c7;have h8:=(A1).c8;have h9:=(A1).c9;have h10:=(A1).c10;have h11:=(A1).c11;have h12:=(A1).c12);(try dsimp only at h0 h1 h2 h3 h4 h5 h6 h7 h8 h9 h10 h11 h12)
   clear A0 A1
   go_wp2_with fail
   (refine region_order (fun i:Nat=>World.drewN _ i) [] [0,1,2,3,4,5,6,7,8] 9 [10,11] mixed (by kernel_rfl) ⟨1,rfl⟩ ?_;simp only[List.map_cons,List.map_nil,Array.getD_eq_getD_getElem?,List.getElem?_toArray,List.getElem?_cons_zero,List.getElem?_cons_succ,Option.getD_some];(repeat (refine wpPure_cons _ rfl (fun w'=>by go_simp;try rfl) ?_;dsimp only[Act.put]));refine wpPure_nil ?_;(repeat (any_goals (first | go_big_quiet_step (fail) | quiet_step (fail) | (refine wpQuiet_step (fun K hK=>?_);go_simp;split <;> (refine hK _ ?_;clear hK K)))));(all_goals (refine wpQuiet_nil (fun nq=>?_))))
   have bq1:Below wr.heap.size wr (wr.drewN nq):=below_drewN (Below.refl _ _) _
   go_wp2_with fail
   refine (cmp20 ⟨a1,a2,a3,a4,a5,a6,a7,a8,a9,a10,a11,a12,a13,a14,a15,a16,a17⟩ ⟨b1,b2,b3,b4,b5,b6,b7,b8,b9,b10,b11,b12,b13,b14,b15,b16,b17⟩ _).mono ?_
   rintro e w1 ⟨⟨r,rfl⟩,hB⟩
   have HM:Hid (From n F F'∧RdR w1 base (.slice (some ⟨b,0,none⟩) n c) n F'∧Off (fun k=>k = b) w w1):=Lib.hid ⟨HL.out.1,RdR.off (X:=fun _=>False) HL.out.2.1 (Off.of_below (bq1.trans (hB.mono bq1.size))) (fun _ _ h=>h),HL.out.2.2.trans (Off.of_below (bq1.trans (hB.mono bq1.size))) (fun _ _ h=>h)⟩
   clear bq1 hB zr f0 h0 f1 h1 f2 h2 f3 h3 f4 h4 f5 h5 f6 h6 f7 h7 f8 h8 f9 h9 f10 h10 f11 h11 f12 h12
   by_cases hr:r < 0
   ·have t4:decide (r < 0) = true:=decide_eq_true hr
    go_wp2_with fail
    refine onlyN_intro ?_
    go_wp2_with fail
    go_roundw
    case rel=>exact ⟨i,q,F',rfl,rfl,by omega,by omega,by omega,HM⟩
    case measure=>simp [intOf] <;> omega
   ·have t4:decide (r < 0) = false:=decide_eq_false hr
    go_wp2_with fail
    refine onlyN_intro ?_
    go_wp2_with fail
    go_roundw
    case rel=>exact ⟨q+1,j,F',by go_num,rfl,by omega,by omega,by omega,HM⟩
    case measure=>simp [intOf] <;> omega
  ·have t1:decide ((i:Int) < (j:Int)) = false:=decide_eq_false (by omega)
   go_wp2_with fail
   go_loopw [17] (fun s13 ws=>∃ (k:Nat) (F':Nat→Rid),s13 = .int .i64 k∧i≤k∧k≤m∧Hid (From n F F'∧RdR ws base (.slice (some ⟨b,0,none⟩) n c) n F'∧Off (fun k=>k = b) w ws)) (fun s13 _=>(intOf s13).toNat)
   case atStart=>exact ⟨m,F',rfl,by omega,by omega,HL⟩
   case round =>
    obtain ⟨k,F2,rfl,hk,hki,hrel⟩:=hrel
    have HM:=hrel
    clear hrel HL
    by_cases hlk:i < k
    ·obtain ⟨l,rfl⟩:∃ l,k = l+1:=⟨k - 1,by omega⟩
     have t2:decide ((l:Int)+1 > (i:Int)) = true:=decide_eq_true (by omega)
     have t3:decide ((i:Int) < (l:Int)+1) = true:=decide_eq_true (by omega)
     have t5:decide (((l+1:Nat):Int) > (i:Int)) = true:=decide_eq_true (by omega)
     have t6:decide ((i:Int) < ((l+1:Nat):Int)) = true:=decide_eq_true (by omega)
     have hk0:l < n:=by omega
     have hk1:l+1 < n:=by omega
     have fr:∀ o,wr.frozen? ⟨b,o,none⟩ = false:=fun o=>Row.free HM.out.2.1 o
     have zr:=szs (Nat.lt_of_lt_of_le hb HM.out.2.2.size)
     have A0:=(HM.out.2.1).at hk1
     have A1:=(HM.out.2.1).at hk0
     obtain ⟨x,hx⟩:∃ x,x = F2 (l+1):=⟨_,rfl⟩
     obtain ⟨y,hy⟩:∃ y,y = F2 (l):=⟨_,rfl⟩
     rw[←hx] at A0
     rw[←hy] at A1
     have HX:=Lib.hid hx
     have HY:=Lib.hid hy
     clear hx hy
     obtain ⟨a1,a2,a3,a4,a5,a6,a7,a8,a9,a10,a11,a12,a13,a14,a15,a16,a17⟩:=x
     obtain ⟨b1,b2,b3,b4,b5,b6,b7,b8,b9,b10,b11,b12,b13,b14,b15,b16,b17⟩:=y
     (have f0:=(A0).c0;have f1:=(A0).c1;have f2:=(A0).c2;have f3:=(A0).c3;have f4:=(A0).c4;have f5:=(A0).c5;have f6:=(A0).c6;have f7:=(A0).c7;have f8:=(A0).c8;have f9:=(A0).c9;have f10:=(A0).c10;have f11:=(A0).c11;have f12:=(A0).c12);(try dsimp only at f0 f1 f2 f3 f4 f5 f6 f7 f8 f9 f10 f11 f12)
     (have h0:=(A1).c0;have h1:=(A1).c1;have h2:=(A1).c2;have h3:=(A1).c3;have h4:=(A1).c4;have h5:=(A1).c5;have h6:=(A1).c6;have h7:=(A1).c7;have h8:=(A1).c8;have h9:=(A1).c9;have h10:=(A1).c10;have h11:=(A1).c11;have h12:=(A1).c12);(try dsimp only at h0 h1 h2 h3 h4 h5 h6 h7 h8 h9 h10 h11 h12)
     clear A0 A1
     go_wp2_with fail
     (refine region_order (fun i:Nat=>World.drewN _ i) [2,3,4] [0,1,5,6,7,8,9,10,11,12,13,14] 15 [16,17] mixed (by kernel_rfl) ⟨1,rfl⟩ ?_;simp only[List.map_cons,List.map_nil,Array.getD_eq_getD_getElem?,List.getElem?_toArray,List.getElem?_cons_zero,List.getElem?_cons_succ,Option.getD_some];(repeat (refine wpPure_cons _ rfl (fun w'=>by go_simp;try rfl) ?_;dsimp only[Act.put]));refine wpPure_nil ?_;(repeat (any_goals (first | go_big_quiet_step (fail) | quiet_step (fail) | (refine wpQuiet_step (fun K hK=>?_);go_simp;split <;> (refine hK _ ?_;clear hK K)))));(all_goals (refine wpQuiet_nil (fun nq=>?_))))
     have HB:Below wr.heap.size wr (wr.drewN nq):=below_drewN (Below.refl _ _) _
     have H0:RdR (wr.drewN nq) base (.slice (some ⟨b,0,none⟩) n c) n F2:=RdR.off (X:=fun _=>False) HM.out.2.1 (Off.of_below HB) (fun _ _ h=>h)
     have H1:=Lib.hid ((H0.put hk1 ⟨b1,b2,b3,b4,b5,b6,b7,b8,b9,b10,b11,b12,b13,b14,b15,b16,b17⟩).put hk0 ⟨a1,a2,a3,a4,a5,a6,a7,a8,a9,a10,a11,a12,a13,a14,a15,a16,a17⟩)
     have O1:=Lib.hid (off_putCells (X:=fun k=>k = b) rfl (rds ⟨a1,a2,a3,a4,a5,a6,a7,a8,a9,a10,a11,a12,a13,a14,a15,a16,a17⟩) ((l) * 13) _ (off_putCells (X:=fun k=>k = b) rfl (rds ⟨b1,b2,b3,b4,b5,b6,b7,b8,b9,b10,b11,b12,b13,b14,b15,b16,b17⟩) ((l+1) * 13) _ (HM.out.2.2.trans (Off.of_below HB) (fun _ _ h=>h))))
     have ES:Hid (swapR F2 (l+1) (l) = upd (upd F2 (l+1) ⟨b1,b2,b3,b4,b5,b6,b7,b8,b9,b10,b11,b12,b13,b14,b15,b16,b17⟩) (l) ⟨a1,a2,a3,a4,a5,a6,a7,a8,a9,a10,a11,a12,a13,a14,a15,a16,a17⟩):=Lib.hid (by unfold swapR;rw[←HX.out,←HY.out])
     have G1:=Lib.hid (And.intro (HM.out.1.swap hk1 hk0) (And.intro (by rw[ES.out];exact H1.out) O1.out:RdR _ base (.slice (some ⟨b,0,none⟩) n c) n (swapR F2 (l+1) (l))∧Off (fun k=>k = b) w _))
     clear H0 HB H1 O1 ES
     go_wp2_with fail
     refine onlyN_intro ?_
     go_wp2_with fail
     go_roundw
     case rel=>exact ⟨l,swapR F2 (l+1) l,by go_num,by omega,by omega,G1⟩
     case measure=>simp [intOf] <;> omega
    ·have t2:decide ((k:Int) > (i:Int)) = false:=decide_eq_false (by omega)
     have t3:decide ((i:Int) < (k:Int)) = false:=decide_eq_false (by omega)
     go_wp2_with fail
     go_returns
     exact ⟨rfl,F2,HM.out⟩
end Go.Proofs.YtdpoppilnokniaaGreatDoor
namespace Go.Proofs.YtdpoppilnokniaaGreatDoor
open Go.RowKit Go.ChangeShapes Go.WideShapes Go.Deep
set_option linter.unusedVariables false
set_option linter.unusedSimpArgs false
set_option maxRecDepth 8000 in
set_option maxHeartbeats 16000000 in
theorem symC (base b n c a m d k:Nat) (F:Nat→Rid) (w:World) (hR:RdR w base (.slice (some ⟨b,0,none⟩) n c) n F) (hs:n≤1000) (ha:a < m) (hm:m < d) (hd:d≤n) (h0:a+1 < m) (h1:m+1 < d) (ih:∀ (a m d:Nat) (F:Nat→Rid) (w:World),RdR w base (.slice (some ⟨b,0,none⟩) n c) n F→a < m→m < d→d≤n→d - a < k→Calls Tryz.prog 62 #[.slice (some ⟨b,0,none⟩) n c,.int .i64 a,.int .i64 m,.int .i64 d,.func (.func 20) #[] #[]] w (MovW base b n c F w)) (hk:d - a≤k) (hmid:(a+d) / 2 < m) :
  Calls Tryz.prog 62 #[.slice (some ⟨b,0,none⟩) n c,.int .i64 a,.int .i64 m,.int .i64 d,.func (.func 20) #[] #[]] w (MovW base b n c F w):=by
 obtain ⟨hb,hn,hc⟩:=hR.bnds
 have HR:=Lib.hid hR
 clear hR
 have z0:decide ((m:Int) - (a:Int) = 1) = false:=decide_eq_false (by omega)
 have z1:decide ((d:Int) - (m:Int) = 1) = false:=decide_eq_false (by omega)
 have z4:((m:Int) - (a:Int) == 1) = false:=by simp;omega
 have z5:((d:Int) - (m:Int) == 1) = false:=by simp;omega
 obtain ⟨p,hp⟩:∃ p:Nat,p = (a+d) / 2:=⟨_,rfl⟩
 have hpI:((a:Int)+(d:Int)) / 2 = (p:Int):=by omega
 rw[←hp] at hmid
 have p1:a < p:=by omega
 have p2:p < d:=by omega
 have p3:2 * p≤a+d:=by omega
 have p4:a+d≤2 * p+1:=by omega
 have z2:decide ((m:Int) > (p:Int)) = true:=decide_eq_true (by omega)
 have z3:decide ((p:Int) < (m:Int)) = true:=decide_eq_true (by omega)
 have z6:decide (p < m) = true:=decide_eq_true (by omega)
 have IH:=Lib.hid ih
 clear ih hp
 go_enter Tryz.func62,Tryz.ntmps62
 go_wp2_with fail
 go_loopw [20,21] (fun s20 s21 wr=>∃ (i j:Nat) (F':Nat→Rid),s20 = .int .i64 i∧s21 = .int .i64 j∧p+m≤d+i∧i≤j∧j≤p∧Hid (From n F F'∧RdR wr base (.slice (some ⟨b,0,none⟩) n c) n F'∧Off (fun k=>k = b) w wr)) (fun s20 s21 _=>(intOf s21).toNat - (intOf s20).toNat)
 case atStart=>exact ⟨p+m - d,p,F,by rw[Int.ofNat_sub (by omega)];simp,rfl,by omega,by omega,by omega,Lib.hid ⟨From.refl _ _,HR.out,Off.refl _ _⟩⟩
 case round =>
  obtain ⟨i,j,F',rfl,rfl,hi,hij,hj,hrel⟩:=hrel
  have HL:=hrel
  clear hrel HR
  by_cases hlt:i < j
  ·have t1:decide ((i:Int) < (j:Int)) = true:=decide_eq_true (by omega)
   go_wp2_with fail
   obtain ⟨q,hq⟩:∃ q:Nat,((i:Int)+(j:Int)) / 2 = (q:Int):=⟨(i+j) / 2,by omega⟩
   have q1:i≤q:=by omega
   have q2:q < j:=by omega
   rw[hq]
   clear hq
   have hqn:q < n:=by omega
   obtain ⟨g,hg⟩:∃ g:Nat,(p:Int)+(m:Int) - 1 - (q:Int) = (g:Int):=⟨p+m - 1 - q,by omega⟩
   have hgn:g < n:=by omega
   have fr:∀ o,wr.frozen? ⟨b,o,none⟩ = false:=fun o=>Row.free HL.out.2.1 o
   have zr:=szs (Nat.lt_of_lt_of_le hb HL.out.2.2.size)
   have A0:=(HL.out.2.1).at hgn
   have A1:=(HL.out.2.1).at hqn
   obtain ⟨x,hx⟩:∃ x,x = F' (g):=⟨_,rfl⟩
   obtain ⟨y,hy⟩:∃ y,y = F' (q):=⟨_,rfl⟩
   rw[←hx] at A0
   rw[←hy] at A1
   have HX:=Lib.hid hx
   have HY:=Lib.hid hy
   clear hx hy
   obtain ⟨a1,a2,a3,a4,a5,a6,a7,a8,a9,a10,a11,a12,a13,a14,a15,a16,a17⟩:=x
   obtain ⟨b1,b2,b3,b4,b5,b6,b7,b8,b9,b10,b11,b12,b13,b14,b15,b16,b17⟩:=y
   (have f0:=(A0).c0;have f1:=(A0).c1;have f2:=(A0).c2;have f3:=(A0).c3;have f4:=(A0).c4;have f5:=(A0).c5;have f6:=(A0).c6;have f7:=(A0).c7;have f8:=(A0).c8;have f9:=(A0).c9;have f10:=(A0).c10;have f11:=(A0).c11;have f12:=(A0).c12);(try dsimp only at f0 f1 f2 f3 f4 f5 f6 f7 f8 f9 f10 f11 f12)
   (have h0:=(A1).c0;have h1:=(A1).c1;have h2:=(A1).c2;have h3:=(A1).c3;have h4:=(A1).c4;have h5:=(A1).c5;have h6:=(A1).c6;have h7:=(A1).c7;have h8:=(A1).c8;have h9:=(A1).c9;have h10:=(A1).c10;have h11:=(A1).c11;have h12:=(A1).c12);(try dsimp only at h0 h1 h2 h3 h4 h5 h6 h7 h8 h9 h10 h11 h12)
   clear A0 A1
   go_wp2_with fail
   (refine region_order (fun i:Nat=>World.drewN _ i) [] [0,1,2,3,4,5,6,7,8,9,10] 11 [12,13] mixed (by kernel_rfl) ⟨1,rfl⟩ ?_;simp only[List.map_cons,List.map_nil,Array.getD_eq_getD_getElem?,List.getElem?_toArray,List.getElem?_cons_zero,List.getElem?_cons_succ,Option.getD_some];(repeat (refine wpPure_cons _ rfl (fun w'=>by go_simp;try rfl) ?_;dsimp only[Act.put]));refine wpPure_nil ?_;(repeat (any_goals (first | go_big_quiet_step (fail) | quiet_step (fail) | (refine wpQuiet_step (fun K hK=>?_);go_simp;split <;> (refine hK _ ?_;clear hK K)))));(all_goals (refine wpQuiet_nil (fun nq=>?_))))
   have bq1:Below wr.heap.size wr (wr.drewN nq):=below_drewN (Below.refl _ _) _
   go_wp2_with fail
   refine (cmp20 ⟨a1,a2,a3,a4,a5,a6,a7,a8,a9,a10,a11,a12,a13,a14,a15,a16,a17⟩ ⟨b1,b2,b3,b4,b5,b6,b7,b8,b9,b10,b11,b12,b13,b14,b15,b16,b17⟩ _).mono ?_
   rintro e w1 ⟨⟨r,rfl⟩,hB⟩
   have HM:Hid (From n F F'∧RdR w1 base (.slice (some ⟨b,0,none⟩) n c) n F'∧Off (fun k=>k = b) w w1):=Lib.hid ⟨HL.out.1,RdR.off (X:=fun _=>False) HL.out.2.1 (Off.of_below (bq1.trans (hB.mono bq1.size))) (fun _ _ h=>h),HL.out.2.2.trans (Off.of_below (bq1.trans (hB.mono bq1.size))) (fun _ _ h=>h)⟩
   clear bq1 hB zr f0 h0 f1 h1 f2 h2 f3 h3 f4 h4 f5 h5 f6 h6 f7 h7 f8 h8 f9 h9 f10 h10 f11 h11 f12 h12
   clear hg
   by_cases hr:r < 0
   ·have t4:decide (r < 0) = true:=decide_eq_true hr
    go_wp2_with fail
    refine onlyN_intro ?_
    go_wp2_with fail
    go_roundw
    case rel=>exact ⟨i,q,F',rfl,rfl,by omega,by omega,by omega,HM⟩
    case measure=>simp [intOf] <;> omega
   ·have t4:decide (r < 0) = false:=decide_eq_false hr
    go_wp2_with fail
    refine onlyN_intro ?_
    go_wp2_with fail
    go_roundw
    case rel=>exact ⟨q+1,j,F',by go_num,rfl,by omega,by omega,by omega,HM⟩
    case measure=>simp [intOf] <;> omega
  ·have t1:decide ((i:Int) < (j:Int)) = false:=decide_eq_false (by omega)
   obtain ⟨v,hv⟩:∃ v:Nat,(p:Int)+(m:Int) - (i:Int) = (v:Int):=⟨p+m - i,by omega⟩
   have u1:decide ((i:Int) < (m:Int)) = true:=decide_eq_true (by omega)
   by_cases c1:m < v
   ·have u2:decide ((m:Int) < (v:Int)) = true:=decide_eq_true (by omega)
    go_wp2_with fail
    refine (rotate92 base b n c i m v F' (.func (.func 20) #[] #[]) wr HL.out.2.1 (by omega) (by omega) (by omega)).mono ?_
    rintro e w3 ⟨rfl,F3,hF,hR1,hO⟩
    have H3:=Lib.hid (And.intro (HL.out.1.trans hF) (And.intro hR1 (HL.out.2.2.trans hO (fun _ _ h=>h))))
    clear hF hR1 hO
    by_cases c3:a < i
    ·have u3:decide ((a:Int) < (i:Int)) = true:=decide_eq_true (by omega)
     have u4:decide ((i:Int) < (p:Int)) = true:=decide_eq_true (by omega)
     go_wp2_with fail
     refine (IH.out a i p F3 w3 H3.out.2.1 (by omega) (by omega) (by omega) (by omega)).mono ?_
     rintro e w4 ⟨rfl,F4,hF,hR1,hO⟩
     have H4:=Lib.hid (And.intro (H3.out.1.trans hF) (And.intro hR1 (H3.out.2.2.trans hO (fun _ _ h=>h))))
     clear hF hR1 hO
     have u5:decide ((p:Int) < (v:Int)) = true:=decide_eq_true (by omega)
     by_cases c6:v < d
     ·have u6:decide ((v:Int) < (d:Int)) = true:=decide_eq_true (by omega)
      go_wp2_with fail
      refine (IH.out p v d F4 w4 H4.out.2.1 (by omega) (by omega) (by omega) (by omega)).mono ?_
      rintro e w5 ⟨rfl,F5,hF,hR1,hO⟩
      have H5:=Lib.hid (And.intro (H4.out.1.trans hF) (And.intro hR1 (H4.out.2.2.trans hO (fun _ _ h=>h))))
      clear hF hR1 hO
      go_wp2_with fail
      go_returns
      exact ⟨rfl,F5,H5.out⟩
     ·have u6:decide ((v:Int) < (d:Int)) = false:=decide_eq_false (by omega)
      go_wp2_with fail
      go_returns
      exact ⟨rfl,F4,H4.out⟩
    ·have u3:decide ((a:Int) < (i:Int)) = false:=decide_eq_false (by omega)
     have u5:decide ((p:Int) < (v:Int)) = true:=decide_eq_true (by omega)
     have u6:decide ((v:Int) < (d:Int)) = false:=decide_eq_false (by omega)
     go_wp2_with fail
     go_returns
     exact ⟨rfl,F3,H3.out⟩
   ·have u2:decide ((m:Int) < (v:Int)) = false:=decide_eq_false (by omega)
    have u3:decide ((a:Int) < (i:Int)) = true:=decide_eq_true (by omega)
    have u4:decide ((i:Int) < (p:Int)) = false:=decide_eq_false (by omega)
    have u5:decide ((p:Int) < (v:Int)) = true:=decide_eq_true (by omega)
    have u6:decide ((v:Int) < (d:Int)) = true:=decide_eq_true (by omega)
    go_wp2_with fail
    refine (IH.out p v d F' wr HL.out.2.1 (by omega) (by omega) (by omega) (by omega)).mono ?_
    rintro e w5 ⟨rfl,F5,hF,hR1,hO⟩
    have H5:=Lib.hid (And.intro (HL.out.1.trans hF) (And.intro hR1 (HL.out.2.2.trans hO (fun _ _ h=>h))))
    clear hF hR1 hO
    go_wp2_with fail
    go_returns
    exact ⟨rfl,F5,H5.out⟩
set_option maxRecDepth 8000 in
set_option maxHeartbeats 16000000 in
theorem symD (base b n c a m d k:Nat) (F:Nat→Rid) (w:World) (hR:RdR w base (.slice (some ⟨b,0,none⟩) n c) n F) (hs:n≤1000) (ha:a < m) (hm:m < d) (hd:d≤n) (h0:a+1 < m) (h1:m+1 < d) (ih:∀ (a m d:Nat) (F:Nat→Rid) (w:World),RdR w base (.slice (some ⟨b,0,none⟩) n c) n F→a < m→m < d→d≤n→d - a < k→Calls Tryz.prog 62 #[.slice (some ⟨b,0,none⟩) n c,.int .i64 a,.int .i64 m,.int .i64 d,.func (.func 20) #[] #[]] w (MovW base b n c F w)) (hk:d - a≤k) (hmid:m≤(a+d) / 2) :
  Calls Tryz.prog 62 #[.slice (some ⟨b,0,none⟩) n c,.int .i64 a,.int .i64 m,.int .i64 d,.func (.func 20) #[] #[]] w (MovW base b n c F w):=by
 obtain ⟨hb,hn,hc⟩:=hR.bnds
 have HR:=Lib.hid hR
 clear hR
 have z0:decide ((m:Int) - (a:Int) = 1) = false:=decide_eq_false (by omega)
 have z1:decide ((d:Int) - (m:Int) = 1) = false:=decide_eq_false (by omega)
 have z4:((m:Int) - (a:Int) == 1) = false:=by simp;omega
 have z5:((d:Int) - (m:Int) == 1) = false:=by simp;omega
 obtain ⟨p,hp⟩:∃ p:Nat,p = (a+d) / 2:=⟨_,rfl⟩
 have hpI:((a:Int)+(d:Int)) / 2 = (p:Int):=by omega
 rw[←hp] at hmid
 have p1:a < p:=by omega
 have p2:p < d:=by omega
 have p3:2 * p≤a+d:=by omega
 have p4:a+d≤2 * p+1:=by omega
 have z2:decide ((m:Int) > (p:Int)) = false:=decide_eq_false (by omega)
 have z3:decide ((p:Int) < (m:Int)) = false:=decide_eq_false (by omega)
 have z6:decide (p < m) = false:=decide_eq_false (by omega)
 have IH:=Lib.hid ih
 clear ih hp
 go_enter Tryz.func62,Tryz.ntmps62
 go_wp2_with fail
 go_loopw [20,21] (fun s20 s21 wr=>∃ (i j:Nat) (F':Nat→Rid),s20 = .int .i64 i∧s21 = .int .i64 j∧a≤i∧i≤j∧j≤m∧Hid (From n F F'∧RdR wr base (.slice (some ⟨b,0,none⟩) n c) n F'∧Off (fun k=>k = b) w wr)) (fun s20 s21 _=>(intOf s21).toNat - (intOf s20).toNat)
 case atStart=>exact ⟨a,m,F,rfl,rfl,by omega,by omega,by omega,Lib.hid ⟨From.refl _ _,HR.out,Off.refl _ _⟩⟩
 case round =>
  obtain ⟨i,j,F',rfl,rfl,hi,hij,hj,hrel⟩:=hrel
  have HL:=hrel
  clear hrel HR
  by_cases hlt:i < j
  ·have t1:decide ((i:Int) < (j:Int)) = true:=decide_eq_true (by omega)
   go_wp2_with fail
   obtain ⟨q,hq⟩:∃ q:Nat,((i:Int)+(j:Int)) / 2 = (q:Int):=⟨(i+j) / 2,by omega⟩
   have q1:i≤q:=by omega
   have q2:q < j:=by omega
   rw[hq]
   clear hq
   have hqn:q < n:=by omega
   obtain ⟨g,hg⟩:∃ g:Nat,(p:Int)+(m:Int) - 1 - (q:Int) = (g:Int):=⟨p+m - 1 - q,by omega⟩
   have hgn:g < n:=by omega
   have fr:∀ o,wr.frozen? ⟨b,o,none⟩ = false:=fun o=>Row.free HL.out.2.1 o
   have zr:=szs (Nat.lt_of_lt_of_le hb HL.out.2.2.size)
   have A0:=(HL.out.2.1).at hgn
   have A1:=(HL.out.2.1).at hqn
   obtain ⟨x,hx⟩:∃ x,x = F' (g):=⟨_,rfl⟩
   obtain ⟨y,hy⟩:∃ y,y = F' (q):=⟨_,rfl⟩
   rw[←hx] at A0
   rw[←hy] at A1
   have HX:=Lib.hid hx
   have HY:=Lib.hid hy
   clear hx hy
   obtain ⟨a1,a2,a3,a4,a5,a6,a7,a8,a9,a10,a11,a12,a13,a14,a15,a16,a17⟩:=x
   obtain ⟨b1,b2,b3,b4,b5,b6,b7,b8,b9,b10,b11,b12,b13,b14,b15,b16,b17⟩:=y
   (have f0:=(A0).c0;have f1:=(A0).c1;have f2:=(A0).c2;have f3:=(A0).c3;have f4:=(A0).c4;have f5:=(A0).c5;have f6:=(A0).c6;have f7:=(A0).c7;have f8:=(A0).c8;have f9:=(A0).c9;have f10:=(A0).c10;have f11:=(A0).c11;have f12:=(A0).c12);(try dsimp only at f0 f1 f2 f3 f4 f5 f6 f7 f8 f9 f10 f11 f12)
   (have h0:=(A1).c0;have h1:=(A1).c1;have h2:=(A1).c2;have h3:=(A1).c3;have h4:=(A1).c4;have h5:=(A1).c5;have h6:=(A1).c6;have h7:=(A1).c7;have h8:=(A1).c8;have h9:=(A1).c9;have h10:=(A1).c10;have h11:=(A1).c11;have h12:=(A1).c12);(try dsimp only at h0 h1 h2 h3 h4 h5 h6 h7 h8 h9 h10 h11 h12)
   clear A0 A1
   go_wp2_with fail
   (refine region_order (fun i:Nat=>World.drewN _ i) [] [0,1,2,3,4,5,6,7,8,9,10] 11 [12,13] mixed (by kernel_rfl) ⟨1,rfl⟩ ?_;simp only[List.map_cons,List.map_nil,Array.getD_eq_getD_getElem?,List.getElem?_toArray,List.getElem?_cons_zero,List.getElem?_cons_succ,Option.getD_some];(repeat (refine wpPure_cons _ rfl (fun w'=>by go_simp;try rfl) ?_;dsimp only[Act.put]));refine wpPure_nil ?_;(repeat (any_goals (first | go_big_quiet_step (fail) | quiet_step (fail) | (refine wpQuiet_step (fun K hK=>?_);go_simp;split <;> (refine hK _ ?_;clear hK K)))));(all_goals (refine wpQuiet_nil (fun nq=>?_))))
   have bq1:Below wr.heap.size wr (wr.drewN nq):=below_drewN (Below.refl _ _) _
   go_wp2_with fail
   refine (cmp20 ⟨a1,a2,a3,a4,a5,a6,a7,a8,a9,a10,a11,a12,a13,a14,a15,a16,a17⟩ ⟨b1,b2,b3,b4,b5,b6,b7,b8,b9,b10,b11,b12,b13,b14,b15,b16,b17⟩ _).mono ?_
   rintro e w1 ⟨⟨r,rfl⟩,hB⟩
   have HM:Hid (From n F F'∧RdR w1 base (.slice (some ⟨b,0,none⟩) n c) n F'∧Off (fun k=>k = b) w w1):=Lib.hid ⟨HL.out.1,RdR.off (X:=fun _=>False) HL.out.2.1 (Off.of_below (bq1.trans (hB.mono bq1.size))) (fun _ _ h=>h),HL.out.2.2.trans (Off.of_below (bq1.trans (hB.mono bq1.size))) (fun _ _ h=>h)⟩
   clear bq1 hB zr f0 h0 f1 h1 f2 h2 f3 h3 f4 h4 f5 h5 f6 h6 f7 h7 f8 h8 f9 h9 f10 h10 f11 h11 f12 h12
   clear hg
   by_cases hr:r < 0
   ·have t4:decide (r < 0) = true:=decide_eq_true hr
    go_wp2_with fail
    refine onlyN_intro ?_
    go_wp2_with fail
    go_roundw
    case rel=>exact ⟨i,q,F',rfl,rfl,by omega,by omega,by omega,HM⟩
    case measure=>simp [intOf] <;> omega
   ·have t4:decide (r < 0) = false:=decide_eq_false hr
    go_wp2_with fail
    refine onlyN_intro ?_
    go_wp2_with fail
    go_roundw
    case rel=>exact ⟨q+1,j,F',by go_num,rfl,by omega,by omega,by omega,HM⟩
    case measure=>simp [intOf] <;> omega
  ·have t1:decide ((i:Int) < (j:Int)) = false:=decide_eq_false (by omega)
   obtain ⟨v,hv⟩:∃ v:Nat,(p:Int)+(m:Int) - (i:Int) = (v:Int):=⟨p+m - i,by omega⟩
   by_cases c1:i < m
   ·have u1:decide ((i:Int) < (m:Int)) = true:=decide_eq_true (by omega)
    have u2:decide ((m:Int) < (v:Int)) = true:=decide_eq_true (by omega)
    go_wp2_with fail
    refine (rotate92 base b n c i m v F' (.func (.func 20) #[] #[]) wr HL.out.2.1 (by omega) (by omega) (by omega)).mono ?_
    rintro e w3 ⟨rfl,F3,hF,hR1,hO⟩
    have H3:=Lib.hid (And.intro (HL.out.1.trans hF) (And.intro hR1 (HL.out.2.2.trans hO (fun _ _ h=>h))))
    clear hF hR1 hO
    by_cases c3:a < i
    ·have u3:decide ((a:Int) < (i:Int)) = true:=decide_eq_true (by omega)
     have u4:decide ((i:Int) < (p:Int)) = true:=decide_eq_true (by omega)
     go_wp2_with fail
     refine (IH.out a i p F3 w3 H3.out.2.1 (by omega) (by omega) (by omega) (by omega)).mono ?_
     rintro e w4 ⟨rfl,F4,hF,hR1,hO⟩
     have H4:=Lib.hid (And.intro (H3.out.1.trans hF) (And.intro hR1 (H3.out.2.2.trans hO (fun _ _ h=>h))))
     clear hF hR1 hO
     have u5:decide ((p:Int) < (v:Int)) = true:=decide_eq_true (by omega)
     have u6:decide ((v:Int) < (d:Int)) = true:=decide_eq_true (by omega)
     go_wp2_with fail
     refine (IH.out p v d F4 w4 H4.out.2.1 (by omega) (by omega) (by omega) (by omega)).mono ?_
     rintro e w5 ⟨rfl,F5,hF,hR1,hO⟩
     have H5:=Lib.hid (And.intro (H4.out.1.trans hF) (And.intro hR1 (H4.out.2.2.trans hO (fun _ _ h=>h))))
     clear hF hR1 hO
     go_wp2_with fail
     go_returns
     exact ⟨rfl,F5,H5.out⟩
    ·have u3:decide ((a:Int) < (i:Int)) = false:=decide_eq_false (by omega)
     have u5:decide ((p:Int) < (v:Int)) = true:=decide_eq_true (by omega)
     by_cases c6:v < d
     ·have u6:decide ((v:Int) < (d:Int)) = true:=decide_eq_true (by omega)
      go_wp2_with fail
      refine (IH.out p v d F3 w3 H3.out.2.1 (by omega) (by omega) (by omega) (by omega)).mono ?_
      rintro e w5 ⟨rfl,F5,hF,hR1,hO⟩
      have H5:=Lib.hid (And.intro (H3.out.1.trans hF) (And.intro hR1 (H3.out.2.2.trans hO (fun _ _ h=>h))))
      clear hF hR1 hO
      go_wp2_with fail
      go_returns
      exact ⟨rfl,F5,H5.out⟩
     ·have u6:decide ((v:Int) < (d:Int)) = false:=decide_eq_false (by omega)
      go_wp2_with fail
      go_returns
      exact ⟨rfl,F3,H3.out⟩
   ·have u1:decide ((i:Int) < (m:Int)) = false:=decide_eq_false (by omega)
    have u3:decide ((a:Int) < (i:Int)) = true:=decide_eq_true (by omega)
    by_cases c4:i < p
    ·have u4:decide ((i:Int) < (p:Int)) = true:=decide_eq_true (by omega)
     go_wp2_with fail
     refine (IH.out a i p F' wr HL.out.2.1 (by omega) (by omega) (by omega) (by omega)).mono ?_
     rintro e w4 ⟨rfl,F4,hF,hR1,hO⟩
     have H4:=Lib.hid (And.intro (HL.out.1.trans hF) (And.intro hR1 (HL.out.2.2.trans hO (fun _ _ h=>h))))
     clear hF hR1 hO
     have u5:decide ((p:Int) < (v:Int)) = false:=decide_eq_false (by omega)
     go_wp2_with fail
     go_returns
     exact ⟨rfl,F4,H4.out⟩
    ·have u4:decide ((i:Int) < (p:Int)) = false:=decide_eq_false (by omega)
     have u5:decide ((p:Int) < (v:Int)) = false:=decide_eq_false (by omega)
     go_wp2_with fail
     go_returns
     exact ⟨rfl,F',HL.out⟩
theorem symMerge62 (base b n c:Nat) (hs:n≤1000):∀ (k a m d:Nat) (F:Nat→Rid) (w:World),RdR w base (.slice (some ⟨b,0,none⟩) n c) n F→a < m→m < d→d≤n→d - a < k→Calls Tryz.prog 62 #[.slice (some ⟨b,0,none⟩) n c,.int .i64 a,.int .i64 m,.int .i64 d,.func (.func 20) #[] #[]] w (MovW base b n c F w)
 | 0,a,m,d,F,w,hR,ha,hm,hd,hk=>absurd hk (Nat.not_lt_zero _)
 | k+1,a,m,d,F,w,hR,ha,hm,hd,hk=>by
  have ih:=symMerge62 base b n c hs k
  by_cases h1:m = a+1
  ·exact symA base b n c a m d F w hR hs ha hm hd h1
  ·by_cases h2:d = m+1
   ·exact symB base b n c a m d F w hR hs ha hm hd (by omega) h2
   ·by_cases h3:(a+d) / 2 < m
    ·exact symC base b n c a m d k F w hR hs ha hm hd (by omega) (by omega) ih (by omega) h3
    ·exact symD base b n c a m d k F w hR hs ha hm hd (by omega) (by omega) ih (by omega) (by omega)
end Go.Proofs.YtdpoppilnokniaaGreatDoor
namespace Go.Proofs.YtdpoppilnokniaaGreatDoor
open Go.RowKit Go.ChangeShapes Go.WideShapes Go.Deep
set_option linter.unusedVariables false
set_option linter.unusedSimpArgs false
theorem symZ (base b n c a m d:Nat) (F:Nat→Rid) (w:World) {A M D:Int}(hA:A = (a:Int)) (hM:M = (m:Int)) (hD:D = (d:Int)) (hR:RdR w base (.slice (some ⟨b,0,none⟩) n c) n F) (hs:n≤1000) (ha:a < m) (hm:m < d) (hd:d≤n) :
  Calls Tryz.prog 62 #[.slice (some ⟨b,0,none⟩) n c,.int .i64 A,.int .i64 M,.int .i64 D,.func (.func 20) #[] #[]] w (MovW base b n c F w):=by
 subst hA hM hD
 exact symMerge62 base b n c hs (d - a+1) a m d F w hR ha hm hd (by omega)
theorem insZ (base b n c a d:Nat) (F:Nat→Rid) (w:World) {A D:Int}(hA:A = (a:Int)) (hD:D = (d:Int)) (hR:RdR w base (.slice (some ⟨b,0,none⟩) n c) n F) (hs:n≤1000) (ha:a≤n) (hd:d≤n) :
  Calls Tryz.prog 61 #[.slice (some ⟨b,0,none⟩) n c,.int .i64 A,.int .i64 D,.func (.func 20) #[] #[]] w (MovW base b n c F w):=by
 subst hA hD
 exact insertion61 base b n c a d F w hR hs ha hd
set_option maxRecDepth 8000 in
set_option maxHeartbeats 8000000 in
theorem stable41 (base b n c:Nat) (F:Nat→Rid) (w:World) (hR:RdR w base (.slice (some ⟨b,0,none⟩) n c) n F) (hs:n≤1000) :
  Calls Tryz.prog 41 #[.slice (some ⟨b,0,none⟩) n c,.int .i64 n,.func (.func 20) #[] #[]] w (MovW base b n c F w):=by
 obtain ⟨hb,hn,hc⟩:=hR.bnds
 have HR:=Lib.hid hR
 clear hR
 go_enter Tryz.func41,Tryz.ntmps41
 go_wp2_with fail
 go_loopw [7,8] (fun s7 s8 wr=>∃ (a:Nat) (F':Nat→Rid),s7 = .int .i64 a∧s8 = .int .i64 ((a:Int)+20)∧a≤n∧Hid (From n F F'∧RdR wr base (.slice (some ⟨b,0,none⟩) n c) n F'∧Off (fun k=>k = b) w wr)) (fun s7 s8 _=>n - (intOf s7).toNat)
 case atStart=>exact ⟨0,F,rfl,rfl,by omega,Lib.hid ⟨From.refl _ _,HR.out,Off.refl _ _⟩⟩
 case round =>
  obtain ⟨a,F',rfl,rfl,ha,hrel⟩:=hrel
  have HL:=hrel
  clear hrel HR
  by_cases hlt:a+20≤n
  ·have t1:decide ((a:Int)+20≤(n:Int)) = true:=decide_eq_true (by omega)
   go_wp2_with fail
   refine (insZ base b n c a (a+20) F' wr rfl (by omega) HL.out.2.1 hs (by omega) (by omega)).mono ?_
   rintro e w3 ⟨rfl,F3,hF,hR1,hO⟩
   have H3:=Lib.hid (And.intro (HL.out.1.trans hF) (And.intro hR1 (HL.out.2.2.trans hO (fun _ _ h=>h))))
   clear hF hR1 hO
   go_wp2_with fail
   go_roundw
   case rel=>exact ⟨a+20,F3,by go_num,by go_num,by omega,H3⟩
   case measure=>simp [intOf] <;> omega
  ·have t1:decide ((a:Int)+20≤(n:Int)) = false:=decide_eq_false (by omega)
   go_wp2_with fail
   refine (insZ base b n c a n F' wr rfl rfl HL.out.2.1 hs (by omega) (by omega)).mono ?_
   rintro e w3 ⟨rfl,F3,hF,hR1,hO⟩
   have H3:=Lib.hid (And.intro (HL.out.1.trans hF) (And.intro hR1 (HL.out.2.2.trans hO (fun _ _ h=>h))))
   clear hF hR1 hO HL hlt t1
   go_wp2_with fail
   go_loopw [6] (fun s6 ws=>∃ (z:Nat) (F':Nat→Rid),s6 = .int .i64 z∧20≤z∧z≤2000∧Hid (From n F F'∧RdR ws base (.slice (some ⟨b,0,none⟩) n c) n F'∧Off (fun k=>k = b) w ws)) (fun s6 _=>2001 - (intOf s6).toNat)
   case atStart=>exact ⟨20,F3,rfl,by omega,by omega,H3⟩
   case round =>
    obtain ⟨z,F4,rfl,hz,hz2,hrel⟩:=hrel
    have H4:=hrel
    clear hrel H3 ha F'
    by_cases hzn:z < n
    ·have t2:decide ((z:Int) < (n:Int)) = true:=decide_eq_true (by omega)
     go_wp2_with fail
     go_loopw [7,8] (fun s7 s8 wt=>∃ (x:Nat) (F':Nat→Rid),s7 = .int .i64 x∧s8 = .int .i64 ((x:Int)+2 * (z:Int))∧x≤n∧Hid (From n F F'∧RdR wt base (.slice (some ⟨b,0,none⟩) n c) n F'∧Off (fun k=>k = b) w wt)) (fun s7 s8 _=>n - (intOf s7).toNat)
     case atStart=>exact ⟨0,F4,rfl,by go_num,by omega,H4⟩
     case round =>
      obtain ⟨x,F5,rfl,rfl,hx,hrel⟩:=hrel
      have H5:=hrel
      clear hrel H4
      by_cases hle:x+2 * z≤n
      ·have t3:decide ((x:Int)+2 * (z:Int)≤(n:Int)) = true:=decide_eq_true (by omega)
       go_wp2_with fail
       refine (symZ base b n c x (x+z) (x+2 * z) F5 wr rfl (by omega) (by omega) H5.out.2.1 hs (by omega) (by omega) (by omega)).mono ?_
       rintro e w6 ⟨rfl,F6,hF,hR1,hO⟩
       have H6:=Lib.hid (And.intro (H5.out.1.trans hF) (And.intro hR1 (H5.out.2.2.trans hO (fun _ _ h=>h))))
       clear hF hR1 hO
       go_wp2_with fail
       go_roundw
       case rel=>exact ⟨x+2 * z,F6,by go_num,by go_num,by omega,H6⟩
       case measure=>simp [intOf] <;> omega
      ·have t3:decide ((x:Int)+2 * (z:Int)≤(n:Int)) = false:=decide_eq_false (by omega)
       by_cases hm:x+z < n
       ·have t4:decide ((x:Int)+(z:Int) < (n:Int)) = true:=decide_eq_true (by omega)
        go_wp2_with fail
        refine (symZ base b n c x (x+z) n F5 wr rfl (by omega) rfl H5.out.2.1 hs (by omega) (by omega) (by omega)).mono ?_
        rintro e w6 ⟨rfl,F6,hF,hR1,hO⟩
        have H6:=Lib.hid (And.intro (H5.out.1.trans hF) (And.intro hR1 (H5.out.2.2.trans hO (fun _ _ h=>h))))
        clear hF hR1 hO
        go_wp2_with fail
        go_roundw
        case rel=>exact ⟨z * 2,F6,by go_num,by omega,by omega,H6⟩
        case measure=>simp [intOf] <;> omega
       ·have t4:decide ((x:Int)+(z:Int) < (n:Int)) = false:=decide_eq_false (by omega)
        go_wp2_with fail
        go_roundw
        case rel=>exact ⟨z * 2,F5,by go_num,by omega,by omega,H5⟩
        case measure=>simp [intOf] <;> omega
    ·have t2:decide ((z:Int) < (n:Int)) = false:=decide_eq_false (by omega)
     go_wp2_with fail
     go_returns
     exact ⟨rfl,F4,H4.out⟩
theorem ins_none (w:World):Calls Tryz.prog 61 #[.slice none 0 0,.int .i64 0,.int .i64 0,.func (.func 20) #[] #[]] w fun e w'=>e = .returned (.tuple #[])∧w' = w:=by
 have t1:decide ((1:Int) < 0) = false:=rfl
 go_enter Tryz.func61,Tryz.ntmps61
 go_wp2_with fail
 go_loopw [8] (fun s8 wr=>s8 = .int .i64 1∧wr = w) (fun s8 _=>0)
 case atStart=>exact ⟨rfl,rfl⟩
 case round =>
  obtain ⟨rfl,hwr⟩:=hrel
  have HW:=Lib.hid hwr
  clear hwr
  go_wp2_with fail
  go_returns
  exact ⟨rfl,HW.out⟩
theorem stable41_none (w:World):Calls Tryz.prog 41 #[.slice none 0 0,.int .i64 0,.func (.func 20) #[] #[]] w fun e w'=>e = .returned (.tuple #[])∧w' = w:=by
 have hI:=ins_none
 go_enter Tryz.func41,Tryz.ntmps41
 go_wp2_with fail
 go_loopw [7,8] (fun s7 s8 wr=>s7 = .int .i64 0∧s8 = .int .i64 20∧wr = w) (fun s7 s8 _=>0)
 case atStart=>exact ⟨rfl,rfl,rfl⟩
 case round =>
  obtain ⟨rfl,rfl,hwr⟩:=hrel
  have HW:=Lib.hid hwr
  clear hwr
  go_wp2_with fail
  refine (ins_none _).mono ?_
  rintro e w2 ⟨rfl,h2⟩
  have H2:=Lib.hid (h2.trans HW.out)
  clear h2
  go_wp2_with fail
  go_loopw [6] (fun s6 wt=>s6 = .int .i64 20∧wt = w) (fun s6 _=>0)
  case atStart=>exact ⟨rfl,H2.out⟩
  case round =>
   obtain ⟨rfl,hwr⟩:=hrel
   have HT:=Lib.hid hwr
   clear hwr
   go_wp2_with fail
   go_returns
   exact ⟨rfl,HT.out⟩
theorem sort19 (base n:Nat) (v:Value) (F:Nat→Rid) (w:World) (hR:RdR w base v n F) (hs:n≤1000) :
  Calls Tryz.prog 19 #[v,.func (.func 20) #[] #[]] w fun e w'=>e = .returned (.tuple #[])∧∃ F',From n F F'∧RdR w' base v n F'∧Off (fun k=>v.ownBlock = some k) w w':=by
 rcases Row.shape hR with ⟨rfl,rfl⟩ | ⟨b,c,rfl,hb0,hb,hn,hc⟩
 ·go_enter Tryz.func19,Tryz.ntmps19
  go_wp2_with fail
  refine (stable41_none _).mono ?_
  rintro e w2 ⟨rfl,h2⟩
  go_wp2_with fail
  go_returns
  subst h2
  exact ⟨rfl,F,From.refl _ _,hR,Off.refl _ _⟩
 ·have hc':c≤9223372036854775807:=hc
  have HR:=Lib.hid hR
  clear hR
  go_enter Tryz.func19,Tryz.ntmps19
  go_wp2_with fail
  refine (stable41 base b n c F _ HR.out hs).mono ?_
  rintro e w2 ⟨rfl,F2,hF,h2,hO⟩
  have H2:=Lib.hid (And.intro hF (And.intro h2 hO))
  clear hF h2 hO
  go_wp2_with fail
  go_returns
  exact ⟨rfl,F2,H2.out.1,H2.out.2.1,H2.out.2.2.mono (fun k _ hk=>by cases hk;rfl)⟩
end Go.Proofs.YtdpoppilnokniaaGreatDoor
