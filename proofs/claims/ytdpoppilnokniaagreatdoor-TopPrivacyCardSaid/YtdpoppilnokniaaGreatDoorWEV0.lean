/- Theorems of this seat. -/
import Derived.Test.YtdpoppilnokniaaGreatDoorWC
import Derived.Test.YtdpoppilnokniaaGreatDoorWBA
namespace Go.Proofs.YtdpoppilnokniaaGreatDoor
open Go.RowKit Go.ChangeShapes Go.WideShapes Go.Deep
set_option linter.unusedVariables false
set_option linter.unusedSimpArgs false
def cmp1 (a b:Int):Int:=if a < b then -1 else if b < a then 1 else 0
theorem nan42 (n:Int) (w:World):Calls Tryz.prog 42 #[.int .i64 n] w fun e w'=>e = .returned (.bool false)∧w = w':=by
 have t:(n != n) = false:=by simp
 go_enter Tryz.func42,Tryz.ntmps42
 go_wp2_with fail
 go_returns
 exact ⟨rfl,rfl⟩
theorem cmp21 (a b:Int) (w:World):Calls Tryz.prog 21 #[.int .i64 a,.int .i64 b] w fun e w'=>e = .returned (.int .i64 (cmp1 a b))∧w = w':=by
 have C:=Lib.hid (fun n w'=>nan42 n w')
 by_cases h1:a < b
 ·have HE:Hid (cmp1 a b = -1):=Lib.hid (by simp [cmp1,h1])
  go_enter Tryz.func21,Tryz.ntmps21
  go_wp2_with fail
  refine (C.out _ _).mono ?_
  rintro e w1 ⟨rfl,rfl⟩
  go_wp2_with fail
  refine (C.out _ _).mono ?_
  rintro e w1 ⟨rfl,rfl⟩
  go_wp2_with fail
  go_returns
  exact ⟨by rw[HE.out];rfl,rfl⟩
 ·by_cases h2:b < a
  ·have HE:Hid (cmp1 a b = 1):=Lib.hid (by simp [cmp1,h1,h2])
   have h1':b≤a:=by omega
   clear h1
   go_enter Tryz.func21,Tryz.ntmps21
   go_wp2_with fail
   refine (C.out _ _).mono ?_
   rintro e w1 ⟨rfl,rfl⟩
   go_wp2_with fail
   refine (C.out _ _).mono ?_
   rintro e w1 ⟨rfl,rfl⟩
   go_wp2_with fail
   go_returns
   exact ⟨by rw[HE.out];rfl,rfl⟩
  ·have HE:Hid (cmp1 a b = 0):=Lib.hid (by simp [cmp1,h1,h2])
   have h1':b≤a:=by omega
   have h2':a≤b:=by omega
   clear h1 h2
   go_enter Tryz.func21,Tryz.ntmps21
   go_wp2_with fail
   refine (C.out _ _).mono ?_
   rintro e w1 ⟨rfl,rfl⟩
   go_wp2_with fail
   refine (C.out _ _).mono ?_
   rintro e w1 ⟨rfl,rfl⟩
   go_wp2_with fail
   go_returns
   exact ⟨by rw[HE.out];rfl,rfl⟩
def kC (v:Ev):Array Value:=#[.int .i64 v.at',.int .i64 v.dev,.int .i64 v.seq,.int .i64 v.late,.int .i64 v.kind,.int .i64 v.bike,.int .i64 v.place,.int .i64 v.rider,.int .i64 v.ride]
theorem kC_get (v:Ev) {j:Nat}(hj:j < 9):(kC v)[j]? = some (.int .i64 ((keyE v).getD j 0)):=by
 rcases (by omega:j = 0∨j = 1∨j = 2∨j = 3∨j = 4∨j = 5∨j = 6∨j = 7∨j = 8) with rfl | rfl | rfl | rfl | rfl | rfl | rfl | rfl | rfl <;> rfl
theorem cmpL_drop (v u:Ev) {j:Nat}(hj:j < 9):cmpL ((keyE v).drop j) ((keyE u).drop j) = if cmp1 ((keyE v).getD j 0) ((keyE u).getD j 0) = 0 then cmpL ((keyE v).drop (j+1)) ((keyE u).drop (j+1)) else cmp1 ((keyE v).getD j 0) ((keyE u).getD j 0):=by
 have h:∀ (xs ys:List Int),j < xs.length→j < ys.length→cmpL (xs.drop j) (ys.drop j) = if cmp1 (xs.getD j 0) (ys.getD j 0) = 0 then cmpL (xs.drop (j+1)) (ys.drop (j+1)) else cmp1 (xs.getD j 0) (ys.getD j 0):=fun xs ys h1 h2=>by
  rw[List.drop_eq_getElem_cons h1,List.drop_eq_getElem_cons h2]
  have e1:xs.getD j 0 = xs[j]:=by simp [List.getD,h1]
  have e2:ys.getD j 0 = ys[j]:=by simp [List.getD,h2]
  rw[e1,e2]
  show (if xs[j] < ys[j] then -1 else if ys[j] < xs[j] then 1 else _) = _
  unfold cmp1
  by_cases a1:xs[j] < ys[j]
  ·simp [a1]
  ·by_cases a2:ys[j] < xs[j]
   ·simp [a1,a2]
   ·simp [a1,a2]
 exact h _ _ hj hj
set_option maxHeartbeats 4000000 in
theorem compare80 (v u:Ev) (w:World):Calls Tryz.prog 80 #[.agg (eC v),.agg (eC u)] w fun e w'=>e = .returned (.int .i64 (cmpE v u))∧Grew w w':=by
 have hE:cmpE v u = cmpL ((keyE v).drop 0) ((keyE u).drop 0):=rfl
 have HE:=Lib.hid hE
 have KD:=Lib.hid (fun (j:Nat) (hj:j < 9)=>cmpL_drop v u hj)
 have KV:=Lib.hid (fun (j:Nat) (hj:j < 9)=>kC_get v hj)
 have KU:=Lib.hid (fun (j:Nat) (hj:j < 9)=>kC_get u hj)
 obtain ⟨r,hr⟩:∃ r,r = cmpE v u:=⟨_,rfl⟩
 rw[←hr] at HE ⊢
 obtain ⟨kv,hkv⟩:∃ kv:Nat→Int,kv = fun j=>(keyE v).getD j 0:=⟨_,rfl⟩
 obtain ⟨ku,hku⟩:∃ ku:Nat→Int,ku = fun j=>(keyE u).getD j 0:=⟨_,rfl⟩
 have HKV:=Lib.hid hkv
 have HKU:=Lib.hid hku
 unfold eC
 clear hE hr hkv hku
 obtain ⟨v1,v2,v3,v4,v5,v6,v7,v8,v9⟩:=v
 obtain ⟨n1,n2,n3,n4,n5,n6,n7,n8,n9⟩:=u
 dsimp only
 go_enter Tryz.func80,Tryz.ntmps80
 go_wp2_with fail
 obtain ⟨wb,hwb⟩:∃ wb,wb = ((w.alloc (.cells #[.int .i64 v1,.int .i64 v2,.int .i64 v3,.int .i64 v4,.int .i64 v5,.int .i64 v6,.int .i64 v7,.int .i64 v8,.int .i64 v9] 81)).alloc (.cells #[.int .i64 n1,.int .i64 n2,.int .i64 n3,.int .i64 n4,.int .i64 n5,.int .i64 n6,.int .i64 n7,.int .i64 n8,.int .i64 n9] 81)):=⟨_,rfl⟩
 obtain ⟨wc,hwc⟩:∃ wc,wc = wb.alloc (.cells #[.int .i64 v3,.int .i64 v1,.int .i64 v2,.int .i64 v4,.int .i64 v5,.int .i64 v6,.int .i64 v7,.int .i64 v8,.int .i64 v9] 181):=⟨_,rfl⟩
 obtain ⟨wd,hwd⟩:∃ wd,wd = wc.alloc (.cells #[.int .i64 n3,.int .i64 n1,.int .i64 n2,.int .i64 n4,.int .i64 n5,.int .i64 n6,.int .i64 n7,.int .i64 n8,.int .i64 n9] 181):=⟨_,rfl⟩
 rw[←hwb,←hwc,←hwd]
 have hz2:wb.heap.size = w.heap.size+2:=by rw[hwb];simp
 have hz3:wc.heap.size = w.heap.size+3:=by rw[hwc];simp [hz2]
 have x1:wc.heap[w.heap.size+2]? = some (.cells (kC ⟨v1,v2,v3,v4,v5,v6,v7,v8,v9⟩) 181):=by rw[hwc,←hz2];exact heap_alloc_new wb _
 have x2:wd.heap[w.heap.size+3]? = some (.cells (kC ⟨n1,n2,n3,n4,n5,n6,n7,n8,n9⟩) 181):=by rw[hwd,←hz3];exact heap_alloc_new wc _
 have bcd:Below wc.heap.size wc wd:=by rw[hwd];exact (Below.refl _ _).alloc (Nat.le_refl _) _
 have X1:=Lib.hid ((bcd.block _ (block_lt x1)).trans x1)
 have X2:=Lib.hid x2
 have G0:Hid (Grew w wd):=Lib.hid (by rw[hwd,hwc,hwb];(repeat' (first | (with_reducible exact Grew.refl _) | (with_reducible assumption) | (with_reducible refine Grew.drew ?_) | (with_reducible refine Grew.drewN ?_ _) | (with_reducible refine Grew.alloc ?_ _))))
 clear hwb hwc hwd hz2 hz3 x1 x2 bcd
 go_loopw [47] (fun i wr=>∃ j:Nat,i = .int .i64 j∧j≤9∧Hid (r = cmpL ((keyE ⟨v1,v2,v3,v4,v5,v6,v7,v8,v9⟩).drop j) ((keyE ⟨n1,n2,n3,n4,n5,n6,n7,n8,n9⟩).drop j)∧Grew wd wr)) (fun i _=>9 - (intOf i).toNat)
 case atStart=>exact ⟨0,rfl,by omega,Lib.hid ⟨HE.out,Grew.refl _⟩⟩
 case round =>
  obtain ⟨j,rfl,hj,hrel⟩:=hrel
  have GR:=Lib.hid (G0.out.trans hrel.out.2)
  by_cases hlt:j < 9
  ·have tj:(j:Int) < 9:=by omega
   have y1:=(hrel.out.2.1.block _ (block_lt X1.out)).trans X1.out
   have y2:=(hrel.out.2.1.block _ (block_lt X2.out)).trans X2.out
   have ca:=(cell_at y1 j).trans (KV.out j hlt)
   have cb:=(cell_at y2 j).trans (KU.out j hlt)
   have kd:=KD.out j hlt
   have z1:=szs (block_lt y1)
   have z2:=szs (block_lt y2)
   obtain ⟨x,hx⟩:∃ x,x = (keyE ⟨v1,v2,v3,v4,v5,v6,v7,v8,v9⟩).getD j 0:=⟨_,rfl⟩
   obtain ⟨y,hy⟩:∃ y,y = (keyE ⟨n1,n2,n3,n4,n5,n6,n7,n8,n9⟩).getD j 0:=⟨_,rfl⟩
   rw[←hx] at ca kd
   rw[←hy] at cb kd
   have CC:=Lib.hid (fun w'=>cmp21 x y w')
   obtain ⟨c,hc⟩:∃ c,c = cmp1 x y:=⟨_,rfl⟩
   rw[←hc] at CC kd
   have hr:=hrel.out.1
   rw[kd] at hr
   have HR:=Lib.hid hr
   have HG:=Lib.hid hrel.out.2
   clear hrel y1 y2 kd hx hy hc hr
   obtain ⟨wo,rfl⟩:∃ wo:World,wo = wr:=⟨_,rfl⟩
   go_wp2_with fail
   (obtain ⟨ι,hne,Fw,fb,hF⟩:=dfamily wo);have hF:∀ w',(dPlan wo (fun _=>.int .i64 c) [6] [] []).D () w'→∃ i,w' = Fw i:=hF
   have f0:=fun i=>cell_kept (fb i) ca
   have f1:=fun i=>cell_kept (fb i) cb
   clear ca cb
   (refine region_chain (dPlan wo (fun _=>.int .i64 c) [6] [] []) () [] [0,1,2,3,4,5,6,7] [] mixed (by kernel_rfl) (by kernel_rfl) (dPlan_ok (by simp) (by simp)) (dPlan_start _ _ _ _ _) ?_;refine wpPure_nil ?_;simp only[List.map_cons,List.map_nil,Array.getD_eq_getD_getElem?,List.getElem?_toArray,List.getElem?_cons_zero,List.getElem?_cons_succ,Option.getD_some])
   (repeat (first | (refine wpChain_skip rfl ?_;simp only[Act.put,List.setIfInBounds_toArray,List.set_cons_succ,List.set_cons_zero]) | (refine wpChain_quiet hF rfl rfl rfl ?_;intro K hK;go_big_quiet_op;go_big_quiet_on) | (refine wpChain_pure _ rfl rfl (fun w' _=>by go_simp;try rfl) ?_;simp only[Act.put,List.setIfInBounds_toArray,List.set_cons_succ,List.set_cons_zero])))
   refine wpChain_dcall 21 #[.int .i64 x,.int .i64 y] rfl rfl (fun w'=>by go_simp) (fun w' hb=>(CC.out w').mono fun _ _ ⟨he,hw⟩=>⟨he,hw ▸ Grew.refl _⟩) ?_
   simp only[Act.put,List.setIfInBounds_toArray,List.set_cons_succ,List.set_cons_zero]
   (repeat (first | (refine wpChain_skip rfl ?_;simp only[Act.put,List.setIfInBounds_toArray,List.set_cons_succ,List.set_cons_zero]) | (refine wpChain_quiet hF rfl rfl rfl ?_;intro K hK;go_big_quiet_op;go_big_quiet_on) | (refine wpChain_pure _ rfl rfl (fun w' _=>by go_simp;try rfl) ?_;simp only[Act.put,List.setIfInBounds_toArray,List.set_cons_succ,List.set_cons_zero])))
   refine wpChain_nil (fun w4 hb4 hl4=>?_)
   have B4:Hid (Grew wo w4):=hb4
   clear hb4 hl4 hF fb f0 f1 hne
   refine onlyN_intro ?_
   by_cases hc:c = 0
   ·have t:(c != 0) = false:=by simp [hc]
    have hh:=HR.out
    rw[if_pos hc] at hh
    have HR2:=Lib.hid hh
    clear hc HR hh
    go_wp2_with fail
    go_roundw
    case rel=>exact ⟨j+1,by go_num,by omega,Lib.hid ⟨HR2.out,HG.out.trans B4.out⟩⟩
    case measure=>simp [intOf];omega
   ·have t:(c != 0) = true:=by simp [hc]
    have HR2:=Lib.hid (show r = c from by have:=HR.out;rw[if_neg hc] at this;exact this)
    clear hc HR
    go_wp2_with fail
    go_returns
    exact ⟨by rw[HR2.out];rfl,GR.out.trans B4.out⟩
  ·obtain rfl:j = 9:=by omega
   have HR2:=Lib.hid (show r = 0 from hrel.out.1)
   clear hrel
   go_wp2_with fail
   go_returns
   exact ⟨by rw[HR2.out];rfl,GR.out⟩
end Go.Proofs.YtdpoppilnokniaaGreatDoor
namespace Go.Proofs.YtdpoppilnokniaaGreatDoor
open Go.RowKit Go.ChangeShapes Go.WideShapes Go.Deep
set_option linter.unusedVariables false
set_option linter.unusedSimpArgs false
end Go.Proofs.YtdpoppilnokniaaGreatDoor
namespace Go.Proofs.YtdpoppilnokniaaGreatDoor
open Go.RowKit Go.ChangeShapes Go.WideShapes Go.Deep
set_option linter.unusedVariables false
set_option linter.unusedSimpArgs false
def orV (a b c:Int):Int:=if a = 0 then (if b = 0 then c else b) else a
theorem cmpD_or (v u:Ev):cmpD v u = orV (cmp1 v.dev u.dev) (cmp1 v.seq u.seq) (cmpE v u):=by
 unfold cmpD keyD cmpL orV cmp1
 by_cases a1:v.dev < u.dev
 ·simp [a1]
 ·by_cases a2:u.dev < v.dev
  ·simp [a1,a2]
  ·simp only[a1,a2,if_false,if_true]
   unfold cmpL
   by_cases b1:v.seq < u.seq
   ·simp [b1]
   ·by_cases b2:u.seq < v.seq
    ·simp [b1,b2]
    ·simp only[b1,b2,if_false,if_true];rfl
set_option maxHeartbeats 1000000 in
theorem or52 (b:Nat) (x y z:Int) (w:World) (h:w.heap[b]? = some (.cells #[.int .i64 x,.int .i64 y,.int .i64 z] 3 (0,0))):Calls Tryz.prog 52 #[.slice (some ⟨b,0,none⟩) 3 3] w fun e w'=>e = .returned (.int .i64 (orV x y z))∧w = w':=by
 have c0:w.cell? ⟨b,0,none⟩ = some (.int .i64 x):=cell_at h 0
 have c1:w.cell? ⟨b,1,none⟩ = some (.int .i64 y):=cell_at h 1
 have c2:w.cell? ⟨b,2,none⟩ = some (.int .i64 z):=cell_at h 2
 have zb:=szs (block_lt h)
 clear h
 obtain ⟨r,hr⟩:∃ r,r = orV x y z:=⟨_,rfl⟩
 rw[←hr]
 unfold orV at hr
 by_cases hx:x = 0
 ·rw[if_pos hx] at hr
  have tx:(x != 0) = false:=by simp [hx]
  by_cases hy:y = 0
  ·rw[if_pos hy] at hr
   have ty:(y != 0) = false:=by simp [hy]
   by_cases hz:z = 0
   ·have tz:(z != 0) = false:=by simp [hz]
    have HR:=Lib.hid (hr.trans hz)
    clear hx hy hz hr
    go_enter Tryz.func52,Tryz.ntmps52
    go_wp2_with fail
    refine wp_loop_rounds 4 ?_
    iterate 4
     rw[rounds_succ]
     go_wp2_with fail
    go_returns
    exact ⟨by rw[HR.out];rfl,rfl⟩
   ·have tz:(z != 0) = true:=by simp [hz]
    have HR:=Lib.hid hr
    clear hx hy hz hr
    go_enter Tryz.func52,Tryz.ntmps52
    go_wp2_with fail
    refine wp_loop_rounds 4 ?_
    iterate 3
     rw[rounds_succ]
     go_wp2_with fail
    go_returns
    exact ⟨by rw[HR.out];rfl,rfl⟩
  ·rw[if_neg hy] at hr
   have ty:(y != 0) = true:=by simp [hy]
   have HR:=Lib.hid hr
   clear hx hy hr
   go_enter Tryz.func52,Tryz.ntmps52
   go_wp2_with fail
   refine wp_loop_rounds 4 ?_
   iterate 2
    rw[rounds_succ]
    go_wp2_with fail
   go_returns
   exact ⟨by rw[HR.out];rfl,rfl⟩
 ·rw[if_neg hx] at hr
  have tx:(x != 0) = true:=by simp [hx]
  have HR:=Lib.hid hr
  clear hx hr
  go_enter Tryz.func52,Tryz.ntmps52
  go_wp2_with fail
  refine wp_loop_rounds 4 ?_
  iterate 1
   rw[rounds_succ]
   go_wp2_with fail
  go_returns
  exact ⟨by rw[HR.out];rfl,rfl⟩
end Go.Proofs.YtdpoppilnokniaaGreatDoor
namespace Go.Proofs.YtdpoppilnokniaaGreatDoor
open Go.RowKit Go.ChangeShapes Go.WideShapes Go.Deep
set_option linter.unusedVariables false
set_option linter.unusedSimpArgs false
set_option maxHeartbeats 4000000 in
theorem set79 (v u:Ev) (w:World):Calls Tryz.prog 79 #[.agg (eC v),.agg (eC u)] w fun e w'=>e = .returned (.int .i64 (cmpD v u))∧Grew w w':=by
 have CC:=Lib.hid (fun w'=>compare80 v u w')
 have C1:=Lib.hid (fun w'=>cmp21 v.dev u.dev w')
 have C2:=Lib.hid (fun w'=>cmp21 v.seq u.seq w')
 obtain ⟨y1,hy1⟩:∃ y1,y1 = cmp1 v.dev u.dev:=⟨_,rfl⟩
 obtain ⟨y2,hy2⟩:∃ y2,y2 = cmp1 v.seq u.seq:=⟨_,rfl⟩
 obtain ⟨y3,hy3⟩:∃ y3,y3 = cmpE v u:=⟨_,rfl⟩
 have HR:Hid (cmpD v u = orV y1 y2 y3):=Lib.hid (by rw[cmpD_or,hy1,hy2,hy3])
 rw[←hy3] at CC
 rw[←hy1] at C1
 rw[←hy2] at C2
 clear hy1 hy2 hy3
 obtain ⟨r,hr⟩:∃ r,r = cmpD v u:=⟨_,rfl⟩
 rw[←hr] at HR ⊢
 clear hr
 unfold eC at *
 obtain ⟨v1,v2,v3,v4,v5,v6,v7,v8,v9⟩:=v
 obtain ⟨n1,n2,n3,n4,n5,n6,n7,n8,n9⟩:=u
 dsimp only at CC C1 C2 ⊢
 go_enter Tryz.func79,Tryz.ntmps79
 go_wp2_with fail
 obtain ⟨wa,hwa⟩:∃ wa,wa = w.alloc (.cells #[.int .i64 v1,.int .i64 v2,.int .i64 v3,.int .i64 v4,.int .i64 v5,.int .i64 v6,.int .i64 v7,.int .i64 v8,.int .i64 v9] 81):=⟨_,rfl⟩
 obtain ⟨wb,hwb⟩:∃ wb,wb = wa.alloc (.cells #[.int .i64 n1,.int .i64 n2,.int .i64 n3,.int .i64 n4,.int .i64 n5,.int .i64 n6,.int .i64 n7,.int .i64 n8,.int .i64 n9] 81):=⟨_,rfl⟩
 rw[←hwa,←hwb]
 have hz:wa.heap.size = w.heap.size+1:=by rw[hwa];simp
 have x1:wb.heap[w.heap.size]? = some (.cells #[.int .i64 v1,.int .i64 v2,.int .i64 v3,.int .i64 v4,.int .i64 v5,.int .i64 v6,.int .i64 v7,.int .i64 v8,.int .i64 v9] 81):=by
  have e:wa.heap[w.heap.size]? = some (.cells #[.int .i64 v1,.int .i64 v2,.int .i64 v3,.int .i64 v4,.int .i64 v5,.int .i64 v6,.int .i64 v7,.int .i64 v8,.int .i64 v9] 81):=by rw[hwa];exact heap_alloc_new w _
  have hb:Below wa.heap.size wa wb:=by rw[hwb];exact (Below.refl _ _).alloc (Nat.le_refl _) _
  exact (hb.block _ (block_lt e)).trans e
 have x2:wb.heap[w.heap.size+1]? = some (.cells #[.int .i64 n1,.int .i64 n2,.int .i64 n3,.int .i64 n4,.int .i64 n5,.int .i64 n6,.int .i64 n7,.int .i64 n8,.int .i64 n9] 81):=by rw[hwb,←hz];exact heap_alloc_new wa _
 have G0:Hid (Grew w wb):=Lib.hid (by rw[hwb,hwa];(repeat' (first | (with_reducible exact Grew.refl _) | (with_reducible assumption) | (with_reducible refine Grew.drew ?_) | (with_reducible refine Grew.drewN ?_ _) | (with_reducible refine Grew.alloc ?_ _))))
 clear hwa hwb hz
 obtain ⟨A,hA⟩:∃ A,A = w.heap.size:=⟨_,rfl⟩
 obtain ⟨B,hB⟩:∃ B,B = w.heap.size+1:=⟨_,rfl⟩
 have a0:=cell_at x1 0
 have b0:=cell_at x2 0
 have a1:=cell_at x1 1
 have b1:=cell_at x2 1
 have a2:=cell_at x1 2
 have b2:=cell_at x2 2
 have a3:=cell_at x1 3
 have b3:=cell_at x2 3
 have a4:=cell_at x1 4
 have b4:=cell_at x2 4
 have a5:=cell_at x1 5
 have b5:=cell_at x2 5
 have a6:=cell_at x1 6
 have b6:=cell_at x2 6
 have a7:=cell_at x1 7
 have b7:=cell_at x2 7
 have a8:=cell_at x1 8
 have b8:=cell_at x2 8
 clear x1 x2 hA hB
 (obtain ⟨ι,hne,Fw,fb,hF⟩:=dfamily wb);have hF:∀ w',(dPlan wb (fun i=>if i = 4 then .int .i64 y1 else if i = 9 then .int .i64 y2 else .int .i64 y3) [4,9,12] [(13,fun b=>.slice (some ⟨b,0,none⟩) 3 3,.cells #[.int .i64 y1,.int .i64 y2,.int .i64 y3] 3)] []).D () w'→∃ i,w' = Fw i:=hF
 have f0:=fun i=>cell_kept (fb i) a0
 have g0:=fun i=>cell_kept (fb i) b0
 have f1:=fun i=>cell_kept (fb i) a1
 have g1:=fun i=>cell_kept (fb i) b1
 have f2:=fun i=>cell_kept (fb i) a2
 have g2:=fun i=>cell_kept (fb i) b2
 have f3:=fun i=>cell_kept (fb i) a3
 have g3:=fun i=>cell_kept (fb i) b3
 have f4:=fun i=>cell_kept (fb i) a4
 have g4:=fun i=>cell_kept (fb i) b4
 have f5:=fun i=>cell_kept (fb i) a5
 have g5:=fun i=>cell_kept (fb i) b5
 have f6:=fun i=>cell_kept (fb i) a6
 have g6:=fun i=>cell_kept (fb i) b6
 have f7:=fun i=>cell_kept (fb i) a7
 have g7:=fun i=>cell_kept (fb i) b7
 have f8:=fun i=>cell_kept (fb i) a8
 have g8:=fun i=>cell_kept (fb i) b8
 clear a0 b0 a1 b1 a2 b2 a3 b3 a4 b4 a5 b5 a6 b6 a7 b7 a8 b8
 (refine region_chain (dPlan wb (fun i=>if i = 4 then .int .i64 y1 else if i = 9 then .int .i64 y2 else .int .i64 y3) [4,9,12] [(13,fun b=>.slice (some ⟨b,0,none⟩) 3 3,.cells #[.int .i64 y1,.int .i64 y2,.int .i64 y3] 3)] []) () [] [0,1,2,3,5,6,7,8,10,11,4,9,12,13] [14,15] mixed (by kernel_rfl) (by kernel_rfl) (dPlan_ok (by simp) (by simp)) (dPlan_start _ _ _ _ _) ?_;refine wpPure_nil ?_;simp only[List.map_cons,List.map_nil,Array.getD_eq_getD_getElem?,List.getElem?_toArray,List.getElem?_cons_zero,List.getElem?_cons_succ,Option.getD_some])
 (repeat (first | (refine wpChain_skip rfl ?_;simp only[Act.put,List.setIfInBounds_toArray,List.set_cons_succ,List.set_cons_zero]) | (refine wpChain_quiet hF rfl rfl rfl ?_;intro K hK;go_big_quiet_op;go_big_quiet_on) | (refine wpChain_pure _ rfl rfl (fun w' _=>by go_simp;try rfl) ?_;simp only[Act.put,List.setIfInBounds_toArray,List.set_cons_succ,List.set_cons_zero])))
 refine wpChain_dcall 21 #[.int .i64 v1,.int .i64 n1] rfl rfl (fun w'=>by go_simp) (fun w' hb=>(C1.out w').mono fun _ _ ⟨he,hw⟩=>⟨he,hw ▸ Grew.refl _⟩) ?_
 simp only[Act.put,List.setIfInBounds_toArray,List.set_cons_succ,List.set_cons_zero]
 refine wpChain_dcall 21 #[.int .i64 v2,.int .i64 n2] rfl rfl (fun w'=>by go_simp) (fun w' hb=>(C2.out w').mono fun _ _ ⟨he,hw⟩=>⟨he,hw ▸ Grew.refl _⟩) ?_
 simp only[Act.put,List.setIfInBounds_toArray,List.set_cons_succ,List.set_cons_zero]
 refine wpChain_dcall 80 _ rfl rfl (fun w'=>by go_simp) (fun w' hb=>CC.out w') ?_
 simp only[Act.put,List.setIfInBounds_toArray,List.set_cons_succ,List.set_cons_zero]
 simp only[if_true,if_false,(by decide:¬ (9 = 4)),(by decide:¬ (12 = 4)),(by decide:¬ (12 = 9))]
 (refine wpChain_alloc _ _ rfl (List.mem_cons_self ..) rfl (fun w'=>by go_simp) (fun b1 hb1=>?_);simp only[Act.put,List.setIfInBounds_toArray,List.set_cons_succ,List.set_cons_zero])
 refine wpChain_nil (fun w4 hb4 hl4=>?_)
 have B4:Hid (Grew wb w4):=hb4
 have hx1:w4.heap[b1]? = some (.cells #[.int .i64 y1,.int .i64 y2,.int .i64 y3] 3):=(hl4.2 (13,b1,.cells #[.int .i64 y1,.int .i64 y2,.int .i64 y3] 3) (by simp)).2
 clear hb4 hl4 hF fb hne f0 f1 f2 f3 f4 f5 f6 f7 f8 g0 g1 g2 g3 g4 g5 g6 g7 g8 CC C1 C2
 have C:=Lib.hid (or52 b1 y1 y2 y3 w4 hx1)
 clear hx1
 go_wp2_with fail
 refine C.out.mono ?_
 rintro e w5 ⟨rfl,rfl⟩
 go_wp2_with fail
 refine onlyN_intro ?_
 go_wp2_with fail
 go_returns
 exact ⟨by rw[HR.out];rfl,G0.out.trans B4.out⟩
end Go.Proofs.YtdpoppilnokniaaGreatDoor
namespace Go.Proofs.YtdpoppilnokniaaGreatDoor
open Go.RowKit Go.ChangeShapes Go.WideShapes Go.Deep
set_option linter.unusedVariables false
set_option linter.unusedSimpArgs false
theorem eqFields_ints (P:Program) (t3:TypeId) (ht:P.underlying t3 = some (.int .i64)) (hs:∀ w,(sizeOf t3).run P w = .ok 1 w) (hag:∀ w,(isAgg t3).run P w = .ok false w) (d:Nat) (xs ys:Array Value) (w:World):∀ (fs:List Field) (X Y:Field→Int),(∀ f∈fs,f.type = t3∧f.name ≠ "_"∧xs[f.offset]? = some (.int .i64 (X f))∧ys[f.offset]? = some (.int .i64 (Y f))) →
  (Op.eqFields (d+1) xs ys fs).run P w = .ok (fs.all fun f=>decide (X f = Y f)) w
 | [],X,Y,_=>rfl
 | f :: fs,X,Y,h=>by
  obtain ⟨h1,h2,h3,h4⟩:=h f (by simp)
  have ih:=eqFields_ints P t3 ht hs hag d xs ys w fs X Y (fun g hg=>h g (by simp [hg]))
  have p1:(part t3 xs f.offset).run P w = .ok (.int .i64 (X f)) w:=by unfold part;simp [hag,hs,h3]
  have p2:(part t3 ys f.offset).run P w = .ok (.int .i64 (Y f)) w:=by unfold part;simp [hag,hs,h4]
  unfold Op.eqFields
  rw[if_pos h2,h1]
  simp only[Sem.run_bind,p1,p2,Result.andThen_ok,run_equalIn_int w d t3 .i64 .i64 _ _ ht]
  by_cases e:X f = Y f
  ·simp [e,ih]
  ·simp [e]
theorem eq_ints (P:Program) (t t3:TypeId) (fs:Array Field) (xs ys:List Int) (hu:P.underlying t = some (.struct fs)) (hp:P.stoodInHeld t = false) (ht:P.underlying t3 = some (.int .i64)) (hs:∀ w,(sizeOf t3).run P w = .ok 1 w) (hag:∀ w,(isAgg t3).run P w = .ok false w)
  (hf:∀ f∈fs.toList,f.type = t3∧f.name ≠ "_"∧f.offset < xs.length∧f.offset < ys.length) (hall:(fs.toList.all fun f=>decide (xs.getD f.offset 0 = ys.getD f.offset 0)) = decide (xs = ys)) (w:World) :
  (binOp .eql t (.agg (xs.map (Value.int .i64)).toArray) (.agg (ys.map (Value.int .i64)).toArray)).run P w = .ok (.bool (decide (xs = ys))) w∧(binOp .neq t (.agg (xs.map (Value.int .i64)).toArray) (.agg (ys.map (Value.int .i64)).toArray)).run P w = .ok (.bool (!decide (xs = ys))) w:=by
 have hfo:P.fieldsOf t = fs:=by unfold Program.fieldsOf;rw[hu]
 have hE:(Op.equalIn 10000 t (.agg (xs.map (Value.int .i64)).toArray) (.agg (ys.map (Value.int .i64)).toArray)).run P w = .ok (decide (xs = ys)) w:=by
  rw[run_equalIn_struct w 9999 t _ _ (by rw[hfo];exact hu) hp,hfo,eqFields_ints P t3 ht hs hag 9998 _ _ w fs.toList (fun f=>xs.getD f.offset 0) (fun f=>ys.getD f.offset 0) (fun f hf'=>?_),hall]
  obtain ⟨h1,h2,h3,h4⟩:=hf f hf'
  exact ⟨h1,h2,by simp [List.getElem?_eq_getElem h3,List.getD],by simp [List.getElem?_eq_getElem h4,List.getD]⟩
 rw[run_eql_struct,run_neq_struct,hE]
 exact ⟨rfl,rfl⟩
theorem exec_eql {P:Program}{ρ:Operand→Value}{o:Oper}{op:BinOp}{t t2:TypeId}{x y:Operand}{xs ys:Array Value}{r:Value}{w:World}(ho:o.op = .binOp op t x y t2) (hx:ρ x = .agg xs) (hy:ρ y = .agg ys) (hg:P.eqGuardType P.depth t = false) (hb:(binOp op t (.agg xs) (.agg ys)).run P w = .ok r w) (hop:op = .eql∨op = .neq):(execOp ρ o).run P w = .ok (.value r) w:=by
 rcases hop with rfl | rfl
 all_goals
  unfold execOp
  rw[ho]
  dsimp only
  rw[hx,hy]
  simp [run_eqGuard_agg w _ t x y xs ys hg,hb]
theorem eqNum (a b c d:Int) (w:World):(binOp .eql 153 (.agg #[.int .i64 a,.int .i64 b]) (.agg #[.int .i64 c,.int .i64 d])).run Tryz.prog w = .ok (.bool (decide (a = c) && decide (b = d))) w:=by
 have h:=(eq_ints Tryz.prog 153 3 _ [a,b] [c,d] Tryz.underlying153 (by kernel_rfl) (by kernel_rfl) (fun w=>by kernel_rfl) (fun w=>by kernel_rfl) (by simp) (by simp [Bool.decide_and]) w).1
 simpa [Bool.decide_and] using h
def lE (v:Ev):List Int:=[v.dev,v.seq,v.at',v.late,v.kind,v.bike,v.place,v.rider,v.ride]
theorem number83 (v:Ev) (w:World):Calls Tryz.prog 83 #[.agg (eC v)] w fun e w'=>e = .returned (.agg #[.int .i64 v.dev,.int .i64 v.seq])∧Grew w w':=by
 unfold eC at *
 obtain ⟨v1,v2,v3,v4,v5,v6,v7,v8,v9⟩:=v
 dsimp only
 go_enter Tryz.func83,Tryz.ntmps83
 go_wp2_with fail
 go_returns
 exact ⟨rfl,by (repeat' (first | (with_reducible exact Grew.refl _) | (with_reducible assumption) | (with_reducible refine Grew.drew ?_) | (with_reducible refine Grew.drewN ?_ _) | (with_reducible refine Grew.alloc ?_ _)))⟩
set_option maxHeartbeats 1000000 in
theorem set82 (v u:Ev) (w:World):Calls Tryz.prog 82 #[.agg (eC v),.agg (eC u)] w fun e w'=>e = .returned (.bool (sameN v u))∧Grew w w':=by
 have C1:=Lib.hid (fun w'=>number83 v w')
 have C2:=Lib.hid (fun w'=>number83 u w')
 have EQ:=Lib.hid (fun w'=>eqNum v.dev v.seq u.dev u.seq w')
 obtain ⟨r,hr⟩:∃ r,r = sameN v u:=⟨_,rfl⟩
 have e:(decide (v.dev = u.dev) && decide (v.seq = u.seq)) = r:=hr ▸ rfl
 rw[e] at EQ
 rw[←hr]
 clear hr e
 unfold eC at *
 obtain ⟨v1,v2,v3,v4,v5,v6,v7,v8,v9⟩:=v
 obtain ⟨n1,n2,n3,n4,n5,n6,n7,n8,n9⟩:=u
 dsimp only at C1 C2 EQ ⊢
 go_enter Tryz.func82,Tryz.ntmps82
 go_wp2_with fail
 obtain ⟨wa,hwa⟩:∃ wa,wa = w.alloc (.cells #[.int .i64 v1,.int .i64 v2,.int .i64 v3,.int .i64 v4,.int .i64 v5,.int .i64 v6,.int .i64 v7,.int .i64 v8,.int .i64 v9] 81):=⟨_,rfl⟩
 obtain ⟨wb,hwb⟩:∃ wb,wb = wa.alloc (.cells #[.int .i64 n1,.int .i64 n2,.int .i64 n3,.int .i64 n4,.int .i64 n5,.int .i64 n6,.int .i64 n7,.int .i64 n8,.int .i64 n9] 81):=⟨_,rfl⟩
 rw[←hwa,←hwb]
 have hz:wa.heap.size = w.heap.size+1:=by rw[hwa];simp
 have x1:wb.heap[w.heap.size]? = some (.cells #[.int .i64 v1,.int .i64 v2,.int .i64 v3,.int .i64 v4,.int .i64 v5,.int .i64 v6,.int .i64 v7,.int .i64 v8,.int .i64 v9] 81):=by
  have e:wa.heap[w.heap.size]? = some (.cells #[.int .i64 v1,.int .i64 v2,.int .i64 v3,.int .i64 v4,.int .i64 v5,.int .i64 v6,.int .i64 v7,.int .i64 v8,.int .i64 v9] 81):=by rw[hwa];exact heap_alloc_new w _
  have hb:Below wa.heap.size wa wb:=by rw[hwb];exact (Below.refl _ _).alloc (Nat.le_refl _) _
  exact (hb.block _ (block_lt e)).trans e
 have x2:wb.heap[w.heap.size+1]? = some (.cells #[.int .i64 n1,.int .i64 n2,.int .i64 n3,.int .i64 n4,.int .i64 n5,.int .i64 n6,.int .i64 n7,.int .i64 n8,.int .i64 n9] 81):=by rw[hwb,←hz];exact heap_alloc_new wa _
 have G0:Hid (Grew w wb):=Lib.hid (by rw[hwb,hwa];(repeat' (first | (with_reducible exact Grew.refl _) | (with_reducible assumption) | (with_reducible refine Grew.drew ?_) | (with_reducible refine Grew.drewN ?_ _) | (with_reducible refine Grew.alloc ?_ _))))
 clear hwa hwb hz
 have a0:=cell_at x1 0
 have b0:=cell_at x2 0
 have a1:=cell_at x1 1
 have b1:=cell_at x2 1
 have a2:=cell_at x1 2
 have b2:=cell_at x2 2
 have a3:=cell_at x1 3
 have b3:=cell_at x2 3
 have a4:=cell_at x1 4
 have b4:=cell_at x2 4
 have a5:=cell_at x1 5
 have b5:=cell_at x2 5
 have a6:=cell_at x1 6
 have b6:=cell_at x2 6
 have a7:=cell_at x1 7
 have b7:=cell_at x2 7
 have a8:=cell_at x1 8
 have b8:=cell_at x2 8
 clear x1 x2
 (obtain ⟨ι,hne,Fw,fb,hF⟩:=dfamily wb);have hF:∀ w',(dPlan wb (fun i=>if i = 1 then .agg #[.int .i64 v1,.int .i64 v2] else .agg #[.int .i64 n1,.int .i64 n2]) [1,3] [] []).D () w'→∃ i,w' = Fw i:=hF
 have f0:=fun i=>cell_kept (fb i) a0
 have g0:=fun i=>cell_kept (fb i) b0
 have f1:=fun i=>cell_kept (fb i) a1
 have g1:=fun i=>cell_kept (fb i) b1
 have f2:=fun i=>cell_kept (fb i) a2
 have g2:=fun i=>cell_kept (fb i) b2
 have f3:=fun i=>cell_kept (fb i) a3
 have g3:=fun i=>cell_kept (fb i) b3
 have f4:=fun i=>cell_kept (fb i) a4
 have g4:=fun i=>cell_kept (fb i) b4
 have f5:=fun i=>cell_kept (fb i) a5
 have g5:=fun i=>cell_kept (fb i) b5
 have f6:=fun i=>cell_kept (fb i) a6
 have g6:=fun i=>cell_kept (fb i) b6
 have f7:=fun i=>cell_kept (fb i) a7
 have g7:=fun i=>cell_kept (fb i) b7
 have f8:=fun i=>cell_kept (fb i) a8
 have g8:=fun i=>cell_kept (fb i) b8
 clear a0 b0 a1 b1 a2 b2 a3 b3 a4 b4 a5 b5 a6 b6 a7 b7 a8 b8
 (refine region_chain (dPlan wb (fun i=>if i = 1 then .agg #[.int .i64 v1,.int .i64 v2] else .agg #[.int .i64 n1,.int .i64 n2]) [1,3] [] []) () [] [0,2,1,3,4,5] [] mixed (by kernel_rfl) (by kernel_rfl) (dPlan_ok (by simp) (by simp)) (dPlan_start _ _ _ _ _) ?_;refine wpPure_nil ?_;simp only[List.map_cons,List.map_nil,Array.getD_eq_getD_getElem?,List.getElem?_toArray,List.getElem?_cons_zero,List.getElem?_cons_succ,Option.getD_some])
 (repeat (first | (refine wpChain_skip rfl ?_;simp only[Act.put,List.setIfInBounds_toArray,List.set_cons_succ,List.set_cons_zero]) | (refine wpChain_quiet hF rfl rfl rfl ?_;intro K hK;go_big_quiet_op;go_big_quiet_on) | (refine wpChain_pure _ rfl rfl (fun w' _=>by go_simp;try rfl) ?_;simp only[Act.put,List.setIfInBounds_toArray,List.set_cons_succ,List.set_cons_zero])))
 refine wpChain_dcall 83 _ rfl rfl (fun w'=>by go_simp) (fun w' hb=>C1.out w') ?_
 simp only[Act.put,List.setIfInBounds_toArray,List.set_cons_succ,List.set_cons_zero]
 refine wpChain_dcall 83 _ rfl rfl (fun w'=>by go_simp) (fun w' hb=>C2.out w') ?_
 simp only[Act.put,List.setIfInBounds_toArray,List.set_cons_succ,List.set_cons_zero]
 simp only[if_true,if_false,(by decide:¬ (3 = 1))]
 refine wpChain_pure (.bool r) rfl rfl (fun w' _=>exec_eql rfl rfl rfl Tryz.eqGuardType153 (EQ.out w') (.inl rfl)) ?_
 simp only[Act.put,List.setIfInBounds_toArray,List.set_cons_succ,List.set_cons_zero]
 (repeat (first | (refine wpChain_skip rfl ?_;simp only[Act.put,List.setIfInBounds_toArray,List.set_cons_succ,List.set_cons_zero]) | (refine wpChain_quiet hF rfl rfl rfl ?_;intro K hK;go_big_quiet_op;go_big_quiet_on) | (refine wpChain_pure _ rfl rfl (fun w' _=>by go_simp;try rfl) ?_;simp only[Act.put,List.setIfInBounds_toArray,List.set_cons_succ,List.set_cons_zero])))
 refine wpChain_nil (fun w4 hb4 hl4=>?_)
 have B4:Hid (Grew wb w4):=hb4
 clear hb4 hl4 hF fb hne f0 f1 f2 f3 f4 f5 f6 f7 f8 g0 g1 g2 g3 g4 g5 g6 g7 g8 C1 C2 EQ
 go_wp2_with fail
 refine onlyN_intro ?_
 go_wp2_with fail
 go_returns
 exact ⟨rfl,G0.out.trans B4.out⟩
end Go.Proofs.YtdpoppilnokniaaGreatDoor
