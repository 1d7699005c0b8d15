/- Theorems of this seat. -/
import Derived.Test.YtdpoppilnokniaaGreatDoorWCHB
import Derived.Test.YtdpoppilnokniaaGreatDoorWKC
import Derived.Test.YtdpoppilnokniaaGreatDoorWSRT
import Derived.Test.YtdpoppilnokniaaGreatDoorWPVL
import Derived.BigQuiet
import Derived.WalkLawsBesides
import Derived.BigRegion
namespace Go.Proofs.YtdpoppilnokniaaGreatDoor
open Go.RowKit Go.ChangeShapes Go.WideShapes Go.Deep Go.Maps
set_option linter.unusedVariables false
set_option linter.unusedSimpArgs false
set_option linter.unnecessarySimpa false
def orV2 (a b:Int):Int:=if a = 0 then b else a
set_option maxHeartbeats 1000000 in
theorem or2of52 (b:Nat) (x y:Int) (w:World) (h:w.heap[b]? = some (.cells #[.int .i64 x,.int .i64 y] 3 (0,0))):Calls Tryz.prog 52 #[.slice (some ⟨b,0,none⟩) 2 2] w fun e w'=>e = .returned (.int .i64 (orV2 x y))∧w = w':=by
 have c0:w.cell? ⟨b,0,none⟩ = some (.int .i64 x):=cell_at h 0
 have c1:w.cell? ⟨b,1,none⟩ = some (.int .i64 y):=cell_at h 1
 have zb:=szs (block_lt h)
 clear h
 obtain ⟨r,hr⟩:∃ r,r = orV2 x y:=⟨_,rfl⟩
 rw[←hr]
 unfold orV2 at hr
 by_cases hx:x = 0
 ·rw[if_pos hx] at hr
  have tx:(x != 0) = false:=by simp [hx]
  by_cases hy:y = 0
  ·have ty:(y != 0) = false:=by simp [hy]
   have HR:=Lib.hid (hr.trans hy)
   clear hx hy hr
   go_enter Tryz.func52,Tryz.ntmps52
   go_wp2_with fail
   refine wp_loop_rounds 3 ?_
   iterate 3
    rw[rounds_succ]
    go_wp2_with fail
   go_returns
   exact ⟨by rw[HR.out];rfl,rfl⟩
  ·have ty:(y != 0) = true:=by simp [hy]
   have HR:=Lib.hid hr
   clear hx hy hr
   go_enter Tryz.func52,Tryz.ntmps52
   go_wp2_with fail
   refine wp_loop_rounds 3 ?_
   iterate 2
    rw[rounds_succ]
    go_wp2_with fail
   go_returns
   exact ⟨by rw[HR.out];rfl,rfl⟩
 ·rw[if_neg hx] at hr
  have tx:(x != 0) = true:=by simp [hx]
  have HR:=Lib.hid hr
  clear hx hr
  go_enter Tryz.func52,Tryz.ntmps52
  go_wp2_with fail
  refine wp_loop_rounds 3 ?_
  iterate 1
   rw[rounds_succ]
   go_wp2_with fail
  go_returns
  exact ⟨by rw[HR.out];rfl,rfl⟩
def cmpS (x y:Rid):Int:=orV2 (cmp1 x.s0 y.s0) (cmp1 x.id y.id)
set_option maxRecDepth 8000 in
set_option maxHeartbeats 8000000 in
theorem cmpS51 (ao:Option Addr) (n c q:Nat) (F:Nat→Rid) (i k:Nat) (hi:i < n) (hk:k < n) (w:World) (h:Sl w 13 ao n c (fun i=>rds (F i))) (hq:w.heap[q]? = some (.cells #[.slice ao n c] 32 (0,0))) :
  Calls Tryz.prog 51 #[.int .i64 i,.int .i64 k,.pointer (some ⟨q,0,none⟩)] w fun e w'=>e = .returned (.int .i64 (cmpS (F i) (F k)))∧Grew w w':=by
 have hlm:=h.hm
 have hlc:=h.hc
 obtain ⟨g,o,rfl,hci⟩:=h.cell hi
 obtain ⟨_,_,e9,hck⟩:=h.cell hk
 cases e9
 have C1:=Lib.hid (fun w'=>cmp21 (F i).s0 (F k).s0 w')
 have C2:=Lib.hid (fun w'=>cmp21 (F i).id (F k).id w')
 have a0:w.cell? ⟨g,o+i * 13,none⟩ = some (.int .i64 (F i).id):=hci 0 (by decide)
 have a2:w.cell? ⟨g,o+i * 13+2,none⟩ = some (.int .i64 (F i).s0):=hci 2 (by decide)
 have b0:w.cell? ⟨g,o+k * 13,none⟩ = some (.int .i64 (F k).id):=hck 0 (by decide)
 have b2:w.cell? ⟨g,o+k * 13+2,none⟩ = some (.int .i64 (F k).s0):=hck 2 (by decide)
 have q0:w.cell? ⟨q,0,none⟩ = some (.slice (some ⟨g,o,none⟩) n c):=cell_at hq 0
 obtain ⟨y1,hy1⟩:∃ y1,y1 = cmp1 (F i).s0 (F k).s0:=⟨_,rfl⟩
 obtain ⟨y2,hy2⟩:∃ y2,y2 = cmp1 (F i).id (F k).id:=⟨_,rfl⟩
 have HR:Hid (cmpS (F i) (F k) = orV2 y1 y2):=Lib.hid (by unfold cmpS;rw[hy1,hy2])
 rw[←hy1] at C1
 rw[←hy2] at C2
 obtain ⟨r,hr⟩:∃ r,r = cmpS (F i) (F k):=⟨_,rfl⟩
 rw[←hr] at HR ⊢
 have hiI:(i:Int) < (n:Int):=by omega
 have hkI:(k:Int) < (n:Int):=by omega
 clear hy1 hy2 hr hci hck hq h
 go_enter Tryz.func51,Tryz.ntmps51
 go_wp2_with fail
 (obtain ⟨ι,hne,Fw,fb,hF⟩:=dfamily w);have hF:∀ w',(dPlan w (fun i=>if i = 12 then .int .i64 y1 else .int .i64 y2) [12,23] [(24,fun b=>.slice (some ⟨b,0,none⟩) 2 2,.cells #[.int .i64 y1,.int .i64 y2] 3)] []).D () w'→∃ i,w' = Fw i:=hF
 have fa0:=fun i=>cell_kept (fb i) a0
 have fa2:=fun i=>cell_kept (fb i) a2
 have fb0:=fun i=>cell_kept (fb i) b0
 have fb2:=fun i=>cell_kept (fb i) b2
 have fq0:=fun i=>cell_kept (fb i) q0
 clear a0 a2 b0 b2 q0
 (refine region_chain (dPlan w (fun i=>if i = 12 then .int .i64 y1 else .int .i64 y2) [12,23] [(24,fun b=>.slice (some ⟨b,0,none⟩) 2 2,.cells #[.int .i64 y1,.int .i64 y2] 3)] []) () [] [0,1,2,3,4,5,6,7,8,9,10,11,13,14,15,16,17,18,19,20,21,22,12,23,24] [25,26] mixed (by kernel_rfl) (by kernel_rfl) (dPlan_ok (by simp) (by simp)) (dPlan_start _ _ _ _ _) ?_;refine wpPure_nil ?_;simp only[List.map_cons,List.map_nil,Array.getD_eq_getD_getElem?,List.getElem?_toArray,List.getElem?_cons_zero,List.getElem?_cons_succ,Option.getD_some])
 (repeat (first | (refine wpChain_skip rfl ?_;simp only[Act.put,List.setIfInBounds_toArray,List.set_cons_succ,List.set_cons_zero]) | (refine wpChain_quiet hF rfl rfl rfl ?_;intro K hK;go_big_quiet_op;go_big_quiet_on) | (refine wpChain_pure _ rfl rfl (fun w' _=>by go_simp;try rfl) ?_;simp only[Act.put,List.setIfInBounds_toArray,List.set_cons_succ,List.set_cons_zero])))
 refine wpChain_dcall 21 #[.int .i64 (F i).s0,.int .i64 (F k).s0] rfl rfl (fun w'=>by go_simp) (fun w' hb=>(C1.out w').mono fun _ _ ⟨he,hw⟩=>⟨he,hw ▸ Grew.refl _⟩) ?_
 simp only[Act.put,List.setIfInBounds_toArray,List.set_cons_succ,List.set_cons_zero]
 refine wpChain_dcall 21 #[.int .i64 (F i).id,.int .i64 (F k).id] rfl rfl (fun w'=>by go_simp) (fun w' hb=>(C2.out w').mono fun _ _ ⟨he,hw⟩=>⟨he,hw ▸ Grew.refl _⟩) ?_
 simp only[Act.put,List.setIfInBounds_toArray,List.set_cons_succ,List.set_cons_zero]
 simp only[if_true,if_false,(by decide:¬ (23 = 12))]
 (refine wpChain_alloc _ _ rfl (List.mem_cons_self ..) rfl (fun w'=>by go_simp) (fun b1 hb1=>?_);simp only[Act.put,List.setIfInBounds_toArray,List.set_cons_succ,List.set_cons_zero])
 refine wpChain_nil (fun w4 hb4 hl4=>?_)
 have B4:Hid (Grew w w4):=hb4
 have hx1:w4.heap[b1]? = some (.cells #[.int .i64 y1,.int .i64 y2] 3):=(hl4.2 (24,b1,.cells #[.int .i64 y1,.int .i64 y2] 3) (by simp)).2
 clear hb4 hl4 hF fb hne fa0 fa2 fb0 fb2 fq0 C1 C2
 have C:=Lib.hid (or2of52 b1 y1 y2 w4 hx1)
 clear hx1
 go_wp2_with fail
 refine C.out.mono ?_
 rintro e w5 ⟨rfl,rfl⟩
 go_wp2_with fail
 refine onlyN_intro ?_
 go_wp2_with fail
 go_returns
 exact ⟨by rw[HR.out];rfl,B4.out⟩
theorem cmp1_neg {a b:Int}:cmp1 a b < 0↔a < b:=by unfold cmp1;split <;> (try split) <;> omega
theorem cmp1_zero {a b:Int}:cmp1 a b = 0↔a = b:=by unfold cmp1;split <;> (try split) <;> omega
theorem cmpS_lt (x y:Rid):cmpS x y < 0↔befR x y = true:=by
 unfold cmpS orV2 befR
 simp only[Bool.or_eq_true,Bool.and_eq_true,decide_eq_true_eq]
 by_cases e:x.s0 = y.s0
 ·rw[if_pos (cmp1_zero.2 e),cmp1_neg]
  omega
 ·rw[if_neg (fun h=>e (cmp1_zero.1 h)),cmp1_neg]
  omega
theorem swoS {n:Nat}(F:Nat→Rid):Go.Sort.SWO (ltOf (fun (i k:Fin n)=>cmpS (F i) (F k))) where
 irrefl x:=by
  refine decide_eq_false (fun h=>?_)
  rw[cmpS_lt,befR_irr] at h
  cases h
 trans x y z h1 h2:=by
  have h1:=(cmpS_lt _ _).1 (of_decide_eq_true h1)
  have h2:=(cmpS_lt _ _).1 (of_decide_eq_true h2)
  exact decide_eq_true ((cmpS_lt _ _).2 (befR_trans h1 h2))
 ntrans x y z h1 h2:=by
  have h1:=of_decide_eq_false h1
  have h2:=of_decide_eq_false h2
  refine decide_eq_false (fun h=>?_)
  rw[cmpS_lt] at h h1 h2
  simp only[befR,Bool.or_eq_true,Bool.and_eq_true,decide_eq_true_eq] at h h1 h2
  omega
theorem sortIdx50 (ao:Option Addr) (n c q:Nat) (F:Nat→Rid) (w:World) (h:Sl w 13 ao n c (fun i=>rds (F i))) (hq:w.heap[q]? = some (.cells #[.slice ao n c] 32 (0,0))) (base b c2:Nat) (hn0:0 < n) (hn:n≤1000)
  (hao:∀ a,ao = some a→a.block < base) (hqb:q < base) (hR:Row w base 3 1 (.slice (some ⟨b,0,none⟩) n c2) n (nuR (fun i=>(i:Int)))) :
  Calls Tryz.prog 50 #[.slice (some ⟨b,0,none⟩) n c2,.func (.func 51) #[] #[.pointer (some ⟨q,0,none⟩)]] w fun e w'=>e = .returned (.tuple #[])∧∃ G:Nat→Nat,(ents G n).Perm (List.range n)∧(∀ i j,i < j→j < n→befR (F (G j)) (F (G i)) = false) ∧
   Row w' base 3 1 (.slice (some ⟨b,0,none⟩) n c2) n (nuR (fun i=>(G i:Int)))∧Off (fun k=>k = b) w w':=by
 letI:Inhabited (Fin n):=⟨⟨0,hn0⟩⟩
 have hb:=(World.ownsRow.lt hR b rfl).1
 have hR':Row w base 3 1 (.slice (some ⟨b,0,none⟩) n c2) n (fun i=>[Value.int .i64 (((if hi:i < n then (⟨i,hi⟩:Fin n) else ⟨0,hn0⟩):Fin n):Nat)]):=Row.congr hR (fun i hi=>by rw[dif_pos hi];rfl)
 have hcon:=sort_row1 sort50 (fun i:Fin n=>Value.int .i64 ((i:Nat):Int)) (fun _=>rfl) (fun i k=>cmpS (F i) (F k)) (swoS F) 51 #[.pointer (some ⟨q,0,none⟩)] (enters_of Tryz.func51 (by kernel_rfl) rfl)
  (F:=fun i=>if hi:i < n then (⟨i,hi⟩:Fin n) else ⟨0,hn0⟩) (w:=w) (fun w2 ho x y=>cmpS51 ao n c q F x y x.2 y.2 w2 (h.off ho (fun a ha e=>by have:=hao a ha;omega)) ((ho.block q (block_lt hq) (fun e=>by have e:q = b:=e;omega)).trans hq)) hR' (by omega)
 refine hcon.mono ?_
 rintro e w' ⟨rfl,F',hp,hs,hr,ho⟩
 refine ⟨rfl,fun i=>(F' i:Nat),?_,fun i j hij hj=>?_,hr,ho⟩
 ·have h1:=hp.map (fun x:Fin n=>(x:Nat))
  have e1:(ents F' n).map (fun x:Fin n=>(x:Nat)) = ents (fun i=>(F' i:Nat)) n:=by simp [ents]
  have e2:(ents (fun i=>if hi:i < n then (⟨i,hi⟩:Fin n) else ⟨0,hn0⟩) n).map (fun x:Fin n=>(x:Nat)) = List.range n:=by
   unfold ents
   rw[List.map_map]
   conv=>rhs;rw[←List.map_id (List.range n)]
   refine List.map_congr_left (fun i hi=>?_)
   have hi:=List.mem_range.1 hi
   show ((if hi:i < n then (⟨i,hi⟩:Fin n) else ⟨0,hn0⟩:Fin n):Nat) = i
   rw[dif_pos hi]
  rw[e1,e2] at h1
  exact h1
 ·have:=of_decide_eq_false (hs i j hij hj)
  rw[cmpS_lt] at this
  simpa using this
theorem arr48:Go.WideMaps.ArrKey Tryz.prog 48 3 2:=⟨Tryz.underlying48,by kernel_rfl,by kernel_rfl,by kernel_rfl⟩
theorem cells48:Tryz.prog.cellsOf 48 = 2:=by kernel_rfl
theorem cells3:Tryz.prog.cellsOf 3 = 1:=by kernel_rfl
theorem formed48 (a b:Int):(Value.agg #[.int .i64 a,.int .i64 b]).formed Tryz.prog 48 = true:=by
 simp [Value.formed,Tryz.underlying48,cells48]
theorem lits3 (m:Nat) (a:Int) (ha:(Lit.int .i64 a).wf = true):Tryz.prog.keyLits (m+1) 3 [.int .i64 a] = some [.int .i64 a]:=by
 unfold Program.keyLits
 rw[Tryz.underlying3]
 simp [ha]
theorem key48 (a b:Int) (ha:(Lit.int .i64 a).wf = true) (hb:(Lit.int .i64 b).wf = true):∃ l,keyOf Tryz.prog 48 (.agg #[.int .i64 a,.int .i64 b]) = some l:=by
 have h0:decide (0 < Tryz.prog.types.size) = true:=by kernel_rfl
 have h1:=of_decide_eq_true h0
 obtain ⟨m,hm⟩:∃ m,Tryz.prog.types.size = m+1:=⟨Tryz.prog.types.size - 1,by omega⟩
 have hl:Tryz.prog.keyLits (m+1+1) 48 [.int .i64 a,.int .i64 b] = some [.int .i64 a,.int .i64 b]:=by
  unfold Program.keyLits
  rw[Tryz.underlying48]
  simp [cells48,cells3,List.range_succ,lits3 m a ha,lits3 m b hb]
 refine ⟨.string (keyBytes [.int .i64 a,.int .i64 b]),?_⟩
 unfold keyOf
 rw[Tryz.underlying48]
 have hk:Tryz.prog.keyType 48 = true:=arr48.keyType ⟨m,hm⟩
 simp only[hk,formed48,Bool.and_self,if_true]
 rw[hm]
 show (Tryz.prog.keyLits (m+1+1) 48 [.int .i64 a,.int .i64 b]).map _ = _
 rw[hl]
 rfl
theorem zero3b (w:World):(zeroValue 3).run Tryz.prog w = .ok (.int .i64 0) w:=by kernel_rfl
end Go.Proofs.YtdpoppilnokniaaGreatDoor
