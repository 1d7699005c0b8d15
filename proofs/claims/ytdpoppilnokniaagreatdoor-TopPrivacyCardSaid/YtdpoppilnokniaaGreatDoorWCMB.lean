/- Theorems of this seat. -/
import Derived.Test.YtdpoppilnokniaaGreatDoorWCMA
import Derived.BigQuiet
import Derived.Test.YtdpoppilnokniaaGreatDoorWEVA
namespace Go.Proofs.YtdpoppilnokniaaGreatDoor
open Go.RowKit Go.ChangeShapes Go.WideShapes Go.Deep Go.Maps
set_option linter.unusedVariables false
set_option linter.unusedSimpArgs false
theorem findI_congr {G G':Nat→Tr}{id:Int}:∀ {k:Nat},(∀ i,i < k→(G' i).id = (G i).id)→findI G' id k = findI G id k
 | 0,_=>rfl
 | k+1,h=>by rw[findI,findI,findI_congr (k:=k) (fun i hi=>h i (by omega)),h k (by omega)]
section
variable {base lo:Nat} {f:Fl} {L:Lay} {s:CSt} {w w1:World}
theorem OpenM.cast {b n:Nat}{P:Nat→Nat}{s':CSt}(h:OpenM w b n s P) (he:∀ id,ridV s' P id = ridV s P id):OpenM w b n s' P:=by
 obtain ⟨D,h1,h2,h3,h4⟩:=h
 exact ⟨D,h1,h2,fun id=>by rw[he];exact h3 id,fun id=>by rw[he];exact h4 id⟩
theorem IntSet.cast {b n:Nat}{S S':Int→Bool}(h:IntSet Tryz.prog 3 4 w b n S) (he:∀ id,S' id = S id):IntSet Tryz.prog 3 4 w b n S':=by rw[show S' = S from funext he];exact h
theorem off_spot (w:World) (sp o:Nat) (cs:List Value):Off (fun q=>q = sp) w (putCells w sp o cs):=off_putCells (X:=fun q=>q = sp) rfl cs o w (Off.refl _ _)
theorem CM.put_no (h:CM base lo f L s w) (hI:Inv f.bikes.toNat s) {b:Nat}(hb:b < f.bikes.toNat) (hw:(s.F b).wh ≠ 3) (x:Sp):CM base lo f L (putS s b x) (putCells w L.sp (b * 4) (spv x)):=by
 have e:putS s b x = ⟨upd s.F b x,s.k,s.G⟩:=by unfold putS;rw[if_neg hw]
 rw[e]
 have ho:=off_spot w L.sp (b * 4) (spv x)
 obtain ⟨n1,n2,n3,n4,n5,n6⟩:=h.ne
 have hP:∀ i,i < s.k→L.P i ≠ L.sp:=fun i hi=>by have:=(h.pl i hi).1;have:=h.l0.2.1;omega
 refine ⟨(ho.block _ (block_lt h.m0) n1).trans h.m0,h.rows.put hb x,(h.opn.off ho (Ne.symm n4)).cast (fun _=>rfl),(h.used.off ho (Ne.symm n5)),fun i hi hop=>?_,h.b0,h.l0,h.ne,fun i hi=>⟨(h.pl i hi).1,Nat.lt_of_lt_of_le (h.pl i hi).2 ho.size⟩,h.pd,Nat.le_trans h.hi ho.size⟩
 have ht:=h.trip i hi hop
 obtain ⟨b',k1,k2,k3,k4⟩:=hI.opn i hi hop
 have hne:b' ≠ b:=fun e=>by subst e;exact hw k3
 show (putCells w L.sp (b * 4) (spv x)).heap[L.P i]? = some (.cells #[_,_,.bool (upd s.F b x (s.G i).bike.toNat).ps] _ _)
 rw[k1,Int.toNat_natCast,upd_ne hne,ho.block _ (block_lt ht) (hP i hi),ht,k1,Int.toNat_natCast]
theorem CM.put_yes (h:CM base lo f L s w) (hI:Inv f.bikes.toNat s) {b:Nat}(hb:b < f.bikes.toNat) (hw:(s.F b).wh = 3) (x:Sp) {D:DataW Unit}(hD:w.ownsMap Tryz.prog 3 ptR L.om s.k D) (hm:IsMap D)
  (hat:∀ id,D.atKey (.int .i64 id) (.lit (.int .i64 (-1))) = .lit (.int .i64 (ridV s L.P id))) (hhas:∀ id,has D (.int .i64 id) = decide (0≤ridV s L.P id))
  (h1:w1.ownsMap Tryz.prog 3 ptR L.om s.k (D.del (.int .i64 (s.F b).rd))) (ho1:Off (fun q=>q = L.om) w w1):CM base lo f L (putS s b x) (putCells w1 L.sp (b * 4) (spv x)):=by
 obtain ⟨i,hi,i1,i2,i3⟩:=hI.rid b hb hw
 have hf:findI s.G (s.F b).rd s.k = (i:Int):=by rw[←i1];exact hI.find hi
 have e:putS s b x = ⟨upd s.F b x,s.k,upd s.G i { s.G i with opn:=false }⟩:=by unfold putS;rw[if_pos hw,hf];rfl
 have ho2:=off_spot w1 L.sp (b * 4) (spv x)
 obtain ⟨n1,n2,n3,n4,n5,n6⟩:=h.ne
 have ho:Off (fun q=>q = L.sp∨q = L.om) w (putCells w1 L.sp (b * 4) (spv x)):=(ho1.mono (Y:=fun q=>q = L.sp∨q = L.om) (fun _ _ h=>.inr h)).trans ho2 (fun _ _ h=>.inl h)
 have hP:∀ i,i < s.k→¬ (L.P i = L.sp∨L.P i = L.om):=fun i hi=>by have:=(h.pl i hi).1;have:=h.l0.2.1;have:=h.l0.2.2.1;omega
 have hid:∀ j,(upd s.G i { s.G i with opn:=false } j).id = (s.G j).id:=fun j=>by
  unfold upd
  split
  ·rename_i hj;rw[hj]
  ·rfl
 have hrv:∀ id,ridV ⟨upd s.F b x,s.k,upd s.G i { s.G i with opn:=false }⟩ L.P id = if id = (s.F b).rd then -1 else ridV s L.P id:=fun id=>by
  have hfc:=findI_congr (id:=id) (k:=s.k) (fun j _=>hid j)
  have eA:ridV s L.P id = if 0≤findI s.G id s.k∧(s.G (findI s.G id s.k).toNat).opn = true then (L.P (findI s.G id s.k).toNat:Int) else -1:=rfl
  have eB:ridV ⟨upd s.F b x,s.k,upd s.G i { s.G i with opn:=false }⟩ L.P id = if 0≤findI s.G id s.k∧((upd s.G i { s.G i with opn:=false }) (findI s.G id s.k).toNat).opn = true then (L.P (findI s.G id s.k).toNat:Int) else -1:=by
   unfold ridV;rw[hfc]
  rw[eB,eA]
  rcases findI_spec (G:=s.G) (id:=id) (k:=s.k) with ⟨h4,h5⟩ | ⟨j,h4,h5,h6,_⟩
  ·rw[h4];simp
  ·rw[h4,Int.toNat_natCast]
   by_cases hji:j = i
   ·subst hji
    have hq:id = (s.F b).rd:=by rw[←h6,i1]
    rw[if_pos hq]
    simp [upd]
   ·have hne:id ≠ (s.F b).rd:=fun h0=>hji (hI.one j i h5 hi (by rw[h6,h0,i1]))
    rw[if_neg hne]
    simp only[upd,if_neg hji]
 rw[e]
 refine ⟨(ho.block _ (block_lt h.m0) (by omega)).trans h.m0,?_,?_,?_,fun j hj hop=>?_,h.b0,h.l0,h.ne,fun i hi=>⟨(h.pl i hi).1,Nat.lt_of_lt_of_le (h.pl i hi).2 ho.size⟩,h.pd,Nat.le_trans h.hi ho.size⟩
 ·exact SpRow.put (Row.off h.rows ho1 (fun g hg=>by cases hg;exact n4)) hb x
 ·refine OpenM.off (w:=w1) ⟨_,h1,hm.del _,fun id=>?_,fun id=>?_⟩ ho2 (Ne.symm n4)
  ·rw[hrv]
   by_cases hq:id = (s.F b).rd
   ·rw[if_pos hq,hq,atKey_del_same]
   ·rw[if_neg hq,atKey_del_other (fun h=>hq (by cases h;rfl)),hat]
  ·rw[hrv]
   by_cases hq:id = (s.F b).rd
   ·rw[if_pos hq,hq,has_del_same];rfl
   ·rw[if_neg hq,has_del_other (fun h=>hq (by cases h;rfl)),hhas]
 ·exact ((h.used.off ho1 (Ne.symm n6)).off ho2 (Ne.symm n5)).cast (fun id=>by
   show decide (0≤findI (upd s.G i _) id s.k) = _
   rw[findI_congr (fun j _=>hid j)])
 ·have hji:j ≠ i:=fun e=>by subst e;simp [upd] at hop
  have hj:j < s.k:=hj
  simp only[upd,if_neg hji] at hop
  have ht:=h.trip j hj hop
  obtain ⟨b',k1,k2,k3,k4⟩:=hI.opn j hj hop
  have hne:b' ≠ b:=fun e=>by
   subst e
   exact hji (hI.one j i hj hi (by rw[←k4,i1]))
  show (putCells w1 L.sp (b * 4) (spv x)).heap[L.P j]? = some (.cells #[.int .i64 (upd s.G i _ j).rider,.int .i64 (upd s.G i _ j).bike,.bool (upd s.F b x (upd s.G i _ j).bike.toNat).ps] _ _)
  rw[upd_ne hji,k1,Int.toNat_natCast,upd_ne hne,ho.block _ (block_lt ht) (hP j hj),ht,k1,Int.toNat_natCast]
theorem CM.pause (h:CM base lo f L s w) (hI:Inv f.bikes.toNat s) {b i:Nat}(hb:b < f.bikes.toNat) (hi:i < s.k) (hop:(s.G i).opn = true) (hbk:(s.G i).bike = (b:Int)) (ps:Bool) :
  CM base lo f L ⟨upd s.F b { s.F b with ps:=ps },s.k,s.G⟩ ((w.setCell ⟨L.P i,2,none⟩ (.bool ps)).setCell ⟨L.sp,b * 4+3,none⟩ (.bool ps)):=by
 obtain ⟨n1,n2,n3,n4,n5,n6⟩:=h.ne
 have hPi:=h.pl i hi
 have hl:=h.l0
 have ho1:Off (fun q=>q = L.P i) w (w.setCell ⟨L.P i,2,none⟩ (.bool ps)):=(Off.refl (fun q=>q = L.P i) w).setCell (p:=⟨L.P i,2,none⟩) (fun _=>rfl) _
 have ho2:Off (fun q=>q = L.sp) (w.setCell ⟨L.P i,2,none⟩ (.bool ps)) ((w.setCell ⟨L.P i,2,none⟩ (.bool ps)).setCell ⟨L.sp,b * 4+3,none⟩ (.bool ps)):=(Off.refl (fun q=>q = L.sp) _).setCell (p:=⟨L.sp,b * 4+3,none⟩) (fun _=>rfl) _
 have ho:Off (fun q=>q = L.P i∨q = L.sp) w ((w.setCell ⟨L.P i,2,none⟩ (.bool ps)).setCell ⟨L.sp,b * 4+3,none⟩ (.bool ps)):=(ho1.mono (Y:=fun q=>q = L.P i∨q = L.sp) (fun _ _ h=>.inl h)).trans ho2 (fun _ _ h=>.inr h)
 refine ⟨(ho.block _ (block_lt h.m0) (by omega)).trans h.m0,?_,(h.opn.off ho (by omega)).cast (fun _=>rfl),h.used.off ho (by omega),fun j hj hopj=>?_,h.b0,h.l0,h.ne,fun i hi=>⟨(h.pl i hi).1,Nat.lt_of_lt_of_le (h.pl i hi).2 ho.size⟩,h.pd,Nat.le_trans h.hi ho.size⟩
 ·have r1:SpRow (w.setCell ⟨L.P i,2,none⟩ (.bool ps)) base L.sp f.bikes.toNat s.F:=Row.off h.rows ho1 (fun g hg hx=>by
   cases hg
   have hx:L.sp = L.P i:=hx
   omega)
  have r2:=Row.putAux (f:=fun i=>spv (s.F i)) (s:=4) (fun _=>rfl) hb [.bool ps] [.int .i64 (s.F b).wh,.int .i64 (s.F b).pl,.int .i64 (s.F b).rd] [.bool (s.F b).ps] _ rfl rfl (Row.congr r1 (fun j _=>by
   by_cases hj:j = b
   ·subst hj;rw[upd_same];rfl
   ·rw[upd_ne hj]))
  refine Row.congr r2 (fun j _=>?_)
  show upd (fun i=>spv (s.F i)) b _ j = spv (upd s.F b { s.F b with ps:=ps } j)
  by_cases hj:j = b
  ·subst hj;rw[upd_same,upd_same];rfl
  ·rw[upd_ne hj,upd_ne hj]
 ·have ht:=h.trip j hj hopj
  by_cases hji:j = i
  ·subst hji
   have e1:(w.setCell ⟨L.P j,2,none⟩ (.bool ps)).heap[L.P j]? = some (.cells #[.int .i64 (s.G j).rider,.int .i64 (s.G j).bike,.bool ps] 161 (0,0)):=by
    rw[setCell_at ht,setAt_same (block_lt ht)];rfl
   have e2:=(ho2.block _ (block_lt e1) (by omega)).trans e1
   refine e2.trans ?_
   show _ = some (Obj.cells #[_,_,.bool (upd s.F b _ (s.G j).bike.toNat).ps] _ _)
   rw[hbk,Int.toNat_natCast,upd_same]
  ·obtain ⟨b',k1,k2,k3,k4⟩:=hI.opn j hj hopj
   have hne:b' ≠ b:=fun e=>by
    subst e
    obtain ⟨b2,q1,q2,q3,q4⟩:=hI.opn i hi hop
    rw[hbk] at q1
    have:b' = b2:=by omega
    subst this
    exact hji (hI.one j i hj hi (by rw[←k4,←q4]))
   refine (ho.block _ (block_lt ht) (fun h0=>by
    rcases h0 with h0 | h0
    ·exact hji (h.pd j i hj hi h0)
    ·have:=(h.pl j hj).1;omega)).trans (ht.trans ?_)
   show some (Obj.cells #[_,_,.bool (s.F (s.G j).bike.toNat).ps] _ _) = some (Obj.cells #[_,_,.bool (upd s.F b _ (s.G j).bike.toNat).ps] _ _)
   rw[k1,Int.toNat_natCast,upd_ne hne]
end
end Go.Proofs.YtdpoppilnokniaaGreatDoor
namespace Go.Proofs.YtdpoppilnokniaaGreatDoor
open Go.RowKit Go.ChangeShapes Go.WideShapes Go.Deep Go.Maps
set_option linter.unusedVariables false
set_option linter.unusedSimpArgs false
def DoE (base lo:Nat) (f:Fl) (L L':Lay) (k:Nat) (s':CSt) (w:World) (e:Ending) (w':World):Prop:=e = .returned (.tuple #[])∧CM base lo f L' s' w'∧Off (L.own k) w w'
theorem ownsMap_off {X:Nat→Prop}{w w':World}{b n:Nat}{D:DataW Unit}(h:w.ownsMap Tryz.prog 3 ptR b n D) (ho:Off X w w') (hX:¬ X b):w'.ownsMap Tryz.prog 3 ptR b n D:=by
 obtain ⟨es,clock,hb,r⟩:=h
 exact ⟨es,clock,(ho.block b (Array.getElem?_eq_some_iff.1 hb).1 hX).trans hb,r⟩
theorem SpRow.lt {w:World}{base b n:Nat}{F:Nat→Sp}(h:SpRow w base b n F):b < w.heap.size:=(World.ownsRow.lt h b rfl).2
set_option maxRecDepth 8000 in
set_option maxHeartbeats 8000000 in
theorem leave90 {base lo:Nat}{f:Fl}{L:Lay}{s:CSt}{w:World}(h:CM base lo f L s w) (hI:Inv f.bikes.toNat s) (b:Nat) (hb:b < f.bikes.toNat) (hn:f.bikes.toNat≤1000) (hrw:∀ i,i < s.k→(Lit.int .i64 (s.G i).id).wf = true) (x:Sp) :
  Calls Tryz.prog 90 #[.pointer (some ⟨L.sb,0,none⟩),.int .i64 (b:Int),.agg #[.int .i64 x.wh,.int .i64 x.pl,.int .i64 x.rd,.bool x.ps]] w (DoE base lo f L L s.k (putS s b x) w):=by
 obtain ⟨a0,a1,a2,a3⟩:=h.rows.at hb
 have c5:=cell_at h.m0 5
 have c6:=cell_at h.m0 6
 simp only[List.getElem?_toArray,List.getElem?_cons_succ,List.getElem?_cons_zero] at c5 c6
 have M0:=Lib.hid h
 have HI:=Lib.hid hI
 have HB:=Lib.hid hb
 have HRD:Hid ((s.F b).wh = 3→(Lit.int .i64 (s.F b).rd).wf = true):=Lib.hid (fun hw=>by
  obtain ⟨i,hi,i1,_⟩:=hI.rid b hb hw
  rw[←i1];exact hrw i hi)
 obtain ⟨n,hn'⟩:∃ n,n = f.bikes.toNat:=⟨_,rfl⟩
 have HN:=Lib.hid hn'
 rw[←hn'] at hb hn c5
 obtain ⟨y,hy⟩:∃ y,y = s.F b:=⟨_,rfl⟩
 have HY:=Lib.hid hy
 rw[←hy] at a0 a1 a2 a3 HRD
 clear h hI hn' hrw hy
 obtain ⟨y1,y2,y3,y4⟩:=y
 dsimp only at a0 a1 a2 a3 HRD
 have BB:Hid (Below w.heap.size w ((w.alloc (.cells #[.int .i64 x.wh,.int .i64 x.pl,.int .i64 x.rd,.bool x.ps] 112)).alloc (.cells #[.int .i64 y1,.int .i64 y2,.int .i64 y3,.bool y4] 112))):=Lib.hid (by (repeat' (first | with_reducible (first | exact Below.refl _ _ | assumption | refine Below.drew ?_ | refine below_drewN ?_ _ | refine Below.alloc ?_ ?_ _ | refine Below.setCell ?_ ?_ _) | go_size)))
 have X1:Hid (((w.alloc (.cells #[.int .i64 x.wh,.int .i64 x.pl,.int .i64 x.rd,.bool x.ps] 112)).alloc (.cells #[.int .i64 y1,.int .i64 y2,.int .i64 y3,.bool y4] 112)).heap[w.heap.size]? = some (.cells #[.int .i64 x.wh,.int .i64 x.pl,.int .i64 x.rd,.bool x.ps] 112 (0,0))):=Lib.hid (by
  have h0:=heap_alloc_new w (.cells #[.int .i64 x.wh,.int .i64 x.pl,.int .i64 x.rd,.bool x.ps] 112)
  have bb:Below (w.alloc (.cells #[.int .i64 x.wh,.int .i64 x.pl,.int .i64 x.rd,.bool x.ps] 112)).heap.size (w.alloc (.cells #[.int .i64 x.wh,.int .i64 x.pl,.int .i64 x.rd,.bool x.ps] 112)) ((w.alloc (.cells #[.int .i64 x.wh,.int .i64 x.pl,.int .i64 x.rd,.bool x.ps] 112)).alloc (.cells #[.int .i64 y1,.int .i64 y2,.int .i64 y3,.bool y4] 112)):=by (repeat' (first | with_reducible (first | exact Below.refl _ _ | assumption | refine Below.drew ?_ | refine below_drewN ?_ _ | refine Below.alloc ?_ ?_ _ | refine Below.setCell ?_ ?_ _) | go_size))
  exact (bb.block _ (block_lt h0)).trans h0)
 have X2:Hid (((w.alloc (.cells #[.int .i64 x.wh,.int .i64 x.pl,.int .i64 x.rd,.bool x.ps] 112)).alloc (.cells #[.int .i64 y1,.int .i64 y2,.int .i64 y3,.bool y4] 112)).heap[w.heap.size+1]? = some (.cells #[.int .i64 y1,.int .i64 y2,.int .i64 y3,.bool y4] 112 (0,0))):=Lib.hid (by
  have h0:=heap_alloc_new (w.alloc (.cells #[.int .i64 x.wh,.int .i64 x.pl,.int .i64 x.rd,.bool x.ps] 112)) (.cells #[.int .i64 y1,.int .i64 y2,.int .i64 y3,.bool y4] 112)
  rwa [show (w.alloc (.cells #[.int .i64 x.wh,.int .i64 x.pl,.int .i64 x.rd,.bool x.ps] 112)).heap.size = w.heap.size+1 by simp] at h0)
 have M0S:Hid (lo≤w.heap.size):=Lib.hid M0.out.hi
 have zs:=szs (block_lt M0.out.m0)
 have zp:=szs (cell_lt a0)
 dsimp only at zp
 obtain ⟨sb,sp,om,um,P⟩:=L
 dsimp only at *
 by_cases hw:y1 = 3
 ·subst hw
  have HKY:=Lib.hid (keyOf_int_mk (P:=Tryz.prog) Tryz.underlying3 (HRD.out rfl))
  clear HRD
  go_enter Tryz.func90,Tryz.ntmps90
  go_wp2_with fail
  generalize (World.alloc (World.alloc w _) _) = w1 at *
  have M1:=Lib.hid (M0.out.below BB.out)
  have k0:=cell_at X1.out 0
  have k1:=cell_at X1.out 1
  have k2:=cell_at X1.out 2
  have k3:=cell_at X1.out 3
  have zk:=szs (block_lt X1.out)
  have c0:=cell_kept BB.out c5
  have zc:=szs (cell_lt c0)
  have zr:=szs (SpRow.lt M1.out.rows)
  dsimp only at zc zr
  replace a0:=cell_kept BB.out a0
  replace a1:=cell_kept BB.out a1
  replace a2:=cell_kept BB.out a2
  replace a3:=cell_kept BB.out a3
  clear c5 zs zp M0
  have j2:=cell_at X2.out 2
  have zj:=szs (block_lt X2.out)
  have hc6:=cell_kept BB.out c6
  (refine region_order (fun i:Nat=>World.drewN _ i) [] [0,1,2,3,4,5] 6 [] mixed (by kernel_rfl) ⟨1,rfl⟩ ?_;simp only[List.map_cons,List.map_nil,Array.getD_eq_getD_getElem?,List.getElem?_toArray,List.getElem?_cons_zero,List.getElem?_cons_succ,Option.getD_some];(repeat (refine wpPure_cons _ rfl (fun w'=>by go_simp;try rfl) ?_;dsimp only[Act.put]));refine wpPure_nil ?_;(repeat (any_goals (first | go_big_quiet_step (fail) | quiet_step (fail) | (refine wpQuiet_step (fun K hK=>?_);go_simp;split <;> (refine hK _ ?_;clear hK K)))));(all_goals (refine wpQuiet_nil (fun nq=>?_))))
  have bq:Below w1.heap.size w1 (w1.drewN nq):=below_drewN (Below.refl _ _) nq
  generalize w1.drewN nq = wq at *
  have M2:=Lib.hid (M1.out.below bq)
  obtain ⟨D,hown,hmap,hat,hhas⟩:=M2.out.opn
  have HOW:=Lib.hid (And.intro hown (And.intro hmap (And.intro hat hhas)))
  clear hown hmap hat hhas
  go_wp2_with (at_delete;go_loud (refine wpList_delete_own _ rfl _ _ 146 3 rfl 157 CM.law Tryz.underlying146 ptR om s.k D rfl HOW.out.1 (.int .i64 y3) (.int .i64 y3) rfl HKY.out ?_))
  intro w2 hown2 hturn
  have ho2:Off (fun q=>q = om) wq w2:=(Off.of_grown hturn.grown).mono (fun i _ h=>by cases h;rfl)
  have hne:=M2.out.ne
  have hlo:=M2.out.l0
  have hhi:=M0S.out
  dsimp only at hne hlo hhi
  have om1:¬ w.heap.size = om:=by omega
  have om2:¬ sb = om:=by omega
  have om3:¬ sp = om:=by omega
  replace k0:=ho2.cell (cell_kept bq k0) om1
  replace k1:=ho2.cell (cell_kept bq k1) om1
  replace k2:=ho2.cell (cell_kept bq k2) om1
  replace k3:=ho2.cell (cell_kept bq k3) om1
  replace a0:=ho2.cell (cell_kept bq a0) om3
  replace a1:=ho2.cell (cell_kept bq a1) om3
  replace a2:=ho2.cell (cell_kept bq a2) om3
  replace a3:=ho2.cell (cell_kept bq a3) om3
  replace c0:=ho2.cell (cell_kept bq c0) om2
  have rows2:SpRow w2 base sp f.bikes.toNat s.F:=Row.off M2.out.rows ho2 (fun g hg=>by cases hg;exact om3)
  have zk:=szs (cell_lt k0)
  have zc:=szs (cell_lt c0)
  have zr:=szs (SpRow.lt rows2)
  dsimp only at zk zc
  have B2:=Lib.hid (BB.out.trans (bq.mono BB.out.size))
  have R2:=Lib.hid rows2
  have OW2:=Lib.hid hown2
  have O2:=Lib.hid ho2
  clear hturn ho2 rows2 hown2 hne hlo hhi om1 om2 j2 zj hc6 bq M1 BB
  refine onlyN_intro ?_
  go_wp2_with fail
  (refine region_order (fun i:Nat=>World.drewN _ i) [] [0,1,2,3,4,5,6] 7 [] mixed (by kernel_rfl) ⟨1,rfl⟩ ?_;simp only[List.map_cons,List.map_nil,Array.getD_eq_getD_getElem?,List.getElem?_toArray,List.getElem?_cons_zero,List.getElem?_cons_succ,Option.getD_some];(repeat (refine wpPure_cons _ rfl (fun w'=>by go_simp;try rfl) ?_;dsimp only[Act.put]));refine wpPure_nil ?_;(repeat (any_goals (first | go_big_quiet_step (fail) | quiet_step (fail) | (refine wpQuiet_step (fun K hK=>?_);go_simp;split <;> (refine hK _ ?_;clear hK K)))));(all_goals (refine wpQuiet_nil (fun nq=>?_))))
  have bq:Below w2.heap.size w2 (w2.drewN nq):=below_drewN (Below.refl _ _) nq
  have O3:Off (fun q=>q = om) wq (w2.drewN nq):=O2.out.trans (Y:=fun _=>False) (Off.of_below bq) (fun _ _ h=>h.elim)
  have MP:=Lib.hid (M2.out.put_yes (w1:=w2.drewN nq) HI.out HB.out (by rw[←HY.out]) x HOW.out.1 HOW.out.2.1 HOW.out.2.2.1 HOW.out.2.2.2 (by rw[←HY.out];exact ownsMap_off OW2.out (Off.of_below (X:=fun _=>False) bq) (fun h=>h)) O3)
  have HO3:=Lib.hid O3
  replace a0:=cell_kept bq a0
  replace a1:=cell_kept bq a1
  replace a2:=cell_kept bq a2
  replace a3:=cell_kept bq a3
  have rows3:SpRow (w2.drewN nq) base sp f.bikes.toNat s.F:=Row.off (X:=fun _=>False) R2.out (Off.of_below bq) (fun _ _ h=>h)
  have g0:=fun o=>Row.free rows3 o
  have zq:=szs (SpRow.lt rows3)
  clear c0 k0 k1 k2 k3 zk zc zr rows3 R2 OW2 O2 bq O3
  generalize w2.drewN nq = w3 at *
  go_wp2_with fail
  go_end0
  exact ⟨rfl,MP.out,(((((Off.of_below (X:=Lay.own ⟨sb,sp,om,um,P⟩ s.k) B2.out).trans HO3.out (fun i _ h=>.inr (.inl h))).setCell (fun _=>.inl rfl) _).setCell (fun _=>.inl rfl) _).setCell (fun _=>.inl rfl) _).setCell (fun _=>.inl rfl) _⟩
 ·have tw:(y1 == 3) = false:=by simpa using hw
  go_enter Tryz.func90,Tryz.ntmps90
  go_wp2_with fail
  generalize (World.alloc (World.alloc w _) _) = w1 at *
  have M1:=Lib.hid (M0.out.below BB.out)
  have k0:=cell_at X1.out 0
  have k1:=cell_at X1.out 1
  have k2:=cell_at X1.out 2
  have k3:=cell_at X1.out 3
  have zk:=szs (block_lt X1.out)
  have c0:=cell_kept BB.out c5
  have zc:=szs (cell_lt c0)
  have zr:=szs (SpRow.lt M1.out.rows)
  dsimp only at zc zr
  replace a0:=cell_kept BB.out a0
  replace a1:=cell_kept BB.out a1
  replace a2:=cell_kept BB.out a2
  replace a3:=cell_kept BB.out a3
  clear c5 zs zp M0
  (refine region_order (fun i:Nat=>World.drewN _ i) [] [0,1,2,3,4,5,6] 7 [] mixed (by kernel_rfl) ⟨1,rfl⟩ ?_;simp only[List.map_cons,List.map_nil,Array.getD_eq_getD_getElem?,List.getElem?_toArray,List.getElem?_cons_zero,List.getElem?_cons_succ,Option.getD_some];(repeat (refine wpPure_cons _ rfl (fun w'=>by go_simp;try rfl) ?_;dsimp only[Act.put]));refine wpPure_nil ?_;(repeat (any_goals (first | go_big_quiet_step (fail) | quiet_step (fail) | (refine wpQuiet_step (fun K hK=>?_);go_simp;split <;> (refine hK _ ?_;clear hK K)))));(all_goals (refine wpQuiet_nil (fun nq=>?_))))
  have bq:Below w1.heap.size w1 (w1.drewN nq):=below_drewN (Below.refl _ _) nq
  have M2:=Lib.hid (M1.out.below bq)
  have B2:=Lib.hid (BB.out.trans (bq.mono BB.out.size))
  have MP:=Lib.hid (M2.out.put_no HI.out HB.out (by rw[←HY.out];exact hw) x)
  have g0:=fun o=>Row.free M2.out.rows o
  dsimp only at g0
  have zq:=szs (SpRow.lt M2.out.rows)
  dsimp only at zq
  replace a0:=cell_kept bq a0
  replace a1:=cell_kept bq a1
  replace a2:=cell_kept bq a2
  replace a3:=cell_kept bq a3
  clear bq M1 BB c0 k0 k1 k2 k3 zk zc zr
  generalize w1.drewN nq = w2 at *
  go_wp2_with fail
  go_end0
  exact ⟨rfl,MP.out,((((Off.of_below (X:=Lay.own ⟨sb,sp,om,um,P⟩ s.k) B2.out).setCell (fun _=>.inl rfl) _).setCell (fun _=>.inl rfl) _).setCell (fun _=>.inl rfl) _).setCell (fun _=>.inl rfl) _⟩
set_option maxRecDepth 8000 in
set_option maxHeartbeats 8000000 in
theorem pause91 {base lo:Nat}{f:Fl}{L:Lay}{s:CSt}{w:World}(h:CM base lo f L s w) (hI:Inv f.bikes.toNat s) (b:Nat) (hb:b < f.bikes.toNat) (hn:f.bikes.toNat≤1000) (hrw:∀ i,i < s.k→(Lit.int .i64 (s.G i).id).wf = true) (hw:(s.F b).wh = 3) (ps:Bool) :
  Calls Tryz.prog 91 #[.pointer (some ⟨L.sb,0,none⟩),.int .i64 (b:Int),.bool ps] w (DoE base lo f L L s.k ⟨upd s.F b { s.F b with ps:=ps },s.k,s.G⟩ w):=by
 obtain ⟨i,hi,i1,i2,i3⟩:=hI.rid b hb hw
 obtain ⟨a0,a1,a2,a3⟩:=h.rows.at hb
 have c5:=cell_at h.m0 5
 have c6:=cell_at h.m0 6
 simp only[List.getElem?_toArray,List.getElem?_cons_succ,List.getElem?_cons_zero] at c5 c6
 have M0:=Lib.hid h
 have HI:=Lib.hid hI
 have HB:=Lib.hid hb
 have MP:=Lib.hid (fun (w':World) (m:CM base lo f L s w')=>m.pause hI hb hi i2 i3 ps)
 have hrd:(Lit.int .i64 (s.F b).rd).wf = true:=by rw[←i1];exact hrw i hi
 have LK:∀ j,Sem.run Tryz.prog (Instr.lookup 146 (.map (some L.om)) (.int .i64 (s.F b).rd) false) (w.drewN j) = .ok (.pointer (some ⟨L.P i,0,none⟩)) (w.drewN j):=fun j=>by
  have:=(h.opn.off (X:=fun _=>False) (Off.of_below (below_drewN (Below.refl _ _) j)) (fun h=>h)).look (s.F b).rd hrd
  rw[this,←i1,hI.ridV_of hi i2,ridP_some]
 obtain ⟨n,hn'⟩:∃ n,n = f.bikes.toNat:=⟨_,rfl⟩
 have HN:=Lib.hid hn'
 rw[←hn'] at hb hn c5
 have ht:=h.trip i hi i2
 have t2:=cell_at ht 2
 have g2:=free_at ht 2
 have zt:=szs (block_lt ht)
 have zs:=szs (block_lt h.m0)
 have zp:=szs (cell_lt a0)
 have g0:=fun o=>Row.free h.rows o
 have HP:Hid (L.P i ≠ L.sp):=Lib.hid (by have:=(h.pl i hi).1;have:=h.l0.2.1;omega)
 have hps:L.P i ≠ L.sp:=HP.out
 have hps2:L.sp ≠ L.P i:=fun e=>hps e.symm
 have hbs:L.P i ≠ L.sb:=by have:=(h.pl i hi).1;have:=h.l0.1;omega
 have hbs2:L.sb ≠ L.P i:=fun e=>hbs e.symm
 dsimp only at zp
 have HIK:=Lib.hid hi
 clear h hI hn' hrw ht hrd i1 i3 hw
 generalize s.F b = y at *
 obtain ⟨y1,y2,y3,y4⟩:=y
 obtain ⟨sb,sp,om,um,P⟩:=L
 dsimp only at *
 go_enter Tryz.func91,Tryz.ntmps91
 go_wp2_with fail
 (refine region_order (fun i:Nat=>World.drewN _ i) [] [0,1,2,3,4,5,6,7,8,9,10,11,12,13,14,15] 16 [] mixed (by kernel_rfl) ⟨1,rfl⟩ ?_;simp only[List.map_cons,List.map_nil,Array.getD_eq_getD_getElem?,List.getElem?_toArray,List.getElem?_cons_zero,List.getElem?_cons_succ,Option.getD_some];(repeat (refine wpPure_cons _ rfl (fun w'=>by go_simp;try rfl) ?_;dsimp only[Act.put]));refine wpPure_nil ?_;(repeat (any_goals (first | go_big_quiet_step (fail) | quiet_step (fail) | (refine wpQuiet_step (fun K hK=>?_);go_simp;split <;> (refine hK _ ?_;clear hK K)))));(all_goals (refine wpQuiet_nil (fun nq=>?_))))
 have bq:Below w.heap.size w (w.drewN nq):=below_drewN (Below.refl _ _) nq
 have M2:=Lib.hid (MP.out _ (M0.out.below bq))
 have BQ:=Lib.hid bq
 have g0':∀ o,(w.drewN nq).frozen? ⟨sp,o,none⟩ = false:=fun o=>Row.free (M0.out.below bq).rows o
 have g2':(w.drewN nq).frozen? ⟨P i,2,none⟩ = false:=by
  have ht:=(M0.out.below bq).trip i HIK.out i2
  exact free_at ht 2
 replace a0:=cell_kept bq a0
 replace a1:=cell_kept bq a1
 replace a2:=cell_kept bq a2
 replace a3:=cell_kept bq a3
 replace c5:=cell_kept bq c5
 replace t2:=cell_kept bq t2
 clear LK MP M0 zt zs zp bq g0 g2
 have zt:=szs (cell_lt t2)
 have zs:=szs (cell_lt c5)
 have zp:=szs (cell_lt a0)
 dsimp only at zt zs zp
 generalize w.drewN nq = w2 at *
 go_wp2_with fail
 refine onlyN_intro ?_
 go_wp2_with fail
 go_end0
 exact ⟨rfl,M2.out,((Off.of_below (X:=Lay.own ⟨sb,sp,om,um,P⟩ s.k) BQ.out).setCell (fun _=>.inr (.inr (.inr ⟨i,HIK.out,rfl⟩))) _).setCell (fun _=>.inl rfl) _⟩
end Go.Proofs.YtdpoppilnokniaaGreatDoor
namespace Go.Proofs.YtdpoppilnokniaaGreatDoor
open Go.RowKit Go.ChangeShapes Go.WideShapes Go.Deep Go.Maps
set_option linter.unusedVariables false
set_option linter.unusedSimpArgs false
section
variable {base lo:Nat} {f:Fl} {L:Lay} {s:CSt} {w w2:World}
theorem findI_snoc {G:Nat→Tr}{k:Nat}{x:Tr}(id:Int) (hf:findI G x.id k < 0):findI (upd G k x) id (k+1) = if id = x.id then (k:Int) else findI G id k:=by
 have hlow:findI (upd G k x) id k = findI G id k:=findI_congr (fun i hi=>by rw[upd_ne (by omega)])
 rw[findI,hlow,upd_same]
 by_cases h:id = x.id
 ·subst h
  rw[if_neg (by omega),if_pos rfl,if_pos rfl]
 ·rw[if_neg h]
  by_cases h2:0≤findI G id k
  ·rw[if_pos h2]
  ·rw[if_neg h2,if_neg (fun e=>h e.symm)]
   rcases findI_spec (G:=G) (id:=id) (k:=k) with ⟨h1,_⟩ | ⟨j,h1,_⟩
   ·rw[h1]
   ·omega
theorem CM.begin (h:CM base lo f L s w) (hI:Inv f.bikes.toNat s) {b:Nat}(hb:b < f.bikes.toNat) (hw:(s.F b).wh ≠ 3) {id rider:Int}(hf:findI s.G id s.k < 0) {q:Nat}(hq:lo≤q) (hqn:∀ i,i < s.k→L.P i ≠ q)
  (ho:Off (fun x=>x = L.om∨x = L.um∨x = L.sp) w w2) (hq2:w2.heap[q]? = some (.cells #[.int .i64 rider,.int .i64 (b:Int),.bool false] 161 (0,0))) {D:DataW Unit} (hm:IsMap D)
  (hat:∀ id,D.atKey (.int .i64 id) (.lit (.int .i64 (-1))) = .lit (.int .i64 (ridV s L.P id))) (hhas:∀ id,has D (.int .i64 id) = decide (0≤ridV s L.P id))
  (h1:w2.ownsMap Tryz.prog 3 ptR L.om (s.k+1) (D.put (.int .i64 id) (.lit (.int .i64 (q:Int))))) (h2:IntSet Tryz.prog 3 4 w2 L.um (s.k+1) (fun z=>if z = id then true else decide (0≤findI s.G z s.k)))
  (hr:SpRow w2 base L.sp f.bikes.toNat (upd s.F b ⟨3,0,id,false⟩)) :
  CM base lo f { L with P:=upd L.P s.k q } ⟨upd s.F b ⟨3,0,id,false⟩,s.k+1,upd s.G s.k ⟨id,rider,(b:Int),true⟩⟩ w2:=by
 obtain ⟨n1,n2,n3,n4,n5,n6⟩:=h.ne
 have hl:=h.l0
 have hfs:∀ z,findI (upd s.G s.k ⟨id,rider,(b:Int),true⟩) z (s.k+1) = if z = id then (s.k:Int) else findI s.G z s.k:=fun z=>findI_snoc z hf
 have hrv:∀ z,ridV ⟨upd s.F b ⟨3,0,id,false⟩,s.k+1,upd s.G s.k ⟨id,rider,(b:Int),true⟩⟩ (upd L.P s.k q) z = if z = id then (q:Int) else ridV s L.P z:=fun z=>by
  unfold ridV
  rw[hfs]
  by_cases hz:z = id
  ·rw[if_pos hz,if_pos hz,Int.toNat_natCast,upd_same]
   simp [upd]
  ·rw[if_neg hz,if_neg hz]
   rcases findI_spec (G:=s.G) (id:=z) (k:=s.k) with ⟨h4,_⟩ | ⟨j,h4,h5,_⟩
   ·rw[h4];simp
   ·rw[h4,Int.toNat_natCast,upd_ne (by omega)]
    simp only[upd,if_neg (show j ≠ s.k by omega)]
 refine ⟨(ho.block _ (block_lt h.m0) (by omega)).trans h.m0,hr,⟨_,h1,hm.put _ _,fun z=>?_,fun z=>?_⟩,h2.cast (fun z=>?_),fun j hj hop=>?_,h.b0,h.l0,h.ne,fun i hi=>?_,fun i j hi hj he=>?_,Nat.le_trans h.hi ho.size⟩
 ·rw[hrv]
  by_cases hz:z = id
  ·rw[if_pos hz,hz,atKey_put_same hm (by simp [WideAt.IsKeyLit])]
  ·rw[if_neg hz,atKey_put_other (fun e=>hz (by cases e;rfl)),hat]
 ·rw[hrv]
  by_cases hz:z = id
  ·rw[if_pos hz,hz,has_put_same hm (by simp [WideAt.IsKeyLit])]
   simp
  ·rw[if_neg hz,has_put_other (fun e=>hz (by cases e;rfl)),hhas]
 ·show decide (0≤findI (upd s.G s.k _) z (s.k+1)) = _
  rw[hfs]
  by_cases hz:z = id
  ·rw[if_pos hz,if_pos hz];simp
  ·rw[if_neg hz,if_neg hz]
 ·by_cases hjk:j = s.k
  ·subst hjk
   show w2.heap[upd L.P s.k q s.k]? = some (.cells #[.int .i64 (upd s.G s.k _ s.k).rider,.int .i64 (upd s.G s.k _ s.k).bike,.bool (upd s.F b _ (upd s.G s.k _ s.k).bike.toNat).ps] _ _)
   rw[upd_same,upd_same]
   show w2.heap[q]? = some (.cells #[.int .i64 rider,.int .i64 (b:Int),.bool (upd s.F b _ ((b:Int)).toNat).ps] _ _)
   rw[Int.toNat_natCast,upd_same]
   exact hq2
  ·have hj':j < s.k:=by have:j < s.k+1:=hj;omega
   have hop':(s.G j).opn = true:=by
    have:(upd s.G s.k ⟨id,rider,(b:Int),true⟩ j).opn = true:=hop
    rwa [upd_ne hjk] at this
   have ht:=h.trip j hj' hop'
   obtain ⟨b',k1,k2,k3,k4⟩:=hI.opn j hj' hop'
   have hne:b' ≠ b:=fun e=>by subst e;exact hw k3
   have hp:=(h.pl j hj').1
   show w2.heap[upd L.P s.k q j]? = some (.cells #[.int .i64 (upd s.G s.k _ j).rider,.int .i64 (upd s.G s.k _ j).bike,.bool (upd s.F b _ (upd s.G s.k _ j).bike.toNat).ps] _ _)
   rw[upd_ne hjk,upd_ne hjk,k1,Int.toNat_natCast,upd_ne hne,ho.block _ (block_lt ht) (by omega),ht,k1,Int.toNat_natCast]
 ·by_cases hik:i = s.k
  ·subst hik
   show lo≤upd L.P s.k q s.k∧upd L.P s.k q s.k < _
   rw[upd_same]
   exact ⟨hq,block_lt hq2⟩
  ·have hi':i < s.k:=by have:i < s.k+1:=hi;omega
   show lo≤upd L.P s.k q i∧upd L.P s.k q i < _
   rw[upd_ne hik]
   exact ⟨(h.pl i hi').1,Nat.lt_of_lt_of_le (h.pl i hi').2 ho.size⟩
 ·have hi:i < s.k+1:=hi
  have hj:j < s.k+1:=hj
  have he:upd L.P s.k q i = upd L.P s.k q j:=he
  by_cases hik:i = s.k <;> by_cases hjk:j = s.k
  ·omega
  ·rw[hik,upd_same,upd_ne hjk] at he
   exact absurd he.symm (hqn j (by omega))
  ·rw[hjk,upd_same,upd_ne hik] at he
   exact absurd he (hqn i (by omega))
  ·rw[upd_ne hik,upd_ne hjk] at he
   exact h.pd i j (by omega) (by omega) he
theorem CM.swap (h:CM base lo f L s w) (hI:Inv f.bikes.toNat s) {b:Nat}(hb:b < f.bikes.toNat) (hw:(s.F b).wh ≠ 3) {i a:Nat}(hi:i < s.k) (hop:(s.G i).opn = true) (ha:(s.G i).bike = (a:Int))
  (ho:Off (fun x=>x = L.sp∨x = L.P i) w w2) (ht:w2.heap[L.P i]? = some (.cells #[.int .i64 (s.G i).rider,.int .i64 (b:Int),.bool false] 161 (0,0)))
  (hr:SpRow w2 base L.sp f.bikes.toNat (upd (upd s.F a (s.F b)) b ⟨3,0,(s.G i).id,false⟩)) :
  CM base lo f L ⟨upd (upd s.F a (s.F b)) b ⟨3,0,(s.G i).id,false⟩,s.k,upd s.G i { s.G i with bike:=(b:Int) }⟩ w2:=by
 obtain ⟨n1,n2,n3,n4,n5,n6⟩:=h.ne
 have hl:=h.l0
 have hPi:=h.pl i hi
 have hid:∀ j,(upd s.G i { s.G i with bike:=(b:Int) } j).id = (s.G j).id:=fun j=>by
  unfold upd
  split
  ·rename_i hj;rw[hj]
  ·rfl
 have hopn:∀ j,(upd s.G i { s.G i with bike:=(b:Int) } j).opn = (s.G j).opn:=fun j=>by
  unfold upd
  split
  ·rename_i hj;rw[hj]
  ·rfl
 have hfc:∀ z,findI (upd s.G i { s.G i with bike:=(b:Int) }) z s.k = findI s.G z s.k:=fun z=>findI_congr (fun j _=>hid j)
 have hrv:∀ z,ridV ⟨upd (upd s.F a (s.F b)) b ⟨3,0,(s.G i).id,false⟩,s.k,upd s.G i { s.G i with bike:=(b:Int) }⟩ L.P z = ridV s L.P z:=fun z=>by
  unfold ridV
  rw[hfc,hopn]
 refine ⟨(ho.block _ (block_lt h.m0) (by omega)).trans h.m0,hr,(h.opn.off ho (by omega)).cast hrv,(h.used.off ho (by omega)).cast (fun z=>by
  show decide (0≤findI (upd s.G i _) z s.k) = _
  rw[hfc]),fun j hj hopj=>?_,h.b0,h.l0,h.ne,fun i hi=>⟨(h.pl i hi).1,Nat.lt_of_lt_of_le (h.pl i hi).2 ho.size⟩,h.pd,Nat.le_trans h.hi ho.size⟩
 have hopj':(s.G j).opn = true:=by
  have:(upd s.G i { s.G i with bike:=(b:Int) } j).opn = true:=hopj
  rwa [hopn] at this
 by_cases hji:j = i
 ·subst hji
  show w2.heap[L.P j]? = some (.cells #[.int .i64 (upd s.G j _ j).rider,.int .i64 (upd s.G j _ j).bike,.bool (upd (upd s.F a (s.F b)) b ⟨3,0,(s.G j).id,false⟩ (upd s.G j _ j).bike.toNat).ps] _ _)
  rw[upd_same]
  show w2.heap[L.P j]? = some (.cells #[.int .i64 (s.G j).rider,.int .i64 (b:Int),.bool (upd (upd s.F a (s.F b)) b ⟨3,0,(s.G j).id,false⟩ ((b:Int)).toNat).ps] _ _)
  rw[Int.toNat_natCast,upd_same]
  exact ht
 ·have htj:=h.trip j hj hopj'
  obtain ⟨b',k1,k2,k3,k4⟩:=hI.opn j hj hopj'
  have hne:b' ≠ b:=fun e=>by subst e;exact hw k3
  have hne2:b' ≠ a:=fun e=>by
   subst e
   obtain ⟨b2,q1,q2,q3,q4⟩:=hI.opn i hi hop
   rw[ha] at q1
   have:b' = b2:=by omega
   subst this
   exact hji (hI.one j i hj hi (by rw[←k4,←q4]))
  show w2.heap[L.P j]? = some (.cells #[.int .i64 (upd s.G i _ j).rider,.int .i64 (upd s.G i _ j).bike,.bool (upd (upd s.F a _) b _ (upd s.G i _ j).bike.toNat).ps] _ _)
  have hp:=(h.pl j hj).1
  rw[upd_ne hji,k1,Int.toNat_natCast,upd_ne hne,upd_ne hne2,ho.block _ (block_lt htj) (fun h0=>by
   rcases h0 with h0 | h0
   ·omega
   ·exact hji (h.pd j i hj hi h0)),htj,k1,Int.toNat_natCast]
end
end Go.Proofs.YtdpoppilnokniaaGreatDoor
namespace Go.Proofs.YtdpoppilnokniaaGreatDoor
open Go.RowKit Go.ChangeShapes Go.WideShapes Go.Deep Go.Maps
set_option linter.unusedVariables false
set_option linter.unusedSimpArgs false
def DoX (base lo:Nat) (f:Fl) (L:Lay) (k:Nat) (s':CSt) (w:World) (e:Ending) (w':World):Prop:=∃ P',DoE base lo f L { L with P:=P' } k s' w e w'∧∀ i,i < s'.k→(i < k∧P' i = L.P i)∨w.heap.size≤P' i
theorem fault_pause {f:Fl}{s:CSt}{e:Ev}(h:faultK f s e = 0) (hk:e.kind = 5∨e.kind = 6):(s.F e.bike.toNat).wh = 3:=by
 unfold faultK at h
 rw[if_neg (by omega),if_neg (by omega),if_neg (by omega),if_neg (by omega)] at h
 rcases hk with hk | hk
 ·rw[if_pos hk] at h
  split at h
  ·simp at h
  ·rename_i h1;exact Decidable.not_not.1 h1
 ·rw[if_neg (by omega),if_pos hk] at h
  split at h
  ·simp at h
  ·rename_i h1;exact Decidable.not_not.1 h1
theorem fault_start {f:Fl}{s:CSt}{e:Ev}(h:faultK f s e = 0) (hk:e.kind = 3):(s.F e.bike.toNat).wh ≠ 3∧findI s.G e.ride s.k < 0:=by
 unfold faultK at h
 rw[if_neg (by omega),if_neg (by omega),if_pos hk] at h
 split at h
 ·simp at h
 split at h
 ·simp at h
 rename_i h1 h2
 have:parkB (s.F e.bike.toNat) = true:=by simpa using h1
 rw[parkB_iff] at this
 exact ⟨by omega,by omega⟩
theorem fault_swap {f:Fl}{s:CSt}{e:Ev}(h:faultK f s e = 0) (hk:e.kind = 4):(s.F e.bike.toNat).wh ≠ 3∧∃ i:Nat,i < s.k∧findI s.G e.ride s.k = (i:Int)∧(s.G i).id = e.ride∧(s.G i).opn = true∧(s.F (s.G i).bike.toNat).ps = false:=by
 unfold faultK at h
 rw[if_neg (by omega),if_neg (by omega),if_neg (by omega),if_pos hk] at h
 split at h
 ·simp at h
 split at h
 ·simp at h
 rename_i h1 h2
 split at h
 ·simp at h
 rename_i h3
 have:parkB (s.F e.bike.toNat) = true:=by simpa using h2
 rw[parkB_iff] at this
 refine ⟨by omega,?_⟩
 rcases findI_spec (G:=s.G) (id:=e.ride) (k:=s.k) with ⟨q1,_⟩ | ⟨i,q1,q2,q3,_⟩
 ·exact absurd (.inl (by omega)) h1
 ·rw[q1,Int.toNat_natCast] at h1 h3
  refine ⟨i,q2,q1,q3,?_,by simpa using h3⟩
  cases hh:(s.G i).opn
  ·exact absurd (.inr hh) h1
  ·rfl
set_option maxRecDepth 8000 in
set_option maxHeartbeats 16000000 in
theorem do60 {base lo:Nat}{f:Fl}{L:Lay}{s:CSt}{w:World}(h:CM base lo f L s w) (hI:Inv f.bikes.toNat s) (e:Ev) (hin:inN e) (hc:checkE f e = 0) (hk:e.kind ≠ 10) (hfk:faultK f s e = 0) (hrw:∀ i,i < s.k→(Lit.int .i64 (s.G i).id).wf = true) (hkk:s.k≤1000000) :
  Calls Tryz.prog 60 #[.pointer (some ⟨L.sb,0,none⟩),.agg (eC e)] w (DoX base lo f L s.k (applyK s e) w):=by
 obtain ⟨k1,k2⟩:=kind_in hc
 obtain ⟨b1,b2⟩:=bike_in hc
 have hfb:f.bikes≤128:=(fleetE_zero (check_fleet hc)).1.2
 obtain ⟨b,hb⟩:=Int.eq_ofNat_of_zero_le b1
 have hbn:b < f.bikes.toNat:=by omega
 have hwr:(Lit.int .i64 e.ride).wf = true:=WalkArith.wf_i64 (hin _ (by simp [nums]))
 have BB:Hid (Below w.heap.size w ((w.alloc (.cells (eC e) 81)).alloc (.cells #[.int .i64 3,.int .i64 0,.int .i64 e.ride,.bool false] 112))):=Lib.hid (by (repeat' (first | with_reducible (first | exact Below.refl _ _ | assumption | refine Below.drew ?_ | refine below_drewN ?_ _ | refine Below.alloc ?_ ?_ _ | refine Below.setCell ?_ ?_ _) | go_size)))
 have X0:Hid (((w.alloc (.cells (eC e) 81)).alloc (.cells #[.int .i64 3,.int .i64 0,.int .i64 e.ride,.bool false] 112)).heap[w.heap.size]? = some (.cells (eC e) 81 (0,0))):=Lib.hid (by
  have h0:=heap_alloc_new w (.cells (eC e) 81)
  have bb:Below (w.alloc (.cells (eC e) 81)).heap.size (w.alloc (.cells (eC e) 81)) ((w.alloc (.cells (eC e) 81)).alloc (.cells #[.int .i64 3,.int .i64 0,.int .i64 e.ride,.bool false] 112)):=by (repeat' (first | with_reducible (first | exact Below.refl _ _ | assumption | refine Below.drew ?_ | refine below_drewN ?_ _ | refine Below.alloc ?_ ?_ _ | refine Below.setCell ?_ ?_ _) | go_size))
  exact (bb.block _ (block_lt h0)).trans h0)
 have X1:Hid (((w.alloc (.cells (eC e) 81)).alloc (.cells #[.int .i64 3,.int .i64 0,.int .i64 e.ride,.bool false] 112)).heap[w.heap.size+1]? = some (.cells #[.int .i64 3,.int .i64 0,.int .i64 e.ride,.bool false] 112 (0,0))):=Lib.hid (by
  have h0:=heap_alloc_new (w.alloc (.cells (eC e) 81)) (.cells #[.int .i64 3,.int .i64 0,.int .i64 e.ride,.bool false] 112)
  rwa [show (w.alloc (.cells (eC e) 81)).heap.size = w.heap.size+1 by simp] at h0)
 have M0:=Lib.hid h
 have HI:=Lib.hid hI
 have HB:=Lib.hid hbn
 have HRW:=Lib.hid hrw
 have HFK:=Lib.hid hfk
 have HLO:Hid (lo≤w.heap.size):=Lib.hid h.hi
 obtain ⟨n,hn⟩:∃ n,n = f.bikes.toNat:=⟨_,rfl⟩
 have HN:=Lib.hid hn
 rw[←hn] at hbn
 have hn128:n≤128:=by omega
 clear hn hfb b2 h hI hrw hfk hc hin b1
 obtain ⟨v1,v2,v3,v4,v5,v6,v7,v8,v9⟩:=e
 dsimp only at hb hk k1 k2 hwr X0 X1 BB
 subst hb
 unfold eC at *
 dsimp only at X0 X1 BB ⊢
 obtain ⟨sb,sp,om,um,P⟩:=L
 dsimp only at *
 obtain ⟨w1,hw1⟩:∃ w1,w1 = (w.alloc (.cells #[.int .i64 v1,.int .i64 v2,.int .i64 v3,.int .i64 v4,.int .i64 v5,.int .i64 (b:Int),.int .i64 v7,.int .i64 v8,.int .i64 v9] 81)).alloc (.cells #[.int .i64 3,.int .i64 0,.int .i64 v9,.bool false] 112):=⟨_,rfl⟩
 rw[←hw1] at X0 X1 BB
 have B1:=BB
 have M1:=Lib.hid (M0.out.below B1.out)
 have y0:=cell_at X0.out 0
 have y1:=cell_at X0.out 1
 have y2:=cell_at X0.out 2
 have y3:=cell_at X0.out 3
 have y4:=cell_at X0.out 4
 have y5:=cell_at X0.out 5
 have y6:=cell_at X0.out 6
 have y7:=cell_at X0.out 7
 have y8:=cell_at X0.out 8
 have zy:=szs (block_lt X0.out)
 have t0:=cell_at X1.out 0
 have t1:=cell_at X1.out 1
 have t2:=cell_at X1.out 2
 have t3:=cell_at X1.out 3
 have zt:=szs (block_lt X1.out)
 have HW1:=Lib.hid hw1
 clear hw1 X0 X1 BB M0
 by_cases k1:v5 = 1
 ·subst k1
  have LV:=leave90 M1.out HI.out b HB.out (by rw[←HN.out];omega) HRW.out (⟨1,v7,0,false⟩:Sp)
  dsimp only at LV
  replace LV:=Lib.hid LV
  have HAP:Hid (applyK s ⟨v1,v2,v3,v4,1,(b:Int),v7,v8,v9⟩ = putS s b (⟨1,v7,0,false⟩:Sp)):=Lib.hid (by unfold applyK;simp)
  clear HFK
  go_enter Tryz.func60,Tryz.ntmps60
  go_wp2_with fail
  rw[←HW1.out]
  refine LV.out.mono ?_
  rintro e w4 ⟨rfl,m4,o4⟩
  have M4:=Lib.hid m4
  have O4:=Lib.hid o4
  clear m4 o4 LV
  go_wp2_with fail
  go_end0
  exact ⟨P,⟨rfl,by rw[HAP.out];exact M4.out,(Off.of_below B1.out).same O4.out⟩,fun i hi=>.inl ⟨by rw[HAP.out] at hi;exact hi,rfl⟩⟩
 by_cases k2:v5 = 2
 ·subst k2
  have LV:=leave90 M1.out HI.out b HB.out (by rw[←HN.out];omega) HRW.out (⟨2,v7,0,false⟩:Sp)
  dsimp only at LV
  replace LV:=Lib.hid LV
  have HAP:Hid (applyK s ⟨v1,v2,v3,v4,2,(b:Int),v7,v8,v9⟩ = putS s b (⟨2,v7,0,false⟩:Sp)):=Lib.hid (by unfold applyK;simp)
  clear HFK
  go_enter Tryz.func60,Tryz.ntmps60
  go_wp2_with fail
  rw[←HW1.out]
  refine LV.out.mono ?_
  rintro e w4 ⟨rfl,m4,o4⟩
  have M4:=Lib.hid m4
  have O4:=Lib.hid o4
  clear m4 o4 LV
  go_wp2_with fail
  go_end0
  exact ⟨P,⟨rfl,by rw[HAP.out];exact M4.out,(Off.of_below B1.out).same O4.out⟩,fun i hi=>.inl ⟨by rw[HAP.out] at hi;exact hi,rfl⟩⟩
 by_cases k7:v5 = 7
 ·subst k7
  have LV:=leave90 M1.out HI.out b HB.out (by rw[←HN.out];omega) HRW.out (⟨4,v7,0,false⟩:Sp)
  dsimp only at LV
  replace LV:=Lib.hid LV
  have HAP:Hid (applyK s ⟨v1,v2,v3,v4,7,(b:Int),v7,v8,v9⟩ = putS s b (⟨4,v7,0,false⟩:Sp)):=Lib.hid (by unfold applyK;simp)
  clear HFK
  go_enter Tryz.func60,Tryz.ntmps60
  go_wp2_with fail
  rw[←HW1.out]
  refine LV.out.mono ?_
  rintro e w4 ⟨rfl,m4,o4⟩
  have M4:=Lib.hid m4
  have O4:=Lib.hid o4
  clear m4 o4 LV
  go_wp2_with fail
  go_end0
  exact ⟨P,⟨rfl,by rw[HAP.out];exact M4.out,(Off.of_below B1.out).same O4.out⟩,fun i hi=>.inl ⟨by rw[HAP.out] at hi;exact hi,rfl⟩⟩
 by_cases k8:v5 = 8
 ·subst k8
  have LV:=leave90 M1.out HI.out b HB.out (by rw[←HN.out];omega) HRW.out (⟨5,0,0,false⟩:Sp)
  dsimp only at LV
  replace LV:=Lib.hid LV
  have HAP:Hid (applyK s ⟨v1,v2,v3,v4,8,(b:Int),v7,v8,v9⟩ = putS s b (⟨5,0,0,false⟩:Sp)):=Lib.hid (by unfold applyK;simp)
  clear HFK
  go_enter Tryz.func60,Tryz.ntmps60
  go_wp2_with fail
  rw[←HW1.out]
  refine LV.out.mono ?_
  rintro e w4 ⟨rfl,m4,o4⟩
  have M4:=Lib.hid m4
  have O4:=Lib.hid o4
  clear m4 o4 LV
  go_wp2_with fail
  go_end0
  exact ⟨P,⟨rfl,by rw[HAP.out];exact M4.out,(Off.of_below B1.out).same O4.out⟩,fun i hi=>.inl ⟨by rw[HAP.out] at hi;exact hi,rfl⟩⟩
 by_cases k9:v5 = 9
 ·subst k9
  have LV:=leave90 M1.out HI.out b HB.out (by rw[←HN.out];omega) HRW.out (⟨6,0,0,false⟩:Sp)
  dsimp only at LV
  replace LV:=Lib.hid LV
  have HAP:Hid (applyK s ⟨v1,v2,v3,v4,9,(b:Int),v7,v8,v9⟩ = putS s b (⟨6,0,0,false⟩:Sp)):=Lib.hid (by unfold applyK;simp)
  clear HFK
  go_enter Tryz.func60,Tryz.ntmps60
  go_wp2_with fail
  rw[←HW1.out]
  refine LV.out.mono ?_
  rintro e w4 ⟨rfl,m4,o4⟩
  have M4:=Lib.hid m4
  have O4:=Lib.hid o4
  clear m4 o4 LV
  go_wp2_with fail
  go_end0
  exact ⟨P,⟨rfl,by rw[HAP.out];exact M4.out,(Off.of_below B1.out).same O4.out⟩,fun i hi=>.inl ⟨by rw[HAP.out] at hi;exact hi,rfl⟩⟩
 by_cases k5:v5 = 5
 ·subst k5
  have hwh:(s.F b).wh = 3:=fault_pause HFK.out (.inl rfl)
  have LV:=pause91 M1.out HI.out b HB.out (by rw[←HN.out];omega) HRW.out hwh true
  dsimp only at LV
  replace LV:=Lib.hid LV
  have HAP:Hid (applyK s ⟨v1,v2,v3,v4,5,(b:Int),v7,v8,v9⟩ = ⟨upd s.F b { s.F b with ps:=true },s.k,s.G⟩):=Lib.hid (by unfold applyK;simp)
  clear HFK hwh
  go_enter Tryz.func60,Tryz.ntmps60
  go_wp2_with fail
  rw[←HW1.out]
  refine LV.out.mono ?_
  rintro e w4 ⟨rfl,m4,o4⟩
  have M4:=Lib.hid m4
  have O4:=Lib.hid o4
  clear m4 o4 LV
  go_wp2_with fail
  go_end0
  exact ⟨P,⟨rfl,by rw[HAP.out];exact M4.out,(Off.of_below B1.out).same O4.out⟩,fun i hi=>.inl ⟨by rw[HAP.out] at hi;exact hi,rfl⟩⟩
 by_cases k6:v5 = 6
 ·subst k6
  have hwh:(s.F b).wh = 3:=fault_pause HFK.out (.inr rfl)
  have LV:=pause91 M1.out HI.out b HB.out (by rw[←HN.out];omega) HRW.out hwh false
  dsimp only at LV
  replace LV:=Lib.hid LV
  have HAP:Hid (applyK s ⟨v1,v2,v3,v4,6,(b:Int),v7,v8,v9⟩ = ⟨upd s.F b { s.F b with ps:=false },s.k,s.G⟩):=Lib.hid (by unfold applyK;simp)
  clear HFK hwh
  go_enter Tryz.func60,Tryz.ntmps60
  go_wp2_with fail
  rw[←HW1.out]
  refine LV.out.mono ?_
  rintro e w4 ⟨rfl,m4,o4⟩
  have M4:=Lib.hid m4
  have O4:=Lib.hid o4
  clear m4 o4 LV
  go_wp2_with fail
  go_end0
  exact ⟨P,⟨rfl,by rw[HAP.out];exact M4.out,(Off.of_below B1.out).same O4.out⟩,fun i hi=>.inl ⟨by rw[HAP.out] at hi;exact hi,rfl⟩⟩
 by_cases k3:v5 = 3
 ·subst k3
  obtain ⟨hw3,hfi⟩:=fault_start HFK.out rfl
  have HWF:=Lib.hid (And.intro hw3 hfi)
  have HAP:Hid (applyK s ⟨v1,v2,v3,v4,3,(b:Int),v7,v8,v9⟩ = ⟨upd s.F b ⟨3,0,v9,false⟩,s.k+1,upd s.G s.k ⟨v9,v8,(b:Int),true⟩⟩):=Lib.hid (by unfold applyK;simp)
  have HKY:=Lib.hid (keyOf_int_mk (P:=Tryz.prog) Tryz.underlying3 hwr)
  have c5:=cell_at M1.out.m0 5
  have c6:=cell_at M1.out.m0 6
  have c7:=cell_at M1.out.m0 7
  simp only[List.getElem?_toArray,List.getElem?_cons_succ,List.getElem?_cons_zero] at c5 c6 c7
  rw[←HN.out] at c5
  have zc:=szs (block_lt M1.out.m0)
  dsimp only at zc c5 c6 c7
  clear HFK hw3 hfi k1 k2 k7 k8 k9 k5 k6
  go_enter Tryz.func60,Tryz.ntmps60
  go_wp2_with fail
  rw[←HW1.out]
  (obtain ⟨ι,hne,Fw,fb,hF⟩:=grow_family w1);have hF:∀ w',(gPlan w1 (fun _=>undef) [] [] []).D () w'→∃ i,w' = Fw i:=hF
  have fc6:=fun i=>cell_kept (fb i) c6
  have fy8:=fun i=>cell_kept (fb i) y8
  have fy7:=fun i=>cell_kept (fb i) y7
  have fy5:=fun i=>cell_kept (fb i) y5
  refine region_chain (gPlan w1 (fun _=>undef) [] [(11,fun b=>.pointer (some ⟨b,0,none⟩),.cells #[.int .i64 v8,.int .i64 (b:Int),.bool false] 161)] []) () [] [0,1,2,3,4,5,6,7,8,9,10,11] [12] mixed (by kernel_rfl) (by kernel_rfl) (gPlan_ok (by simp) (by simp)) (gPlan_start _ _ _ _ _) ?_
  refine wpPure_nil ?_
  simp only[List.map_cons,List.map_nil,Array.getD_eq_getD_getElem?,List.getElem?_toArray,List.getElem?_cons_zero,List.getElem?_cons_succ,Option.getD_some]
  (repeat (first | (refine wpChain_skip rfl ?_;simp only[Act.put,List.setIfInBounds_toArray,List.set_cons_succ,List.set_cons_zero]) | (refine wpChain_quiet hF rfl rfl rfl ?_;intro K hK;go_big_quiet_op;go_big_quiet_on) | (refine wpChain_pure _ rfl rfl (fun w' _=>by go_simp;try rfl) ?_;simp only[Act.put,List.setIfInBounds_toArray,List.set_cons_succ,List.set_cons_zero])))
  (refine wpChain_alloc _ _ rfl (List.mem_cons_self ..) rfl (fun w'=>by go_simp) (fun q1 hq1=>?_);simp only[Act.put,List.setIfInBounds_toArray,List.set_cons_succ,List.set_cons_zero])
  refine wpChain_nil (fun w2 hb2 hl2=>?_)
  have hb2':Below w1.heap.size w1 w2:=hb2
  have hx:=hl2.2 (11,q1,.cells #[.int .i64 v8,.int .i64 (b:Int),.bool false] 161) (by simp)
  have HQ:Hid (w1.heap.size≤q1∧w2.heap[q1]? = some (.cells #[.int .i64 v8,.int .i64 (b:Int),.bool false] 161 (0,0))):=Lib.hid ⟨hx.1,hx.2⟩
  have M2:=Lib.hid (M1.out.below hb2')
  have B2:=Lib.hid (B1.out.trans (hb2'.mono B1.out.size))
  replace y5:=cell_kept hb2' y5
  replace y8:=cell_kept hb2' y8
  replace t0:=cell_kept hb2' t0
  replace t1:=cell_kept hb2' t1
  replace t2:=cell_kept hb2' t2
  replace t3:=cell_kept hb2' t3
  replace c5:=cell_kept hb2' c5
  replace c7:=cell_kept hb2' c7
  have HZ1:Hid (w1.heap.size≤w2.heap.size):=Lib.hid hb2'.size
  have HZ0:Hid (w.heap.size+1 < w1.heap.size):=Lib.hid zt.1
  clear hb2 hb2' hl2 hx hF fb hne fc6 fy8 fy7 fy5 y0 y1 y2 y3 y4 y6 y7 c6 zc zy zt hq1 B1
  obtain ⟨D,hown,hmap,hat,hhas⟩:=M2.out.opn
  have HOW:=Lib.hid (And.intro hown (And.intro hmap (And.intro hat hhas)))
  clear hown hmap hat hhas
  go_wp2_with (at_mapUpdate;go_loud (refine wpList_mapUpdate_own _ rfl _ _ _ 146 rfl 3 157 CM.law Tryz.underlying146 ptR om s.k D rfl HOW.out.1 (by unfold maxLen;omega) _ _ (.int .i64 v9) rfl rfl HKY.out (.lit (.int .i64 (q1:Int))) [] rfl ?_))
  intro w3 hown3 hg3
  have ho3:Off (fun q=>q = om) w2 w3:=(Off.of_grown hg3).mono (fun i _ h=>by cases h;rfl)
  have hne:=M2.out.ne
  have hlo:=M2.out.l0
  have hhi:=HLO.out
  dsimp only at hne hlo hhi
  have hz0:=HZ0.out
  have om1:¬ w.heap.size = om:=by omega
  have om1':¬ w.heap.size+1 = om:=by omega
  have om2:¬ sb = om:=by omega
  have om3:¬ sp = om:=by omega
  have om4:¬ um = om:=by omega
  have om5:¬ q1 = om:=by have:=HQ.out.1;omega
  replace y5:=ho3.cell y5 om1
  replace y8:=ho3.cell y8 om1
  replace t0:=ho3.cell t0 om1'
  replace t1:=ho3.cell t1 om1'
  replace t2:=ho3.cell t2 om1'
  replace t3:=ho3.cell t3 om1'
  replace c5:=ho3.cell c5 om2
  replace c7:=ho3.cell c7 om2
  have US3:=Lib.hid (M2.out.used.off ho3 om4)
  have HQ3:=Lib.hid ((ho3.block _ (block_lt HQ.out.2) om5).trans HQ.out.2)
  have RW3:Hid (SpRow w3 base sp f.bikes.toNat s.F):=Lib.hid (Row.off M2.out.rows ho3 (fun g hg=>by cases hg;exact om3))
  have OW3:=Lib.hid hown3
  have O3:=Lib.hid ho3
  clear hown3 hg3 ho3 hne hlo hhi hz0 om1 om1' om2 om3 om4 om5
  have zy:=szs (cell_lt y5)
  have zt:=szs (cell_lt t0)
  have zc:=szs (cell_lt c5)
  dsimp only at zy zt zc
  go_wp2_with fail
  refine onlyN_intro ?_
  go_wp2_with fail
  (refine region_order (fun i:Nat=>World.drewN _ i) [] [0,1,2,3,4,5] 6 [] mixed (by kernel_rfl) ⟨1,rfl⟩ ?_;simp only[List.map_cons,List.map_nil,Array.getD_eq_getD_getElem?,List.getElem?_toArray,List.getElem?_cons_zero,List.getElem?_cons_succ,Option.getD_some];(repeat (refine wpPure_cons _ rfl (fun w'=>by go_simp;try rfl) ?_;dsimp only[Act.put]));refine wpPure_nil ?_;(repeat (any_goals (first | go_big_quiet_step (fail) | quiet_step (fail) | (refine wpQuiet_step (fun K hK=>?_);go_simp;split <;> (refine hK _ ?_;clear hK K)))));(all_goals (refine wpQuiet_nil (fun nq=>?_))))
  have b4:Below w3.heap.size w3 (w3.drewN nq):=below_drewN (Below.refl _ _) nq
  obtain ⟨w5,hrun,hset,hoff⟩:=(US3.out.below b4).put Tryz.underlying3 Tryz.underlying122 Tryz.underlying4 (by unfold maxLen;omega) v9 true hwr
  have ho5:Off (fun q=>q = um) w3 w5:=(Off.of_below b4).trans hoff (fun _ _ h=>h)
  have HRUN:=hrun
  have hne:=M2.out.ne
  have hlo:=M2.out.l0
  have hhi:=HLO.out
  dsimp only at hne hlo hhi
  have hz0:=HZ0.out
  have um1:¬ w.heap.size = um:=by omega
  have um1':¬ w.heap.size+1 = um:=by omega
  have um2:¬ sb = um:=by omega
  have um3:¬ sp = um:=by omega
  have um4:¬ om = um:=by omega
  have um5:¬ q1 = um:=by have:=HQ.out.1;omega
  replace y5:=ho5.cell y5 um1
  replace y8:=ho5.cell y8 um1
  replace t0:=ho5.cell t0 um1'
  replace t1:=ho5.cell t1 um1'
  replace t2:=ho5.cell t2 um1'
  replace t3:=ho5.cell t3 um1'
  replace c5:=ho5.cell c5 um2
  have US5:=Lib.hid hset
  have HQ5:=Lib.hid ((ho5.block _ (block_lt HQ3.out) um5).trans HQ3.out)
  have RW5:Hid (SpRow w5 base sp f.bikes.toNat s.F):=Lib.hid (Row.off RW3.out ho5 (fun g hg=>by cases hg;exact um3))
  have OW5:=Lib.hid (ownsMap_off OW3.out ho5 um4)
  have O5:=Lib.hid ((O3.out.mono (Y:=fun x=>x = om∨x = um) (fun _ _ h=>.inl h)).trans ho5 (fun _ _ h=>.inr h))
  clear hset hoff ho5 hrun hne hlo hhi hz0 um1 um1' um2 um3 um4 um5 c7 zy zt zc b4 US3 HQ3 RW3 OW3 O3
  generalize w3.drewN nq = w4 at *
  go_wp2_with fail
  refine onlyN_intro ?_
  clear HRUN
  have zy:=szs (cell_lt y5)
  have zt:=szs (cell_lt t0)
  have zc:=szs (cell_lt c5)
  dsimp only at zy zt zc
  go_wp2_with fail
  (refine region_order (fun i:Nat=>World.drewN _ i) [] [0,1,2,3,4,5,6,7] 8 [] mixed (by kernel_rfl) ⟨1,rfl⟩ ?_;simp only[List.map_cons,List.map_nil,Array.getD_eq_getD_getElem?,List.getElem?_toArray,List.getElem?_cons_zero,List.getElem?_cons_succ,Option.getD_some];(repeat (refine wpPure_cons _ rfl (fun w'=>by go_simp;try rfl) ?_;dsimp only[Act.put]));refine wpPure_nil ?_;(repeat (any_goals (first | go_big_quiet_step (fail) | quiet_step (fail) | (refine wpQuiet_step (fun K hK=>?_);go_simp;split <;> (refine hK _ ?_;clear hK K)))));(all_goals (refine wpQuiet_nil (fun nq=>?_))))
  have b6:Below w5.heap.size w5 (w5.drewN nq):=below_drewN (Below.refl _ _) nq
  have RW6:SpRow (w5.drewN nq) base sp f.bikes.toNat s.F:=Row.off (X:=fun _=>False) RW5.out (Off.of_below b6) (fun _ _ h=>h)
  obtain ⟨a0,a1,a2,a3⟩:=RW6.at HB.out
  have g0:=fun o=>Row.free RW6 o
  have zp:=szs (SpRow.lt RW6)
  have HRW6:=Lib.hid RW6
  have HQ6:=Lib.hid ((b6.block _ (block_lt HQ5.out)).trans HQ5.out)
  have OW6:=Lib.hid (ownsMap_off (X:=fun _=>False) OW5.out (Off.of_below b6) (fun h=>h))
  have US6:=Lib.hid (US5.out.below b6)
  have O6:=Lib.hid (O5.out.trans (Y:=fun _=>False) (Off.of_below b6) (fun _ _ h=>h.elim))
  replace t0:=cell_kept b6 t0
  clear b6 RW6 HQ5 OW5 US5 O5 y5 y8 t0 t1 t2 t3 c5 zy zt zc RW5
  generalize w5.drewN nq = w6 at *
  generalize hz:s.F b = z at *
  obtain ⟨z1,z2,z3,z4⟩:=z
  dsimp only at a0 a1 a2 a3
  go_wp2_with fail
  go_end0
  have hne:=M2.out.ne
  have hlo:=M2.out.l0
  have hz0:=HZ0.out
  have hhi:=HLO.out
  have hqq:=HQ.out.1
  dsimp only at hne hlo
  have os:=off_spot w6 sp (b * 4) (spv ⟨3,0,v9,false⟩)
  have ho7:Off (fun x=>x = om∨x = um∨x = sp) w2 (putCells w6 sp (b * 4) (spv ⟨3,0,v9,false⟩)) :=
   (O6.out.mono (Y:=fun x=>x = om∨x = um∨x = sp) (fun _ _ h=>by rcases h with h | h;exact .inl h;exact .inr (.inl h))).trans os (fun _ _ h=>.inr (.inr h))
  have hwf:=HWF.out
  rw[Int.toNat_natCast] at hwf
  have hP:∀ i,i < s.k→P i ≠ q1:=fun i hi=>by have:=(M1.out.pl i hi).2;dsimp only at this;omega
  have hlq:lo≤q1:=by omega
  have hq7:=(os.block q1 (block_lt HQ6.out) (by omega)).trans HQ6.out
  have how7:=ownsMap_off OW6.out os (show ¬ om = sp by omega)
  have hus7:=US6.out.off os (show ¬ um = sp by omega)
  have hrw7:=HRW6.out.put HB.out ⟨3,0,v9,false⟩
  have hCM:=CM.begin (L:=⟨sb,sp,om,um,P⟩) (rider:=v8) M2.out HI.out HB.out hwf.1 hwf.2 hlq hP ho7 hq7 HOW.out.2.1 HOW.out.2.2.1 HOW.out.2.2.2 how7 hus7 hrw7
  have hOF:Off (Lay.own ⟨sb,sp,om,um,P⟩ s.k) w (putCells w6 sp (b * 4) (spv ⟨3,0,v9,false⟩)):=(Off.of_below (X:=Lay.own ⟨sb,sp,om,um,P⟩ s.k) B2.out).trans ho7 (fun i _ h=>by
    rcases h with h | h | h
    ·exact .inr (.inl h)
    ·exact .inr (.inr (.inl h))
    ·exact .inl h)
  rw[HAP.out]
  have E:(((w6.setCell ⟨sp,b * 4,none⟩ (.int .i64 3)).setCell ⟨sp,b * 4+1,none⟩ (.int .i64 0)).setCell ⟨sp,b * 4+2,none⟩ (.int .i64 v9)).setCell ⟨sp,b * 4+3,none⟩ (.bool false) = putCells w6 sp (b * 4) (spv ⟨3,0,v9,false⟩):=rfl
  rw[E]
  exact ⟨upd P s.k q1,⟨rfl,hCM,hOF⟩,fun i hi=>by
   by_cases hik:i = s.k
   ·right
    show w.heap.size≤upd P s.k q1 i
    rw[hik,upd_same];omega
   ·have hi:i < s.k+1:=hi
    exact .inl ⟨by omega,upd_ne hik⟩⟩
 obtain rfl:v5 = 4:=by omega
 obtain ⟨hw4,i,hi,hfi,hid,hop,hps⟩:=fault_swap HFK.out rfl
 obtain ⟨a,ha,han,ha3,har⟩:=HI.out.opn i hi hop
 have hw4':(s.F b).wh ≠ 3:=by
  have:=hw4
  dsimp only at this
  rwa [Int.toNat_natCast] at this
 have HAP:Hid (applyK s ⟨v1,v2,v3,v4,4,(b:Int),v7,v8,v9⟩ = ⟨upd (upd s.F a (s.F b)) b ⟨3,0,v9,false⟩,s.k,upd s.G i { s.G i with bike:=(b:Int) }⟩):=Lib.hid (by
  dsimp only at hfi
  unfold applyK
  simp [hfi,ha])
 have HFA:Hid ((s.F a).ps = false):=Lib.hid (by rw[ha,Int.toNat_natCast] at hps;exact hps)
 have HX:=Lib.hid (And.intro hw4' (And.intro hi (And.intro hid (And.intro hop (And.intro ha (And.intro han ha3))))))
 have c5:=cell_at M1.out.m0 5
 have c6:=cell_at M1.out.m0 6
 simp only[List.getElem?_toArray,List.getElem?_cons_succ,List.getElem?_cons_zero] at c5 c6
 rw[←HN.out] at c5
 have zc:=szs (block_lt M1.out.m0)
 dsimp only at zc c5 c6
 have LK:∀ j,Sem.run Tryz.prog (Instr.lookup 146 (.map (some om)) (.int .i64 v9) false) (w1.drewN j) = .ok (.pointer (some ⟨P i,0,none⟩)) (w1.drewN j):=fun j=>by
  have:=(M1.out.opn.off (X:=fun _=>False) (Off.of_below (below_drewN (Below.refl _ _) j)) (fun h=>h)).look v9 hwr
  dsimp only at this hid
  rw[this,←hid,HI.out.ridV_of hi hop,ridP_some]
 clear HFK hw4 hi hfi hid hop hps ha ha3 har hw4' k1 k2 k7 k8 k9 k5 k6 k3
 rw[←HN.out] at han
 go_enter Tryz.func60,Tryz.ntmps60
 go_wp2_with fail
 rw[←HW1.out]
 (refine region_all (fun i:Nat=>World.drewN _ i) mixed (by kernel_rfl) ⟨1,rfl⟩ ?_;(repeat (any_goals (first | go_big_quiet_step (fail) | quiet_step (fail) | (refine wpQuiet_step (fun K hK=>?_);go_simp;split <;> (refine hK _ ?_;clear hK K)))));(all_goals (refine wpQuiet_nil (fun nq=>?_))))
 have b2:Below w1.heap.size w1 (w1.drewN nq):=below_drewN (Below.refl _ _) nq
 have M2:=Lib.hid (M1.out.below b2)
 have B2:=Lib.hid (B1.out.trans (b2.mono B1.out.size))
 have HZ0:Hid (w.heap.size+1 < w1.heap.size):=Lib.hid zt.1
 have HPW:Hid (w1.heap.size≤(w1.drewN nq).heap.size):=Lib.hid b2.size
 have HPL:=Lib.hid (M1.out.pl)
 replace y5:=cell_kept b2 y5
 replace t0:=cell_kept b2 t0
 replace t1:=cell_kept b2 t1
 replace t2:=cell_kept b2 t2
 replace t3:=cell_kept b2 t3
 replace c5:=cell_kept b2 c5
 clear LK y0 y1 y2 y3 y4 y6 y7 y8 c6 zc zy zt b2
 generalize w1.drewN nq = w2 at *
 have zy:=szs (cell_lt y5)
 have zt:=szs (cell_lt t0)
 have zc:=szs (cell_lt c5)
 dsimp only at zy zt zc
 have ht:=M2.out.trip i HX.out.2.1 HX.out.2.2.2.1
 rw[HX.out.2.2.2.2.1,Int.toNat_natCast,HFA.out] at ht
 have p1:=cell_at ht 1
 have zp:=szs (block_lt ht)
 have HTR:=Lib.hid ht
 obtain ⟨a0,a1,a2,a3⟩:=M2.out.rows.at HB.out
 obtain ⟨e0,e1,e2,e3⟩:=M2.out.rows.at HX.out.2.2.2.2.2.1
 have zr:=szs (SpRow.lt M2.out.rows)
 dsimp only at p1 zp a0 a1 a2 a3 e0 e1 e2 e3 zr
 clear ht
 obtain ⟨z,hz⟩:∃ z,z = s.F b:=⟨_,rfl⟩
 have HZB:=Lib.hid hz
 rw[←hz] at a0 a1 a2 a3
 clear hz
 obtain ⟨z1,z2,z3,z4⟩:=z
 obtain ⟨x,hx⟩:∃ x,x = s.F a:=⟨_,rfl⟩
 rw[←hx] at e0 e1 e2 e3
 clear hx
 obtain ⟨x1,x2,x3,x4⟩:=x
 dsimp only at a0 a1 a2 a3 e0 e1 e2 e3
 go_wp2_with fail
 (refine region_order (fun i:Nat=>World.drewN _ i) [] [0,1,2,3,4,5,6,7,8,9,10,11,12,13,14,15,16] 17 [] mixed (by kernel_rfl) ⟨1,rfl⟩ ?_;simp only[List.map_cons,List.map_nil,Array.getD_eq_getD_getElem?,List.getElem?_toArray,List.getElem?_cons_zero,List.getElem?_cons_succ,Option.getD_some];(repeat (refine wpPure_cons _ rfl (fun w'=>by go_simp;try rfl) ?_;dsimp only[Act.put]));refine wpPure_nil ?_;(repeat (any_goals (first | go_big_quiet_step (fail) | quiet_step (fail) | (refine wpQuiet_step (fun K hK=>?_);go_simp;split <;> (refine hK _ ?_;clear hK K)))));(all_goals (refine wpQuiet_nil (fun nq=>?_))))
 have b3:Below w2.heap.size w2 (w2.drewN nq):=below_drewN (Below.refl _ _) nq
 have hpl:=HPL.out i HX.out.2.1
 have hlo:=M2.out.l0
 have hne:=M2.out.ne
 have hhi:=HLO.out
 have hz0:=HZ0.out
 dsimp only at hpl hlo hne
 have sp1:¬ w.heap.size = sp:=by omega
 have sp2:¬ w.heap.size+1 = sp:=by omega
 have sp3:¬ sb = sp:=by omega
 have sp4:¬ P i = sp:=by omega
 have M3:=Lib.hid (M2.out.below b3)
 have R3:=Lib.hid M3.out.rows
 have B3:=Lib.hid (B2.out.trans (b3.mono B2.out.size))
 have HTR3:=Lib.hid ((b3.block _ (block_lt HTR.out)).trans HTR.out)
 replace y5:=cell_kept b3 y5
 replace t0:=cell_kept b3 t0
 replace t1:=cell_kept b3 t1
 replace t2:=cell_kept b3 t2
 replace t3:=cell_kept b3 t3
 replace c5:=cell_kept b3 c5
 replace e0:=cell_kept b3 e0
 replace e1:=cell_kept b3 e1
 replace e2:=cell_kept b3 e2
 replace e3:=cell_kept b3 e3
 have g0:=fun o=>Row.free R3.out o
 have zr:=szs (SpRow.lt R3.out)
 have HSP:=Lib.hid (And.intro sp1 (And.intro sp2 (And.intro sp3 sp4)))
 try dsimp only at g0
 clear b3 hpl hlo hne hhi hz0 sp1 sp2 sp3 sp4 M2 B2 HTR p1 zp a0 a1 a2 a3 zy zt zc
 generalize w2.drewN nq = w3 at *
 go_wp2_with fail
 refine onlyN_intro ?_
 have E:(((w3.setCell ⟨sp,a * 4,none⟩ (.int .i64 z1)).setCell ⟨sp,a * 4+1,none⟩ (.int .i64 z2)).setCell ⟨sp,a * 4+2,none⟩ (.int .i64 z3)).setCell ⟨sp,a * 4+3,none⟩ (.bool z4) = putCells w3 sp (a * 4) (spv ⟨z1,z2,z3,z4⟩):=rfl
 rw[E]
 have R4:=Lib.hid (SpRow.put R3.out HX.out.2.2.2.2.2.1 ⟨z1,z2,z3,z4⟩)
 have O4:=Lib.hid (off_spot w3 sp (a * 4) (spv ⟨z1,z2,z3,z4⟩))
 clear E R3 e0 e1 e2 e3 g0 zr
 generalize putCells w3 sp (a * 4) (spv ⟨z1,z2,z3,z4⟩) = w4 at *
 replace y5:=O4.out.cell y5 HSP.out.1
 replace t0:=O4.out.cell t0 HSP.out.2.1
 replace t1:=O4.out.cell t1 HSP.out.2.1
 replace t2:=O4.out.cell t2 HSP.out.2.1
 replace t3:=O4.out.cell t3 HSP.out.2.1
 replace c5:=O4.out.cell c5 HSP.out.2.2.1
 have HTR4:=Lib.hid ((O4.out.block _ (block_lt HTR3.out) HSP.out.2.2.2).trans HTR3.out)
 have zy:=szs (cell_lt y5)
 have zt:=szs (cell_lt t0)
 have zc:=szs (cell_lt c5)
 have zr:=szs (SpRow.lt R4.out)
 dsimp only at zy zt zc
 go_wp2_with fail
 (refine region_order (fun i:Nat=>World.drewN _ i) [] [0,1,2,3,4,5,6,7] 8 [] mixed (by kernel_rfl) ⟨1,rfl⟩ ?_;simp only[List.map_cons,List.map_nil,Array.getD_eq_getD_getElem?,List.getElem?_toArray,List.getElem?_cons_zero,List.getElem?_cons_succ,Option.getD_some];(repeat (refine wpPure_cons _ rfl (fun w'=>by go_simp;try rfl) ?_;dsimp only[Act.put]));refine wpPure_nil ?_;(repeat (any_goals (first | go_big_quiet_step (fail) | quiet_step (fail) | (refine wpQuiet_step (fun K hK=>?_);go_simp;split <;> (refine hK _ ?_;clear hK K)))));(all_goals (refine wpQuiet_nil (fun nq=>?_))))
 have b5:Below w4.heap.size w4 (w4.drewN nq):=below_drewN (Below.refl _ _) nq
 have R5:Hid (SpRow (w4.drewN nq) base sp f.bikes.toNat (upd s.F a ⟨z1,z2,z3,z4⟩)):=Lib.hid (Row.off (X:=fun _=>False) R4.out (Off.of_below b5) (fun _ _ h=>h))
 have O5:=Lib.hid (O4.out.trans (Y:=fun _=>False) (Off.of_below b5) (fun _ _ h=>h.elim))
 have HTR5:=Lib.hid ((b5.block _ (block_lt HTR4.out)).trans HTR4.out)
 have p1:=cell_at HTR5.out 1
 have q1:=free_at HTR5.out 1
 have zp:=szs (block_lt HTR5.out)
 replace y5:=cell_kept b5 y5
 replace t0:=cell_kept b5 t0
 replace t1:=cell_kept b5 t1
 replace t2:=cell_kept b5 t2
 replace t3:=cell_kept b5 t3
 obtain ⟨u0,u1,u2,u3⟩:=R5.out.at HB.out
 have g0:=fun o=>Row.free R5.out o
 have zr:=szs (SpRow.lt R5.out)
 try dsimp only at g0
 clear b5 R4 O4 HTR4 HTR3 c5 zy zt zc
 generalize w4.drewN nq = w5 at *
 generalize upd s.F a ⟨z1,z2,z3,z4⟩ b = y at *
 obtain ⟨yy1,yy2,yy3,yy4⟩:=y
 dsimp only at u0 u1 u2 u3
 have zy:=szs (cell_lt y5)
 have zt:=szs (cell_lt t0)
 dsimp only at zy zt
 have hs1:=HSP.out.1
 have hs4:=HSP.out.2.2.2
 have hs4':¬ sp = P i:=fun e=>hs4 e.symm
 have hs1':¬ sp = w.heap.size:=fun e=>hs1 e.symm
 go_wp2_with fail
 refine onlyN_intro ?_
 go_wp2_with fail
 go_end0
 have E:(((w5.setCell ⟨sp,b * 4,none⟩ (.int .i64 3)).setCell ⟨sp,b * 4+1,none⟩ (.int .i64 0)).setCell ⟨sp,b * 4+2,none⟩ (.int .i64 v9)).setCell ⟨sp,b * 4+3,none⟩ (.bool false) = putCells w5 sp (b * 4) (spv ⟨3,0,v9,false⟩):=rfl
 rw[E]
 have os:=off_spot w5 sp (b * 4) (spv ⟨3,0,v9,false⟩)
 have hr6:=R5.out.put HB.out ⟨3,0,v9,false⟩
 have ht6:=(os.block _ (block_lt HTR5.out) hs4).trans HTR5.out
 clear E y5 t0 t1 t2 t3 u0 u1 u2 u3 g0 zr zy zt p1 q1 zp
 generalize putCells w5 sp (b * 4) (spv ⟨3,0,v9,false⟩) = w6 at *
 have os7:Off (fun q=>q = P i) w6 (w6.setCell ⟨P i,1,none⟩ (.int .i64 (b:Int))):=(Off.refl (fun q=>q = P i) w6).setCell (p:=⟨P i,1,none⟩) (fun _=>rfl) _
 have ht7:(w6.setCell ⟨P i,1,none⟩ (.int .i64 (b:Int))).heap[P i]? = some (.cells #[.int .i64 (s.G i).rider,.int .i64 (b:Int),.bool false] 161 (0,0)):=by
  rw[setCell_at ht6,setAt_same (block_lt ht6)];rfl
 have hr7:SpRow (w6.setCell ⟨P i,1,none⟩ (.int .i64 (b:Int))) base sp f.bikes.toNat (upd (upd s.F a ⟨z1,z2,z3,z4⟩) b ⟨3,0,v9,false⟩):=Row.off hr6 os7 (fun g hg hx=>by
  cases hg
  exact hs4' hx)
 have ho7:Off (fun x=>x = sp∨x = P i) w3 (w6.setCell ⟨P i,1,none⟩ (.int .i64 (b:Int))) :=
  ((O5.out.same os).mono (Y:=fun x=>x = sp∨x = P i) (fun _ _ h=>.inl h)).trans os7 (fun _ _ h=>.inr h)
 obtain ⟨x1',hi,hid,hop,ha,han',_⟩:=HX.out
 rw[HZB.out,←hid] at hr7
 have hCM:=CM.swap (L:=⟨sb,sp,om,um,P⟩) M3.out HI.out HB.out x1' hi hop ha ho7 ht7 hr7
 rw[hid] at hCM
 have hOF:Off (Lay.own ⟨sb,sp,om,um,P⟩ s.k) w (w6.setCell ⟨P i,1,none⟩ (.int .i64 (b:Int))):=(Off.of_below (X:=Lay.own ⟨sb,sp,om,um,P⟩ s.k) B3.out).trans ho7 (fun j _ h=>by
  rcases h with h | h
  ·exact .inl h
  ·exact .inr (.inr (.inr ⟨i,hi,h⟩)))
 rw[HAP.out]
 exact ⟨P,⟨rfl,hCM,hOF⟩,fun i hi=>.inl ⟨hi,rfl⟩⟩
end Go.Proofs.YtdpoppilnokniaaGreatDoor
namespace Go.Proofs.YtdpoppilnokniaaGreatDoor
open Go.RowKit Go.ChangeShapes Go.WideShapes Go.Deep Go.Maps
set_option linter.unusedVariables false
set_option linter.unusedSimpArgs false
theorem infoSp:(Tryz.prog.info? 112).map (fun i=>(i.zero,i.size,i.bytes)) = some (some (.agg #[.int .i64 0,.int .i64 0,.int .i64 0,.bool false]),4,32):=by kernel_rfl
theorem mkSp (n:Nat) (hn:n≤128) (w:World):(Instr.makeSlice 77 (.int .i64 n) (.int .i64 n)).run Tryz.prog w = .ok (.slice (some ⟨w.heap.size,0,none⟩) n n) (w.alloc (.cells (madeCells #[.int .i64 0,.int .i64 0,.int .i64 0,.bool false] (n * 4)) 112)):=by
 obtain ⟨i,hi,h0,h1,h2⟩:=info_parts infoSp
 have:=run_make (P:=Tryz.prog) w 77 112 i _ Tryz.underlying77 hi h0 .i64 .i64 n n (by omega) (by omega) (by rw[h2];omega) (by omega)
 rw[h1,Int.toNat_natCast] at this
 exact this
theorem ownsMap_of_empty {w:World}{b:Nat}(k:TypeId) (R:Value→Option (DataW Unit×List MemPlace)) (h:w.heap[b]? = some (.map #[] 0)):w.ownsMap Tryz.prog k R b 0 (.map []):=by
 obtain ⟨es,clock,hb,r⟩:=World.ownsMap_made (H:=Unit) w Tryz.prog k R
 rw[heap_alloc_new] at hb
 cases hb
 exact ⟨#[],0,h,r⟩
theorem open_empty {w:World}{b:Nat}(P:Nat→Nat) (h:w.heap[b]? = some (.map #[] 0)):OpenM w b 0 startS P :=
 ⟨.map [],ownsMap_of_empty _ _ h,isMap_empty,fun id=>rfl,fun id=>by
  show has (.map []) (.int .i64 id) = decide (0≤(-1:Int))
  rfl⟩
theorem used_empty {w:World}{b:Nat}(h:w.heap[b]? = some (.map #[] 0)):IntSet Tryz.prog 3 4 w b 0 (fun id=>decide (0≤findI startS.G id 0)) :=
 ⟨.map [],ownsMap_of_empty _ _ h,isMap_empty,fun x=>rfl⟩
def spTo (k:Nat):Nat→Sp:=fun j=>if j < k then ⟨5,0,0,false⟩ else ⟨0,0,0,false⟩
theorem spTo_next (k:Nat) (j:Nat):upd (spTo k) k ⟨5,0,0,false⟩ j = spTo (k+1) j:=by
 unfold upd spTo
 by_cases h:j = k
 ·subst h;simp
 ·rw[if_neg h]
  by_cases h2:j < k
  ·rw[if_pos h2,if_pos (by omega)]
  ·rw[if_neg h2,if_neg (by omega)]
theorem SpRow.shop {w:World}{base b n k:Nat}(h:SpRow w base b n (spTo k)) (hk:k < n):SpRow (w.setCell ⟨b,k * 4,none⟩ (.int .i64 5)) base b n (spTo (k+1)):=by
 have h1:=Row.store h (fun _=>rfl) hk (show 0 < 4 by decide) (.int .i64 5)
 rw[Nat.add_zero] at h1
 refine Row.congr h1 (fun j _=>?_)
 by_cases hj:j = k
 ·subst hj
  rw[upd_same]
  simp [spv,spTo]
 ·rw[upd_ne hj]
  show spv (spTo k j) = spv (spTo (k+1) j)
  rw[←spTo_next k j,upd_ne hj]
structure BegM (w0:World) (f:Fl) (sb sp om um n k:Nat) (wr:World):Prop where
 m0:wr.heap[sb]? = some (.cells #[.int .i64 (n:Int),.int .i64 f.riders,.int .i64 f.devs,.slice f.ad f.nd f.cd,.slice f.a2 f.nt f.ct,.slice (some ⟨sp,0,none⟩) n n,.map (some om),.map (some um)] 148 (0,0))
 rows:SpRow wr w0.heap.size sp n (spTo k)
 mo:wr.heap[om]? = some (.map #[] 0)
 mu:wr.heap[um]? = some (.map #[] 0)
 hb:Below w0.heap.size w0 wr
theorem BegM.next {w0:World}{f:Fl}{sb sp om um n k:Nat}{wr:World}(h:BegM w0 f sb sp om um n k wr) (h1:sb ≠ sp) (h2:om ≠ sp) (h3:um ≠ sp) (hk:k < n):BegM w0 f sb sp om um n (k+1) (wr.setCell ⟨sp,k * 4,none⟩ (.int .i64 5)):=by
 have ho:Off (fun q=>q = sp) wr (wr.setCell ⟨sp,k * 4,none⟩ (.int .i64 5)):=(Off.refl (fun q=>q = sp) wr).setCell (p:=⟨sp,k * 4,none⟩) (fun _=>rfl) _
 have hsp:=(World.ownsRow.lt h.rows sp rfl).1
 exact ⟨(ho.block _ (block_lt h.m0) h1).trans h.m0,h.rows.shop hk,(ho.block _ (block_lt h.mo) h2).trans h.mo,(ho.block _ (block_lt h.mu) h3).trans h.mu,h.hb.trans (ho.toBelow h.hb.size (fun q hq hx=>by omega))⟩
set_option maxRecDepth 8000 in
set_option maxHeartbeats 8000000 in
theorem begin56 (f:Fl) (w:World) (h1:1≤f.bikes) (h2:f.bikes≤128) :
  Calls Tryz.prog 56 #[.agg f.cells] w fun e w'=>∃ L,e = .returned (.pointer (some ⟨L.sb,0,none⟩))∧CM w.heap.size w'.heap.size f L startS w'∧Below w.heap.size w w':=by
 obtain ⟨n,hn⟩:=Int.eq_ofNat_of_zero_le (show 0≤f.bikes by omega)
 have hn1:n≤128:=by omega
 have hn0:f.bikes.toNat = n:=by omega
 have B0:Hid (Below w.heap.size w (w.alloc (.cells f.cells 24))):=Lib.hid (by (repeat' (first | with_reducible (first | exact Below.refl _ _ | assumption | refine Below.drew ?_ | refine below_drewN ?_ _ | refine Below.alloc ?_ ?_ _ | refine Below.setCell ?_ ?_ _) | go_size)))
 have X0:Hid ((w.alloc (.cells f.cells 24)).heap[w.heap.size]? = some (.cells f.cells 24 (0,0))):=Lib.hid (heap_alloc_new w _)
 obtain ⟨w1,hw1⟩:∃ w1,w1 = w.alloc (.cells f.cells 24):=⟨_,rfl⟩
 rw[←hw1] at B0 X0
 have HW1:=Lib.hid hw1
 have hM:=mkSp n hn1
 obtain ⟨M,hm⟩:∃ M,M = madeCells #[.int .i64 0,.int .i64 0,.int .i64 0,.bool false] (n * 4):=⟨_,rfl⟩
 rw[←hm] at hM
 have HM:=Lib.hid hm
 have HFC:Hid (f.cells = #[.int .i64 (n:Int),.int .i64 f.riders,.int .i64 f.devs,.slice f.ad f.nd f.cd,.slice f.a2 f.nt f.ct]):=Lib.hid (by unfold Fl.cells;rw[hn])
 have HN:=Lib.hid hn
 have HN0:=Lib.hid hn0
 clear hw1 hm hn h1 h2 hn0
 have hmm:=@run_makeMap Tryz.prog
 rw[HFC.out] at X0 HW1 ⊢
 have x0:=cell_at X0.out 0
 have x1:=cell_at X0.out 1
 have x2:=cell_at X0.out 2
 have x3:=cell_at X0.out 3
 have x4:=cell_at X0.out 4
 have zx:=szs (block_lt X0.out)
 go_enter Tryz.func56,Tryz.ntmps56
 go_wp2_with fail
 rw[←HW1.out]
 (obtain ⟨ι,hne,Fw,fb,hF⟩:=grow_family w1);have hF:∀ w',(gPlan w1 (fun _=>undef) [] [] []).D () w'→∃ i,w' = Fw i:=hF
 have f0:=fun i=>cell_kept (fb i) x0
 have f1:=fun i=>cell_kept (fb i) x1
 have f2:=fun i=>cell_kept (fb i) x2
 have f3:=fun i=>cell_kept (fb i) x3
 have f4:=fun i=>cell_kept (fb i) x4
 refine region_chain (gPlan w1 (fun _=>undef) [] [(3,fun b=>.slice (some ⟨b,0,none⟩) n n,.cells M 112),(4,fun b=>.map (some b),.map #[] 0),(5,fun b=>.map (some b),.map #[] 0)] []) () [] [0,1,2,3,4,5,6] [7,8] mixed (by kernel_rfl) (by kernel_rfl) (gPlan_ok (by simp) (by simp)) (gPlan_start _ _ _ _ _) ?_
 refine wpPure_nil ?_
 simp only[List.map_cons,List.map_nil,Array.getD_eq_getD_getElem?,List.getElem?_toArray,List.getElem?_cons_zero,List.getElem?_cons_succ,Option.getD_some]
 (repeat (refine wpChain_quiet hF rfl rfl rfl ?_;intro K hK;go_big_quiet_op;go_big_quiet_on))
 (refine wpChain_alloc _ _ rfl (List.mem_cons_self ..) rfl (fun w'=>by go_simp) (fun q3 hq3=>?_);simp only[Act.put,List.setIfInBounds_toArray,List.set_cons_succ,List.set_cons_zero])
 (refine wpChain_alloc _ _ rfl (List.mem_cons_of_mem _ (List.mem_cons_self ..)) rfl (fun w'=>by go_simp) (fun q4 hq4=>?_);simp only[Act.put,List.setIfInBounds_toArray,List.set_cons_succ,List.set_cons_zero])
 (refine wpChain_alloc _ _ rfl (List.mem_cons_of_mem _ (List.mem_cons_of_mem _ (List.mem_cons_self ..))) rfl (fun w'=>by go_simp) (fun q5 hq5=>?_);simp only[Act.put,List.setIfInBounds_toArray,List.set_cons_succ,List.set_cons_zero])
 (repeat (first | (refine wpChain_skip rfl ?_;simp only[Act.put,List.setIfInBounds_toArray,List.set_cons_succ,List.set_cons_zero]) | (refine wpChain_quiet hF rfl rfl rfl ?_;intro K hK;go_big_quiet_op;go_big_quiet_on) | (refine wpChain_pure _ rfl rfl (fun w' _=>by go_simp;try rfl) ?_;simp only[Act.put,List.setIfInBounds_toArray,List.set_cons_succ,List.set_cons_zero])))
 refine wpChain_nil (fun w4 hb4 hl4=>?_)
 have hx3:w4.heap[q3]? = some (.cells M 112):=(hl4.2 (3,q3,.cells M 112) (by simp)).2
 have hx4:w4.heap[q4]? = some (.map #[] 0):=(hl4.2 (4,q4,.map #[] 0) (by simp)).2
 have hx5:w4.heap[q5]? = some (.map #[] 0):=(hl4.2 (5,q5,.map #[] 0) (by simp)).2
 have g3:w1.heap.size≤q3:=(hl4.2 (3,q3,.cells M 112) (by simp)).1
 have g4:w1.heap.size≤q4:=(hl4.2 (4,q4,.map #[] 0) (by simp)).1
 have g5:w1.heap.size≤q5:=(hl4.2 (5,q5,.map #[] 0) (by simp)).1
 have n34:q3 ≠ q4:=hq4 (3,q3,.cells M 112) (by simp)
 have n35:q3 ≠ q5:=hq5 (3,q3,.cells M 112) (by simp)
 have n45:q4 ≠ q5:=hq5 (4,q4,.map #[] 0) (by simp)
 have hb4':Below w1.heap.size w1 w4:=hb4
 have B4:=Lib.hid (B0.out.trans (hb4'.mono B0.out.size))
 have hs0:=B0.out.size
 have z3:=block_lt hx3
 have z4:=block_lt hx4
 have z5:=block_lt hx5
 rw[HM.out] at hx3
 have hrow:SpRow w4 w.heap.size q3 n (spTo 0):=Row.congr (Row.of_made rfl (by decide) hx3 (by omega) (by unfold maxLen;omega)) (fun j _=>rfl)
 have BG:Hid (BegM w f w4.heap.size q3 q4 q5 n 0 (w4.alloc (.cells #[.int .i64 (n:Int),.int .i64 f.riders,.int .i64 f.devs,.slice f.ad f.nd f.cd,.slice f.a2 f.nt f.ct,.slice (some ⟨q3,0,none⟩) n n,.map (some q4),.map (some q5)] 148))):=Lib.hid (by
  have bb:Below w4.heap.size w4 (w4.alloc (.cells #[.int .i64 (n:Int),.int .i64 f.riders,.int .i64 f.devs,.slice f.ad f.nd f.cd,.slice f.a2 f.nt f.ct,.slice (some ⟨q3,0,none⟩) n n,.map (some q4),.map (some q5)] 148)):=by (repeat' (first | with_reducible (first | exact Below.refl _ _ | assumption | refine Below.drew ?_ | refine below_drewN ?_ _ | refine Below.alloc ?_ ?_ _ | refine Below.setCell ?_ ?_ _) | go_size))
  exact ⟨heap_alloc_new w4 _,Row.off (X:=fun _=>False) hrow (Off.of_below bb) (fun _ _ h=>h),(bb.block _ z4).trans hx4,(bb.block _ z5).trans hx5,B4.out.trans (bb.mono B4.out.size)⟩)
 have HNE:=Lib.hid (And.intro n34 (And.intro n35 (And.intro n45 (And.intro z3 (And.intro z4 (And.intro z5 (And.intro (show w.heap.size≤q3 by omega) (And.intro (show w.heap.size≤q4 by omega) (show w.heap.size≤q5 by omega)))))))))
 have HS4:Hid (w.heap.size≤w4.heap.size):=Lib.hid B4.out.size
 clear hx3 hx4 hx5 g3 g4 g5 n34 n35 n45 hb4 hb4' hl4 hF fb hne f0 f1 f2 f3 f4 hq3 hq4 hq5 x0 x1 x2 x3 x4 zx hs0 z3 z4 z5 hrow B4 hM hmm B0 X0 HM
 go_wp2_with fail
 refine onlyN_intro ?_
 have c5:=cell_at BG.out.m0 5
 have zc:=szs (block_lt BG.out.m0)
 generalize hsb:w4.heap.size = sb at *
 generalize World.alloc w4 _ = w5 at *
 go_wp2_with fail
 go_loopw [18] (fun s18 wr=>∃ k:Nat,s18 = .int .i64 k∧k≤n∧Hid (BegM w f sb q3 q4 q5 n k wr)) (fun s18 _=>n - (intOf s18).toNat)
 case atStart=>exact ⟨0,rfl,by omega,BG⟩
 case round =>
  obtain ⟨k,rfl,hk,hB⟩:=hrel
  have BK:=hB
  clear hB c5 zc BG
  have c5:=cell_at BK.out.m0 5
  have zc:=szs (block_lt BK.out.m0)
  by_cases hlt:k < n
  ·have tk:(k:Int) < (n:Int):=by omega
   obtain ⟨a0,a1,a2,a3⟩:=BK.out.rows.at hlt
   have g0:=fun o=>Row.free BK.out.rows o
   have zr:=szs (SpRow.lt BK.out.rows)
   obtain ⟨m1,m2,m3,m4,m5,m6,m7,m8,m9⟩:=HNE.out
   have BN:=Lib.hid (BK.out.next (by omega) (by omega) (by omega) hlt)
   clear m1 m2 m3 m4 m5 m6 m7 m8 m9
   go_wp2_with fail
   go_roundw
   case rel=>exact ⟨k+1,by go_num,by omega,BN⟩
   case measure=>simp [intOf];omega
  ·obtain rfl:k = n:=by omega
   go_wp2_with fail
   go_returns
   obtain ⟨m1,m2,m3,m4,m5,m6,m7,m8,m9⟩:=HNE.out
   have hs4:=HS4.out
   have zsb:=zc.1
   refine ⟨⟨sb,q3,q4,q5,fun _=>0⟩,rfl,⟨?_,?_,open_empty _ BK.out.mo,used_empty BK.out.mu,fun i hi=>absurd hi (by simp [startS]),⟨hs4,m7,m8,m9⟩,⟨zsb,?_,?_,?_⟩,⟨?_,?_,?_,m1,m2,m3⟩,fun i hi=>absurd hi (by simp [startS]),fun i j hi=>absurd hi (by simp [startS]),Nat.le_refl _⟩,BK.out.hb⟩
   ·rw[HN0.out,HN.out];exact BK.out.m0
   ·rw[HN0.out]
    exact Row.congr BK.out.rows (fun j hj=>by show spv (spTo k j) = _;unfold spTo;rw[if_pos hj];rfl)
   ·dsimp only;omega
   ·dsimp only;omega
   ·dsimp only;omega
   ·dsimp only;omega
   ·dsimp only;omega
   ·dsimp only;omega
end Go.Proofs.YtdpoppilnokniaaGreatDoor
namespace Go.Proofs.YtdpoppilnokniaaGreatDoor
open Go.RowKit Go.ChangeShapes Go.WideShapes Go.Deep Go.Maps
set_option linter.unusedVariables false
set_option linter.unusedSimpArgs false
theorem CM.raise {base lo lo':Nat}{f:Fl}{L:Lay}{w:World}(h:CM base lo f L startS w) (h1:lo≤lo') (h2:lo'≤w.heap.size):CM base lo' f L startS w:=by
 obtain ⟨a1,a2,a3,a4⟩:=h.l0
 exact ⟨h.m0,h.rows,h.opn,h.used,h.trip,h.b0,⟨by omega,by omega,by omega,by omega⟩,h.ne,fun i hi=>absurd hi (by simp [startS]),h.pd,h2⟩
def runK (f:Fl) (l:List Ev) (k:Nat):CSt×List Ev:=(l.take k).foldl (stepE f) (startS,[])
theorem runK_zero (f:Fl) (l:List Ev):runK f l 0 = (startS,[]):=rfl
theorem runK_next {f:Fl}{R:Nat→Ev}{m k:Nat}(h:k < m):runK f (ents R m) (k+1) = stepE f (runK f (ents R m) k) (R k):=by
 unfold runK
 rw[List.take_add_one,ents_get h]
 show (((ents R m).take k) ++ [R k]).foldl _ _ = _
 rw[List.foldl_append];rfl
theorem runK_all {f:Fl}{l:List Ev}{m:Nat}(h:l.length = m):runK f l m = l.foldl (stepE f) (startS,[]):=by
 unfold runK;rw[List.take_of_length_le (by omega)]
theorem step_k (f:Fl) (a:CSt×List Ev) (e:Ev):(stepE f a e).1.k≤a.1.k+1:=by
 unfold stepE
 split
 ·unfold applyK putS
  repeat' split
  all_goals (first | (dsimp only;omega) | omega)
 ·omega
theorem putS_id (s:CSt) (b:Nat) (x:Sp) (i:Nat):((putS s b x).G i).id = (s.G i).id:=by
 unfold putS
 dsimp only
 split
 ·unfold upd
  split
  ·rename_i h;rw[h]
  ·rfl
 ·rfl
theorem apply_id {s:CSt}{e:Ev}{i:Nat}(h:i < (applyK s e).k):(i < s.k∧((applyK s e).G i).id = (s.G i).id)∨((applyK s e).G i).id = e.ride:=by
 by_cases k1:e.kind = 1
 ·have E:applyK s e = putS s e.bike.toNat ⟨1,e.place,0,false⟩:=by unfold applyK;rw[if_pos k1]
  rw[E] at h ⊢;exact .inl ⟨h,putS_id ..⟩
 by_cases k2:e.kind = 2
 ·have E:applyK s e = putS s e.bike.toNat ⟨2,e.place,0,false⟩:=by unfold applyK;rw[if_neg k1,if_pos k2]
  rw[E] at h ⊢;exact .inl ⟨h,putS_id ..⟩
 by_cases k7:e.kind = 7
 ·have E:applyK s e = putS s e.bike.toNat ⟨4,e.place,0,false⟩:=by unfold applyK;rw[if_neg k1,if_neg k2,if_pos k7]
  rw[E] at h ⊢;exact .inl ⟨h,putS_id ..⟩
 by_cases k8:e.kind = 8
 ·have E:applyK s e = putS s e.bike.toNat ⟨5,0,0,false⟩:=by unfold applyK;rw[if_neg k1,if_neg k2,if_neg k7,if_pos k8]
  rw[E] at h ⊢;exact .inl ⟨h,putS_id ..⟩
 by_cases k9:e.kind = 9
 ·have E:applyK s e = putS s e.bike.toNat ⟨6,0,0,false⟩:=by unfold applyK;rw[if_neg k1,if_neg k2,if_neg k7,if_neg k8,if_pos k9]
  rw[E] at h ⊢;exact .inl ⟨h,putS_id ..⟩
 unfold applyK at h ⊢
 rw[if_neg k1,if_neg k2,if_neg k7,if_neg k8,if_neg k9] at h ⊢
 by_cases k3:e.kind = 3
 ·rw[if_pos k3] at h ⊢
  dsimp only at h ⊢
  unfold upd
  split
  ·exact .inr rfl
  ·rename_i hi
   have h:i < s.k+1:=h
   exact .inl ⟨by omega,rfl⟩
 rw[if_neg k3] at h ⊢
 by_cases k4:e.kind = 4
 ·rw[if_pos k4] at h ⊢
  dsimp only at h ⊢
  refine .inl ⟨h,?_⟩
  unfold upd
  split
  ·rename_i hi;rw[hi]
  ·rfl
 rw[if_neg k4] at h ⊢
 by_cases k5:e.kind = 5
 ·rw[if_pos k5] at h ⊢;exact .inl ⟨h,rfl⟩
 rw[if_neg k5] at h ⊢
 by_cases k6:e.kind = 6
 ·rw[if_pos k6] at h ⊢;exact .inl ⟨h,rfl⟩
 rw[if_neg k6] at h ⊢
 exact .inl ⟨h,rfl⟩
theorem step_wf {f:Fl}{a:CSt×List Ev}{e:Ev}(h:∀ i,i < a.1.k→(Lit.int .i64 (a.1.G i).id).wf = true) (he:(Lit.int .i64 e.ride).wf = true):∀ i,i < (stepE f a e).1.k→(Lit.int .i64 ((stepE f a e).1.G i).id).wf = true:=by
 intro i hi
 unfold stepE at hi ⊢
 split
 ·rename_i hh
  rw[if_pos hh] at hi
  dsimp only at hi ⊢
  rcases apply_id hi with ⟨h1,h2⟩ | h2
  ·rw[h2];exact h i h1
  ·rw[h2];exact he
 ·rename_i hh
  rw[if_neg hh] at hi
  exact h i hi
end Go.Proofs.YtdpoppilnokniaaGreatDoor
namespace Go.Proofs.YtdpoppilnokniaaGreatDoor
open Go.RowKit Go.ChangeShapes Go.WideShapes Go.Deep Go.Maps
set_option linter.unusedVariables false
set_option linter.unusedSimpArgs false
def RunE (f:Fl) (l:List Ev) (w:World) (e:Ending) (w':World):Prop :=
 Below w.heap.size w w'∧((fleetE f ≠ 0∧e = .returned (.tuple #[.pointer none,.int .i64 (fleetE f)])) ∨
  (fleetE f = 0∧∃ (L:Lay) (base lo:Nat),w.heap.size≤base∧e = .returned (.tuple #[.pointer (some ⟨L.sb,0,none⟩),.int .i64 0])∧CM base lo f L (runE f l).1 w'))
theorem set_in {l:List Ev}(h:∀ e∈l,inN e):∀ e∈setE l,inN e:=fun e he=>h e (((isSet_setE l).2 e).1 he).1
theorem setE_run {f:Fl}{l:List Ev}{R:Nat→Ev}{m:Nat}(h:ents R m = setE l):runK f (ents R m) m = runE f l:=by
 rw[runK_all (by rw[ents_len]),h];rfl
theorem Below.of_own {base lo:Nat}{f:Fl}{L:Lay}{s:CSt}{w0 w w':World}(h:CM base lo f L s w) (hb:Below base w0 w) (hlo:base≤lo) (ho:Off (L.own s.k) w w') (hbs:base≤w.heap.size):Below base w0 w':=by
 refine hb.trans (ho.toBelow hbs (fun b hb hx=>?_))
 obtain ⟨b1,b2,b3,b4⟩:=h.b0
 rcases hx with e | e | e | ⟨i,hi,e⟩
 ·omega
 ·omega
 ·omega
 ·have:=(h.pl i hi).1;omega
structure RunH (f:Fl) (a:CSt×List Ev) (k:Nat):Prop where
 inv:Inv f.bikes.toNat a.1
 wf:∀ i,i < a.1.k→(Lit.int .i64 (a.1.G i).id).wf = true
 few:a.1.k≤k
theorem RunH.zero (f:Fl) (l:List Ev):RunH f (runK f l 0) 0:=by
 refine ⟨?_,?_,?_⟩ <;> rw[runK_zero]
 ·exact Inv.start _
 ·exact fun i hi=>absurd hi (by simp [startS])
 ·simp [startS]
theorem RunH.next {f:Fl}{R:Nat→Ev}{m k:Nat}(h:RunH f (runK f (ents R m) k) k) (hk:k < m) (hin:inN (R k)):RunH f (runK f (ents R m) (k+1)) (k+1):=by
 refine ⟨?_,?_,?_⟩ <;> rw[runK_next hk]
 ·exact h.inv.stepE _
 ·exact step_wf h.wf (WalkArith.wf_i64 (hin _ (by simp [nums])))
 ·have:=step_k f (runK f (ents R m) k) (R k)
  have:=h.few
  omega
end Go.Proofs.YtdpoppilnokniaaGreatDoor
