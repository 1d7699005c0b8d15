/- Theorems of this seat. -/
import Derived.Test.YtdpoppilnokniaaGreatDoorWCTX
import Derived.Test.YtdpoppilnokniaaGreatDoorWKC
import Derived.Test.YtdpoppilnokniaaGreatDoorWST8
import Derived.Shelf.SlSortCmp.NoneTotal
import Derived.BigQuiet
import Derived.WalkLawsBesides
import Derived.BigRegion
namespace Go.Proofs.YtdpoppilnokniaaGreatDoor
open Go.RowKit Go.ChangeShapes Go.WideShapes Go.Deep Go.Maps
set_option linter.unusedVariables false
set_option linter.unusedSimpArgs false
theorem ents_snoc {α:Type}(f:Nat→α) (n:Nat):ents f (n+1) = ents f n ++ [f n]:=by simp [ents,List.range_succ]
def seenR (F:Nat→Rid) (G:Nat→Nat) (k:Int×Int) (j:Nat):Nat:=(ents (fun i=>F (G i)) j).countP (fun y=>(y.op == false) && (keyR y == k))
theorem seen_next (F:Nat→Rid) (G:Nat→Nat) (k:Int×Int) (j:Nat):seenR F G k (j+1) = seenR F G k j+(if (F (G j)).op = false∧keyR (F (G j)) = k then 1 else 0):=by
 unfold seenR
 rw[ents_snoc,List.countP_append]
 congr 1
 simp [List.countP_cons]
theorem seen_rank {F:Nat→Rid}{G:Nat→Nat}{n:Nat}(hp:(ents G n).Perm (List.range n)) (hs:∀ i j,i < j→j < n→befR (F (G j)) (F (G i)) = false) (hi:∀ i j,i < j→j < n→(F i).id ≠ (F j).id) {j:Nat}(hj:j < n) :
  seenR F G (keyR (F (G j))) j = rankR (ents F n) (F (G j)):=by
 have hnd:(ents G n).Nodup:=hp.nodup_iff.2 List.nodup_range
 have hlt:∀ i,i < n→G i < n:=fun i hi=>List.mem_range.1 (hp.mem_iff.1 (mem_ents.2 ⟨i,hi,rfl⟩))
 have hne:∀ i l,i < l→l < n→G i ≠ G l:=fun i l hil hl e=>by
  have:=List.pairwise_iff_getElem.1 hnd i l (by rw[ents_len];omega) (by rw[ents_len];omega) hil
  simp only[ents,List.getElem_map,List.getElem_range] at this
  exact this e
 have hids:∀ a b,a < n→b < n→a ≠ b→(F a).id ≠ (F b).id:=fun a b ha hb hab=>by
  rcases Nat.lt_or_gt_of_ne hab with q | q
  ·exact hi a b q hb
  ·exact fun e=>hi b a q ha e.symm
 have hperm:(ents (fun i=>F (G i)) n).Perm (ents F n):=by
  have:=hp.map F
  simp only[ents,List.map_map] at this
  exact this
 unfold rankR
 rw[←hperm.countP_eq]
 have key:∀ m,j+m≤n→(ents (fun i=>F (G i)) (j+m)).countP (fun y=>(y.op == false) && (keyR y == keyR (F (G j))) && befR y (F (G j))) = seenR F G (keyR (F (G j))) j:=by
  intro m
  induction m with
  | zero =>
   intro _
   unfold seenR
   refine List.countP_congr (fun y hy=>?_)
   obtain ⟨i,hij,rfl⟩:=mem_ents.1 hy
   have hb:befR (F (G i)) (F (G j)) = true:=by
    rcases befR_tot (x:=F (G i)) (y:=F (G j)) (hids _ _ (hlt i (by omega)) (hlt j hj) (hne i j hij hj)) with b | b
    ·exact b
    ·rw[hs i j hij hj] at b;cases b
   rw[hb,Bool.and_true]
  | succ m ih =>
   intro hm
   have hf:befR (F (G (j+m))) (F (G j)) = false:=by
    rcases Nat.eq_zero_or_pos m with q | q
    ·subst q;exact befR_irr _
    ·exact hs j (j+m) (by omega) (by omega)
   rw[←Nat.add_assoc,ents_snoc,List.countP_append,ih (by omega)]
   simp [List.countP_cons,hf]
 have:=key (n - j) (by omega)
 rw[show j+(n - j) = n by omega] at this
 exact this.symm
def takenR (F:Nat→Rid) (G:Nat→Nat) (each:Int) (k:Int×Int) (j:Nat):Int:=min each (seenR F G k j)
theorem taken_lt {F:Nat→Rid}{G:Nat→Nat}{each:Int}{k:Int×Int}{j:Nat}:takenR F G each k j < each↔(seenR F G k j:Int) < each:=by unfold takenR;omega
theorem perm_ne {G:Nat→Nat}{n:Nat}(hp:(ents G n).Perm (List.range n)) {i l:Nat}(hil:i < l) (hl:l < n):G i ≠ G l:=fun e=>by
 have hnd:(ents G n).Nodup:=hp.nodup_iff.2 List.nodup_range
 have:=List.pairwise_iff_getElem.1 hnd i l (by rw[ents_len];omega) (by rw[ents_len];omega) hil
 simp only[ents,List.getElem_map,List.getElem_range] at this
 exact this e
end Go.Proofs.YtdpoppilnokniaaGreatDoor
namespace Go.Proofs.YtdpoppilnokniaaGreatDoor
open Go.RowKit Go.ChangeShapes Go.WideShapes Go.Deep Go.Maps
set_option linter.unusedVariables false
set_option linter.unusedSimpArgs false
set_option linter.unnecessarySimpa false
theorem mkBo (n:Nat) (hn:n≤1000) (w:World):(Instr.makeSlice 38 (.int .i64 n) (.int .i64 n)).run Tryz.prog w = .ok (.slice (some ⟨w.heap.size,0,none⟩) n n) (w.alloc (.cells (madeCells #[.bool false] (n * 1)) 4)):=by
 obtain ⟨i,hi,h0,h1,h2⟩:=info_parts infoBo
 have:=run_make (P:=Tryz.prog) w 38 4 i _ Tryz.underlying38 hi h0 .i64 .i64 n n (by omega) (by omega) (by rw[h2];omega) (by omega)
 rw[h1,Int.toNat_natCast] at this
 exact this
theorem sortNone50 (p:Option Addr) (c:Nat) (fv:Value) (w:World):Calls Tryz.prog 50 #[.slice p 0 c,fv] w fun e w'=>e = .returned (.tuple #[])∧w' = w :=
 (AnyF.slices_SortFunc_none { sort50 with } p c fv w).mono fun _ _ h=>h
theorem sortAny50 (ao:Option Addr) (n c q:Nat) (F:Nat→Rid) (w:World) (h:Sl w 13 ao n c (fun i=>rds (F i))) (hq:w.heap[q]? = some (.cells #[.slice ao n c] 32 (0,0))) (base b c2:Nat) (hn:n≤1000)
  (hao:∀ a,ao = some a→a.block < base) (hqb:q < base) (hR:Row w base 3 1 (.slice (some ⟨b,0,none⟩) n c2) n (nuR (fun i=>(i:Int)))) :
  Calls Tryz.prog 50 #[.slice (some ⟨b,0,none⟩) n c2,.func (.func 51) #[] #[.pointer (some ⟨q,0,none⟩)]] w fun e w'=>e = .returned (.tuple #[])∧∃ G:Nat→Nat,(ents G n).Perm (List.range n)∧(∀ i j,i < j→j < n→befR (F (G j)) (F (G i)) = false) ∧
   Row w' base 3 1 (.slice (some ⟨b,0,none⟩) n c2) n (nuR (fun i=>(G i:Int)))∧Off (fun k=>k = b) w w':=by
 rcases Nat.eq_zero_or_pos n with h0 | h0
 ·subst h0
  refine (sortNone50 _ c2 _ w).mono ?_
  rintro e w' ⟨rfl,rfl⟩
  exact ⟨rfl,fun i=>i,List.Perm.refl _,fun i j _ hj=>absurd hj (Nat.not_lt_zero _),hR,Off.refl _ _⟩
 ·exact sortIdx50 ao n c q F w h hq base b c2 h0 hn hao hqb hR
def upTo (i:Nat):Nat→Int:=fun k=>if k < i then (k:Int) else 0
structure CtM (w:World) (ao:Option Addr) (n c:Nat) (F:Nat→Rid) (G:Nat→Nat) (each:Int) (qo qb qm j:Nat) (wr:World) (B:Nat→Bool) (T:Value→Int) (es:Array MapEntry) (clock:Nat):Prop where
 bel:Below w.heap.size w wr
 hdr:wr.heap[w.heap.size]? = some (.cells #[.slice ao n c] 32 (0,0))
 ord:Row wr (w.heap.size+1) 3 1 (.slice (some ⟨qo,0,none⟩) n n) n (nuR (fun i=>(G i:Int)))
 out:Row wr (w.heap.size+1) 4 1 (.slice (some ⟨qb,0,none⟩) n n) n (boR B)
 map:CntMap Tryz.prog 48 wr qm j T es clock
 sep:qo ≠ qb∧qo ≠ qm∧qb ≠ qm∧w.heap.size < qm
 inv:∀ a b:Int,T (.agg #[.int .i64 a,.int .i64 b]) = takenR F G each (a,b) j
 yes:∀ l,l < j→B (G l) = cntR (ents F n) each (F (G l))
 no:∀ i,(∀ l,l < j→G l ≠ i)→B i = false
section
variable {w:World} {ao:Option Addr} {n c:Nat} {F:Nat→Rid} {G:Nat→Nat} {each:Int} {qo qb qm j:Nat} {wr:World} {B:Nat→Bool} {T:Value→Int} {es:Array MapEntry} {clock:Nat}
theorem CtM.skip (h:CtM w ao n c F G each qo qb qm j wr B T es clock) (hp:(ents G n).Perm (List.range n)) (hs:∀ i j,i < j→j < n→befR (F (G j)) (F (G i)) = false) (hi:∀ i j,i < j→j < n→(F i).id ≠ (F j).id) (hj:j < n)
  (hc:cntR (ents F n) each (F (G j)) = false):CtM w ao n c F G each qo qb qm (j+1) wr B T es clock :=
 {h with
  map:={ h.map with few:=Nat.le_succ_of_le h.map.few }
  inv:=fun a b=>by
   rw[h.inv a b]
   unfold takenR
   rw[seen_next]
   by_cases e:(F (G j)).op = false∧keyR (F (G j)) = (a,b)
   ·rw[if_pos e,←e.2,seen_rank hp hs hi hj]
    unfold cntR at hc
    rw[e.1] at hc
    have:=of_decide_eq_false (by simpa using hc:decide ((rankR (ents F n) (F (G j)):Int) < each) = false)
    omega
   ·rw[if_neg e];simp
  yes:=fun l hl=>by
   by_cases e:l = j
   ·subst e;rw[hc];exact h.no _ (fun l' hl'=>perm_ne hp hl' hj)
   ·exact h.yes l (by omega)
  no:=fun i hno=>h.no i (fun l hl=>hno l (by omega)) }
theorem CtM.hit (h:CtM w ao n c F G each qo qb qm j wr B T es clock) (hp:(ents G n).Perm (List.range n)) (hs:∀ i j,i < j→j < n→befR (F (G j)) (F (G i)) = false) (hi:∀ i j,i < j→j < n→(F i).id ≠ (F j).id) (hj:j < n)
  (hc:cntR (ents F n) each (F (G j)) = true) {w':World} (hbel:Below w.heap.size w w') (hhdr:w'.heap[w.heap.size]? = some (.cells #[.slice ao n c] 32 (0,0))) (hord:Row w' (w.heap.size+1) 3 1 (.slice (some ⟨qo,0,none⟩) n n) n (nuR (fun i=>(G i:Int))))
  (hout:Row w' (w.heap.size+1) 4 1 (.slice (some ⟨qb,0,none⟩) n n) n (boR (upd B (G j) true))) {T':Value→Int} {es':Array MapEntry} {clock':Nat} (hmap:CntMap Tryz.prog 48 w' qm (j+1) T' es' clock')
  (hT:T' (.agg #[.int .i64 (keyR (F (G j))).1,.int .i64 (keyR (F (G j))).2]) = T (.agg #[.int .i64 (keyR (F (G j))).1,.int .i64 (keyR (F (G j))).2])+1) (hT2:∀ z,z ≠ .agg #[.int .i64 (keyR (F (G j))).1,.int .i64 (keyR (F (G j))).2]→T' z = T z) :
  CtM w ao n c F G each qo qb qm (j+1) w' (upd B (G j) true) T' es' clock' :=
 {bel:=hbel,hdr:=hhdr,ord:=hord,out:=hout,map:=hmap,sep:=h.sep
  inv:=fun a b=>by
   unfold cntR at hc
   simp only[Bool.and_eq_true,beq_iff_eq,decide_eq_true_eq] at hc
   by_cases e:keyR (F (G j)) = (a,b)
   ·rw[e] at hT
    dsimp only at hT
    rw[hT,h.inv a b]
    unfold takenR
    rw[seen_next,if_pos ⟨hc.1,e⟩,←e,seen_rank hp hs hi hj]
    omega
   ·rw[hT2 _ (fun e2=>e (by simp at e2;exact Prod.ext e2.1.symm e2.2.symm)),h.inv a b]
    unfold takenR
    rw[seen_next,if_neg (fun q=>e q.2)]
    simp
  yes:=fun l hl=>by
   by_cases e:l = j
   ·subst e;rw[upd_same,hc]
   ·rw[upd_ne (perm_ne hp (show l < j by omega) hj)];exact h.yes l (by omega)
  no:=fun i hno=>by
   rw[upd_ne (fun e=>hno j (Nat.lt_succ_self j) e.symm)]
   exact h.no i (fun l hl=>hno l (by omega)) }
end
set_option maxRecDepth 8000 in
set_option maxHeartbeats 16000000 in
theorem counted29 (ao:Option Addr) (n c:Nat) (F:Nat→Rid) (L:Nat→Nat→Leg) (Q:Nat→Nat→Pau) (each:Int) (w:World) (h:RdsIn w ao n c F L Q) (hok:RdsOk n each F L Q) (hao:∀ a,ao = some a→a.block < w.heap.size) :
  Calls Tryz.prog 29 #[.slice ao n c,.int .i64 each] w fun e w'=>∃ v B,e = .returned v∧Row w' w.heap.size 4 1 v n (boR B)∧(∀ i,i < n→B i = cntR (ents F n) each (F i))∧Below w.heap.size w w':=by
 have hn:n≤1000:=by have:=hok.few;omega
 have hlc:=h.row.hc
 have hlm:=h.row.hm
 have B0:Hid (Below w.heap.size w (w.alloc (.cells #[.slice ao n c] 32))):=Lib.hid (by (repeat' (first | with_reducible (first | exact Below.refl _ _ | assumption | refine Below.drew ?_ | refine below_drewN ?_ _ | refine Below.alloc ?_ ?_ _ | refine Below.setCell ?_ ?_ _) | go_size)))
 have X0:=Lib.hid (al_at w (.cells #[.slice ao n c] 32) rfl)
 obtain ⟨w1,hw1⟩:∃ w1,w1 = w.alloc (.cells #[.slice ao n c] 32):=⟨_,rfl⟩
 rw[←hw1] at B0 X0
 have HW1:=Lib.hid hw1
 have hMI:=mkIn n hn w1
 have BM:Hid (Below w1.heap.size w1 (w1.alloc (.cells (madeCells #[.int .i64 0] (n * 1)) 3))):=Lib.hid (by (repeat' (first | with_reducible (first | exact Below.refl _ _ | assumption | refine Below.drew ?_ | refine below_drewN ?_ _ | refine Below.alloc ?_ ?_ _ | refine Below.setCell ?_ ?_ _) | go_size)))
 have XM:=Lib.hid (al_at w1 (.cells (madeCells #[.int .i64 0] (n * 1)) 3) rfl)
 obtain ⟨w2,hw2⟩:∃ w2,w2 = w1.alloc (.cells (madeCells #[.int .i64 0] (n * 1)) 3):=⟨_,rfl⟩
 rw[←hw2] at BM XM
 obtain ⟨MI,hmi⟩:∃ MI,MI = madeCells #[.int .i64 0] (n * 1):=⟨_,rfl⟩
 rw[←hmi] at hMI hw2 XM
 have HW2:=Lib.hid hw2
 have HMI:=Lib.hid hmi
 obtain ⟨qo,hqo⟩:∃ qo,qo = w1.heap.size:=⟨_,rfl⟩
 rw[←hqo] at XM
 have HQO:=Lib.hid hqo
 have H:=Lib.hid h
 have HOK:=Lib.hid hok
 have HAO:=Lib.hid hao
 have hq1:w.heap.size < qo:=by rw[hqo];exact block_lt X0.out
 have hRow:Row w2 (w.heap.size+1) 3 1 (.slice (some ⟨qo,0,none⟩) n n) n (nuR (upTo 0)):=by
  have hx:=XM.out
  rw[HMI.out] at hx
  refine Row.congr (Row.of_made rfl (by decide) hx (by omega) (by unfold maxLen;omega)) (fun j _=>?_)
  show _ = [Value.int .i64 (upTo 0 j)]
  unfold upTo
  rw[if_neg (by omega)]
 have HL0:Hid (Row w2 (w.heap.size+1) 3 1 (.slice (some ⟨qo,0,none⟩) n n) n (nuR (upTo 0))∧w2.heap[w.heap.size]? = some (.cells #[.slice ao n c] 32 (0,0))∧Below w.heap.size w w2):=Lib.hid ⟨hRow,(BM.out.block _ (block_lt X0.out)).trans X0.out,B0.out.trans (BM.out.mono B0.out.size)⟩
 clear hw1 hw2 hmi hqo h hok hao hRow BM XM B0
 have x0:=cell_at X0.out 0
 have zx:=szs (block_lt X0.out)
 go_enter Tryz.func29,Tryz.ntmps29
 go_simp
 ((repeat ((fail_if_success (rw[←HW1.out]));go_step));rw[←HW1.out])
 go_simp
 ((repeat ((fail_if_success (rw[←HW2.out]));go_step));rw[←HW2.out])
 rw[←HQO.out]
 clear x0 zx X0 HW1 HW2 HQO hMI HMI MI
 go_wp2_with fail
 go_loopw [18] (fun s wr=>∃ i:Nat,s = .int .i64 i∧i≤n∧Hid (Row wr (w.heap.size+1) 3 1 (.slice (some ⟨qo,0,none⟩) n n) n (nuR (upTo i))∧wr.heap[w.heap.size]? = some (.cells #[.slice ao n c] 32 (0,0))∧Below w.heap.size w wr)) (fun s _=>n - (intOf s).toNat)
 case atStart=>exact ⟨0,rfl,Nat.zero_le _,HL0⟩
 case round =>
  obtain ⟨i,rfl,hi,hrel⟩:=hrel
  have HL:=hrel
  clear hrel HL0
  by_cases hlt:i < n
  ·have t1:decide ((i:Int) < (n:Int)) = true:=decide_eq_true (by omega)
   have t1n:decide (i < n) = true:=decide_eq_true (by omega)
   have hiI:(i:Int) < (n:Int):=by omega
   have u0:wr.cell? ⟨qo,i * 1+0,none⟩ = some (.int .i64 (upTo i i)):=Row.cell HL.out.1 (fun i=>rfl) hlt (j:=0) (by decide)
   rw[Nat.mul_one,Nat.add_zero] at u0
   have fr:=fun i=>Row.free HL.out.1 i
   have hB:=World.ownsRow.lt HL.out.1 qo rfl
   have zq:=szs hB.2
   have O1:Off (fun q=>q = qo) wr (wr.setCell ⟨qo,i,none⟩ (.int .i64 (i:Int))):=off_set
   have HN:Hid (Row (wr.setCell ⟨qo,i,none⟩ (.int .i64 (i:Int))) (w.heap.size+1) 3 1 (.slice (some ⟨qo,0,none⟩) n n) n (nuR (upTo (i+1)))∧(wr.setCell ⟨qo,i,none⟩ (.int .i64 (i:Int))).heap[w.heap.size]? = some (.cells #[.slice ao n c] 32 (0,0))∧Below w.heap.size w (wr.setCell ⟨qo,i,none⟩ (.int .i64 (i:Int)))):=Lib.hid ⟨by
     have h1:=Row.store HL.out.1 (fun i=>rfl) hlt (j:=0) (by decide) (.int .i64 (i:Int))
     rw[Nat.mul_one,Nat.add_zero] at h1
     refine Row.congr h1 (fun j _=>?_)
     show _ = [Value.int .i64 (upTo (i+1) j)]
     by_cases e:j = i
     ·subst e;rw[upd_same];unfold upTo;rw[if_pos (by omega)];rfl
     ·rw[upd_ne e];unfold nuR upTo;by_cases q:j < i
      ·rw[if_pos q,if_pos (by omega)]
      ·rw[if_neg q,if_neg (by omega)],(O1.block _ (block_lt HL.out.2.1) (fun e=>by have e:w.heap.size = qo:=e;omega)).trans HL.out.2.1,HL.out.2.2.trans (O1.toBelow HL.out.2.2.size (fun q hq e=>by have e:q = qo:=e;omega))⟩
   clear hB O1 HL
   go_wp2_with fail
   go_roundw
   case rel=>exact ⟨i+1,by go_num,by omega,HN⟩
   case measure=>simp [intOf] <;> omega
  ·have t1:decide ((i:Int) < (n:Int)) = false:=decide_eq_false (by omega)
   have t1n:decide (i < n) = false:=decide_eq_false (by omega)
   obtain rfl:i = n:=by omega
   go_wp2_with fail
   have hfin:Row wr (w.heap.size+1) 3 1 (.slice (some ⟨qo,0,none⟩) i i) i (nuR (fun k=>(k:Int))):=Row.congr HL.out.1 (fun j hj=>by
    show [Value.int .i64 (upTo i j)] = [Value.int .i64 (j:Int)]
    unfold upTo;rw[if_pos hj])
   refine (sortAny50 ao i c w.heap.size F wr (H.out.row.below HL.out.2.2) HL.out.2.1 (w.heap.size+1) qo i hn (fun a ha=>by have:=HAO.out a ha;omega) (Nat.lt_succ_self _) hfin).mono ?_
   rintro e w3 ⟨rfl,G,hp,hsort,hr3,ho3⟩
   have HP:=Lib.hid (And.intro hp hsort)
   have X3:=Lib.hid ((ho3.block _ (block_lt HL.out.2.1) (fun e=>by have e:w.heap.size = qo:=e;omega)).trans HL.out.2.1)
   have R3:=Lib.hid hr3
   have B3:=Lib.hid (HL.out.2.2.trans (ho3.toBelow HL.out.2.2.size (fun q hq e=>by have e:q = qo:=e;omega)))
   clear hp hsort hr3 ho3 hfin HL hlt t1 t1n
   have hMB:=mkBo i hn w3
   have hmm:=@run_makeMap Tryz.prog
   obtain ⟨MB,hmb⟩:∃ MB,MB = madeCells #[.bool false] (i * 1):=⟨_,rfl⟩
   rw[←hmb] at hMB
   have BB:Hid (Below w3.heap.size w3 (w3.alloc (.cells MB 4))):=Lib.hid (by (repeat' (first | with_reducible (first | exact Below.refl _ _ | assumption | refine Below.drew ?_ | refine below_drewN ?_ _ | refine Below.alloc ?_ ?_ _ | refine Below.setCell ?_ ?_ _) | go_size)))
   have XB:=Lib.hid (al_at w3 (.cells MB 4) rfl)
   obtain ⟨wb,hwb⟩:∃ wb,wb = w3.alloc (.cells MB 4):=⟨_,rfl⟩
   rw[←hwb] at BB XB hMB
   have HWB:=Lib.hid hwb
   obtain ⟨qb,hqb⟩:∃ qb,qb = w3.heap.size:=⟨_,rfl⟩
   rw[←hqb] at XB hMB
   have HQB:=Lib.hid hqb
   have BM:Hid (Below wb.heap.size wb (wb.alloc (.map #[] 0))):=Lib.hid (by (repeat' (first | with_reducible (first | exact Below.refl _ _ | assumption | refine Below.drew ?_ | refine below_drewN ?_ _ | refine Below.alloc ?_ ?_ _ | refine Below.setCell ?_ ?_ _) | go_size)))
   have SM:=Lib.hid (CntMap.made Tryz.prog 48 wb)
   obtain ⟨wm,hwm⟩:∃ wm,wm = wb.alloc (.map #[] 0):=⟨_,rfl⟩
   rw[←hwm] at BM SM
   have HWM:=Lib.hid hwm
   obtain ⟨qm,hqm⟩:∃ qm,qm = wb.heap.size:=⟨_,rfl⟩
   rw[←hqm] at SM
   have HQM:=Lib.hid hqm
   have CM0:Hid (CtM w ao i c F G each qo qb qm 0 wm (fun _=>false) (fun _=>0) #[] 0):=Lib.hid (by
    have hx:=XB.out
    rw[hmb] at hx
    have hqoB:=(World.ownsRow.lt R3.out qo rfl).2
    have hqbB:=block_lt XB.out
    have hqw:w.heap.size < w3.heap.size:=block_lt X3.out
    have bo:Below w3.heap.size w3 wm:=BB.out.trans (BM.out.mono BB.out.size)
    refine ⟨B3.out.trans (bo.mono B3.out.size),(bo.block _ (block_lt X3.out)).trans X3.out,Row.off (X:=fun _=>False) R3.out (Off.of_below bo) (fun _ _ h=>h),?_,SM.out,⟨by omega,by omega,by omega,by omega⟩,fun a b=>?_,fun l hl=>absurd hl (Nat.not_lt_zero _),fun i _=>rfl⟩
    ·refine Row.off (X:=fun _=>False) (Row.congr (Row.of_made rfl (by decide) hx (by omega) (by unfold maxLen;omega)) (fun j _=>rfl)) (Off.of_below BM.out) (fun _ _ h=>h)
    ·unfold takenR seenR
     have:=HOK.out.each.1
     simp [ents]
     omega)
   clear hmb hwb hqb hwm hqm BB XB BM SM
   have x0:=cell_at X3.out 0
   have zx:=szs (block_lt X3.out)
   go_wp2_with fail
   rw[←HWM.out,←HQM.out]
   clear x0 zx X3 HWM HQM HWB HQB hMB hmm B3 R3
   go_loopw [35] (fun s wr=>∃ (j:Nat) (B:Nat→Bool) (T:Value→Int) (es:Array MapEntry) (clock:Nat),s = .int .i64 j∧j≤i∧Hid (CtM w ao i c F G each qo qb qm j wr B T es clock)) (fun s _=>i - (intOf s).toNat)
   case atStart=>exact ⟨0,_,_,_,_,rfl,Nat.zero_le _,CM0⟩
   case round =>
    obtain ⟨j,B,T,es,clock,rfl,hj,hrel⟩:=hrel
    have HM:=hrel
    clear hrel CM0
    by_cases hlt:j < i
    ·have t1:decide ((j:Int) < (i:Int)) = true:=decide_eq_true (by omega)
     have t1n:decide (j < i) = true:=decide_eq_true (by omega)
     have u0:wr.cell? ⟨qo,j * 1+0,none⟩ = some (.int .i64 (G j:Int)):=Row.cell HM.out.ord (fun i=>rfl) hlt (j:=0) (by decide)
     rw[Nat.mul_one,Nat.add_zero] at u0
     have zo:=szs (World.ownsRow.lt HM.out.ord qo rfl).2
     have hkn:G j < i:=List.mem_range.1 (HP.out.1.mem_iff.1 (mem_ents.2 ⟨j,hlt,rfl⟩))
     obtain ⟨kk,hkk⟩:∃ kk,kk = G j:=⟨_,rfl⟩
     rw[←hkk] at u0 hkn
     have HKK:=Lib.hid hkk
     have hkI:(kk:Int) < (i:Int):=by omega
     obtain ⟨g,o,e9,hcell⟩:=(H.out.row.below HM.out.bel).cell hkn
     try dsimp only at e9 hcell
     subst e9
     have hhd:=chk_head (HOK.out.chk kk hkn)
     obtain ⟨y,hy⟩:∃ y,y = F kk:=⟨_,rfl⟩
     rw[←hy] at hcell hhd
     have HY:=Lib.hid hy
     clear hy hkk
     obtain ⟨a1,a2,a3,a4,a5,a6,a7,a8,a9,a10,a11,a12,a13,a14,a15,a16,a17⟩:=y
     try dsimp only at hhd
     have x0:=cell_at HM.out.hdr 0
     have zx:=szs (block_lt HM.out.hdr)
     have e0:wr.cell? ⟨g,o+kk * 13,none⟩ = some (.int .i64 a1):=hcell 0 (by decide)
     have e1:wr.cell? ⟨g,o+kk * 13+1,none⟩ = some (.int .i64 a2):=hcell 1 (by decide)
     have e2:wr.cell? ⟨g,o+kk * 13+2,none⟩ = some (.int .i64 a3):=hcell 2 (by decide)
     have e3:wr.cell? ⟨g,o+kk * 13+3,none⟩ = some (.int .i64 a4):=hcell 3 (by decide)
     have e4:wr.cell? ⟨g,o+kk * 13+4,none⟩ = some (.int .i64 a5):=hcell 4 (by decide)
     have e5:wr.cell? ⟨g,o+kk * 13+5,none⟩ = some (.int .i64 a6):=hcell 5 (by decide)
     have e6:wr.cell? ⟨g,o+kk * 13+6,none⟩ = some (.bool a7):=hcell 6 (by decide)
     have e7:wr.cell? ⟨g,o+kk * 13+7,none⟩ = some (.slice a8 a9 a10):=hcell 7 (by decide)
     have e8:wr.cell? ⟨g,o+kk * 13+8,none⟩ = some (.slice a11 a12 a13):=hcell 8 (by decide)
     have e9':wr.cell? ⟨g,o+kk * 13+9,none⟩ = some (.int .i64 a14):=hcell 9 (by decide)
     have e10:wr.cell? ⟨g,o+kk * 13+10,none⟩ = some (.int .i64 a15):=hcell 10 (by decide)
     have e11:wr.cell? ⟨g,o+kk * 13+11,none⟩ = some (.int .i64 a16):=hcell 11 (by decide)
     have e12:wr.cell? ⟨g,o+kk * 13+12,none⟩ = some (.int .i64 a17):=hcell 12 (by decide)
     have zg:=szs (cell_lt e0)
     have BN:Hid (Below wr.heap.size wr (wr.alloc (.cells #[.int .i64 a1,.int .i64 a2,.int .i64 a3,.int .i64 a4,.int .i64 a5,.int .i64 a6,.bool a7,.slice a8 a9 a10,.slice a11 a12 a13,.int .i64 a14,.int .i64 a15,.int .i64 a16,.int .i64 a17] 71))):=Lib.hid (by (repeat' (first | with_reducible (first | exact Below.refl _ _ | assumption | refine Below.drew ?_ | refine below_drewN ?_ _ | refine Below.alloc ?_ ?_ _ | refine Below.setCell ?_ ?_ _) | go_size)))
     have XN:=Lib.hid (al_at wr (.cells #[.int .i64 a1,.int .i64 a2,.int .i64 a3,.int .i64 a4,.int .i64 a5,.int .i64 a6,.bool a7,.slice a8 a9 a10,.slice a11 a12 a13,.int .i64 a14,.int .i64 a15,.int .i64 a16,.int .i64 a17] 71) rfl)
     obtain ⟨wn,hwn⟩:∃ wn,wn = wr.alloc (.cells #[.int .i64 a1,.int .i64 a2,.int .i64 a3,.int .i64 a4,.int .i64 a5,.int .i64 a6,.bool a7,.slice a8 a9 a10,.slice a11 a12 a13,.int .i64 a14,.int .i64 a15,.int .i64 a16,.int .i64 a17] 71):=⟨_,rfl⟩
     rw[←hwn] at BN XN
     have HWN:=Lib.hid hwn
     clear hwn hcell
     go_simp
     ((repeat ((fail_if_success (rw[←HWN.out]));go_step));rw[←HWN.out])
     clear e0 e1 e2 e3 e4 e5 e6 e7 e8 e9' e10 e11 e12 zg HWN u0 zo x0 zx
     have n1:=cell_at XN.out 1
     have n2:=cell_at XN.out 2
     have n4:=cell_at XN.out 6
     have zn:=szs (block_lt XN.out)
     have hd0:a3.tdiv 86400 = a3 / 86400:=Int.tdiv_eq_ediv_of_nonneg (by omega)
     obtain ⟨dy,hdy⟩:∃ dy,dy = a3 / 86400:=⟨_,rfl⟩
     have hdb:0≤dy∧dy≤4294943999:=by rw[hdy];omega
     have HD:Hid (a3.tdiv 86400 = dy):=Lib.hid (by rw[hd0,hdy])
     have HDY:=Lib.hid hdy
     obtain ⟨kl,hkl⟩:=key48 a2 dy (WalkArith.wf_i64 ⟨by omega,by omega⟩) (WalkArith.wf_i64 ⟨by omega,by omega⟩)
     have BK:Hid (Below wn.heap.size wn (wn.alloc (.cells #[.int .i64 a2,.int .i64 dy] 48))):=Lib.hid (by (repeat' (first | with_reducible (first | exact Below.refl _ _ | assumption | refine Below.drew ?_ | refine below_drewN ?_ _ | refine Below.alloc ?_ ?_ _ | refine Below.setCell ?_ ?_ _) | go_size)))
     have XK:=Lib.hid (al_at wn (.cells #[.int .i64 a2,.int .i64 dy] 48) rfl)
     obtain ⟨wk,hwk⟩:∃ wk,wk = wn.alloc (.cells #[.int .i64 a2,.int .i64 dy] 48):=⟨_,rfl⟩
     rw[←hwk] at BK XK
     have HWK:=Lib.hid hwk
     have bnk:Below wr.heap.size wr wk:=BN.out.trans (BK.out.mono BN.out.size)
     obtain ⟨qk,hqk⟩:∃ qk,qk = wn.heap.size:=⟨_,rfl⟩
     rw[←hqk] at XK
     have HQK:=Lib.hid hqk
     have nqk:w.heap.size < qk∧qb < qk∧qm < qk:=by
      have h1:=(World.ownsRow.lt HM.out.out qb rfl).2
      have h2:=block_lt HM.out.map.block
      have h3:=BN.out.size
      have h4:=block_lt HM.out.hdr
      rw[hqk];omega
         -- nothing but new memory so far
     have HMK:Hid (CtM w (some ⟨g,o,none⟩) i c F G each qo qb qm j wk B T es clock):=Lib.hid ⟨HM.out.bel.trans (bnk.mono HM.out.bel.size),(bnk.block _ (block_lt HM.out.hdr)).trans HM.out.hdr,Row.off (X:=fun _=>False) HM.out.ord (Off.of_below bnk) (fun _ _ h=>h),Row.off (X:=fun _=>False) HM.out.out (Off.of_below bnk) (fun _ _ h=>h),HM.out.map.keep (bnk.block _ (block_lt HM.out.map.block)),HM.out.sep,HM.out.inv,HM.out.yes,HM.out.no⟩
     have k4:=cell_kept BK.out n4
     try dsimp only at k4
     have zn2:=szs (Nat.lt_of_lt_of_le zn.1 BK.out.size)
     clear hd0 hdy hwk hqk bnk
     have HWK2:Hid (wk = wn.alloc (.cells #[.int .i64 a2,.int .i64 (a3 / 86400)] 48)):=Lib.hid (by rw[←HDY.out];exact HWK.out)
     ((repeat ((fail_if_success (rw[←HWK2.out]));go_step));rw[←HWK2.out])
     rw[←HDY.out,←HQK.out]
     clear n1 n2 n4 zn HWK HWK2 HDY HQK BN XN BK HM
     have y0:=cell_at XK.out 0
     have y1:=cell_at XK.out 1
     have zk:=szs (block_lt XK.out)
     cases a7
     ·have hl:=HMK.out.map.look arr48.law Tryz.underlying125 zero3b hkl
      have hti:=HMK.out.inv a2 dy
      obtain ⟨tv,htv⟩:∃ tv,tv = T (.agg #[.int .i64 a2,.int .i64 dy]):=⟨_,rfl⟩
      rw[←htv] at hl hti
      have HTV:=Lib.hid htv
      have HTI:=Lib.hid hti
      clear htv hti
      by_cases hlt2:tv < each
      ·have u1:decide (tv < each) = true:=decide_eq_true hlt2
       have hgj:Hid (G j = kk):=Lib.hid HKK.out.symm
       have htb:0≤tv∧tv≤256:=by
        have h1:=HTI.out
        have h2:=HOK.out.each
        unfold takenR at h1
        omega
       have hc:Hid (cntR (ents F i) each (F (G j)) = true):=Lib.hid (by
        unfold cntR
        have h1:=HTI.out
        have h2:keyR (F (G j)) = (a2,dy):=by rw[hgj.out,←HY.out];show (a2,a3.tdiv 86400) = _;rw[HD.out]
        have h3:(F (G j)).op = false:=by rw[hgj.out,←HY.out]
        rw[h3,←seen_rank HP.out.1 HP.out.2 HOK.out.ids hlt,h2]
        have h4:(seenR F G (a2,dy) j:Int) < each:=taken_lt.1 (by rw[←h1];exact hlt2)
        simp [h4])
       have v0:wk.cell? ⟨qb,kk * 1+0,none⟩ = some (.bool (B kk)):=Row.cell HMK.out.out (fun i=>rfl) hkn (j:=0) (by decide)
       rw[Nat.mul_one,Nat.add_zero] at v0
       have frb:=fun i=>Row.free HMK.out.out i
       have hbB:=World.ownsRow.lt HMK.out.out qb rfl
       have zb:=szs hbB.2
       have hsep:=HMK.out.sep
       have O5:Off (fun q=>q = qb) wk (wk.setCell ⟨qb,kk,none⟩ (.bool true)):=off_set
       have M5:=HMK.out.map.keep (O5.block _ (block_lt HMK.out.map.block) (fun e=>hsep.2.2.1 (by have e:qm = qb:=e;exact e.symm)))
       have R5:Row (wk.setCell ⟨qb,kk,none⟩ (.bool true)) (w.heap.size+1) 4 1 (.slice (some ⟨qb,0,none⟩) i i) i (boR (upd B (G j) true)):=by
        have h1:=Row.store HMK.out.out (fun i=>rfl) hkn (j:=0) (by decide) (.bool true)
        rw[Nat.mul_one,Nat.add_zero] at h1
        refine Row.congr h1 (fun l _=>?_)
        show _ = [Value.bool (upd B (G j) true l)]
        rw[hgj.out]
        by_cases e:l = kk
        ·subst e;rw[upd_same,upd_same];rfl
        ·rw[upd_ne e,upd_ne e];rfl
       have D5:=Row.off HMK.out.ord O5 (fun q hq e=>hsep.1 (by have e:q = qb:=e;have h1:qo = q:=(by simpa [Value.ownBlock] using hq);omega))
       have H5:=(O5.block _ (block_lt HMK.out.hdr) (fun e=>by have e:w.heap.size = qb:=e;omega)).trans HMK.out.hdr
       have K5:=(O5.block _ (block_lt XK.out) (fun e=>by have e:qk = qb:=e;omega)).trans XK.out
       have B5:=HMK.out.bel.trans (O5.toBelow HMK.out.bel.size (fun q hq e=>by have e:q = qb:=e;omega))
       obtain ⟨w5,hw5⟩:∃ w5,w5 = wk.setCell ⟨qb,kk,none⟩ (.bool true):=⟨_,rfl⟩
       rw[←hw5] at M5 R5 D5 H5 K5 B5
       have HW5:=Lib.hid hw5
       obtain ⟨T',hT1,hT2⟩:∃ T':Value→Int,T' (.agg #[.int .i64 a2,.int .i64 dy]) = tv+1∧∀ z,z ≠ .agg #[.int .i64 a2,.int .i64 dy]→T' z = T z:=by
        classical
        exact ⟨fun z=>if z = .agg #[.int .i64 a2,.int .i64 dy] then tv+1 else T z,by simp,fun z hz=>by simp [hz]⟩
       obtain ⟨st,es1,clock1,hme,hlk,hst⟩:=M5.bump arr48.law Tryz.underlying125 zero3b hkl (tv+1) hT1 hT2
       rw[←HTV.out] at hme hlk
       have HST:=Lib.hid hst
       have HLK:=Lib.hid hlk
       have HME:=Lib.hid hme
       have HT:=Lib.hid (And.intro hT1 hT2)
       have HM5:=Lib.hid M5
       have HR5:=Lib.hid (And.intro R5 (And.intro D5 (And.intro H5 B5)))
       have XK5:=Lib.hid K5
       have hqkm:qm ≠ qk:=by omega
       have hkI2:(kk:Int) < (i:Int):=by omega
       clear hw5 M5 R5 D5 H5 K5 B5 O5 hT1 hT2 hme hlk hst hbB hlt2
       go_wp2_with fail
       rw[←HW5.out]
       clear v0 frb zb y0 y1 zk HW5 hl k4 zn2
       have y0:=cell_at XK5.out 0
       have y1:=cell_at XK5.out 1
       try dsimp only at y0 y1
       (obtain ⟨ι,hne,Fw,fb,hF⟩:=cfamily w5 (qm) (.map es1 clock1));have hF:∀ s w',(mPlan w5 (qm) (.map es1 clock1) 4 (.tuple #[.int .i64 tv,goInt st])).D s w'→∃ i,w' = Fw i:=fun _ w h=>hF w h
       have fy0:=fun i=>cell_kept_but (fb i) (a:=⟨qk,0,none⟩) hqkm y0
       have fy1:=fun i=>cell_kept_but (fb i) (a:=⟨qk,1,none⟩) hqkm y1
       have fl:∀ i,(Instr.lookup 125 (.map (some qm)) (.agg #[.int .i64 a2,.int .i64 dy]) false).run Tryz.prog (Fw i) = .ok (.int .i64 tv) (Fw i):=fun i=>by
        obtain ⟨s,hs⟩:=fb i
        have hlt5:=block_lt HM5.out.block
        have hb5:=hs.block qm hlt5
        cases s
        ·have h1:=(HM5.out.keep hb5).look arr48.law Tryz.underlying125 zero3b hkl
         rw[←HTV.out] at h1
         exact h1
        ·exact HLK.out (Fw i) (hb5.trans (setAt_same hlt5))
       clear y0 y1
       (refine region_chainO (mPlan w5 (qm) (.map es1 clock1) 4 (.tuple #[.int .i64 tv,goInt st])) false [] [0,1,2,3,4,5] [6] mixed (by kernel_rfl) (by kernel_rfl) (fun _ _ h=>nomatch h) mPlan_ok mPlan_start ?_;refine wpPure_nil ?_;simp only[List.map_cons,List.map_nil,Array.getD_eq_getD_getElem?,List.getElem?_toArray,List.getElem?_cons_zero,List.getElem?_cons_succ,Option.getD_some])
       (repeat (first | (refine wpChainO_skip rfl ?_;simp only[Act.put,List.setIfInBounds_toArray,List.set_cons_succ,List.set_cons_zero]) | (refine wpChainO_quiet (hF _) rfl rfl rfl ?_;intro K hK;go_big_quiet_op;go_big_quiet_on) | (refine wpChainO_pure _ rfl rfl (fun w' _=>by go_simp;try rfl) ?_;simp only[Act.put,List.setIfInBounds_toArray,List.set_cons_succ,List.set_cons_zero])))
       refine wpChainO_pure (.int .i64 tv) rfl rfl (fun w' hw'=>?_) ?_
       ·obtain ⟨i0,rfl⟩:=hF _ w' hw'
        have e:=fl i0
        go_simp
        try rw[e]
        try rfl
       simp only[Act.put,List.setIfInBounds_toArray,List.set_cons_succ,List.set_cons_zero]
       (repeat (first | (refine wpChainO_skip rfl ?_;simp only[Act.put,List.setIfInBounds_toArray,List.set_cons_succ,List.set_cons_zero]) | (refine wpChainO_quiet (hF _) rfl rfl rfl ?_;intro K hK;go_big_quiet_op;go_big_quiet_on) | (refine wpChainO_pure _ rfl rfl (fun w' _=>by go_simp;try rfl) ?_;simp only[Act.put,List.setIfInBounds_toArray,List.set_cons_succ,List.set_cons_zero])))
       refine wpChainO_mentry (.map es clock) HM5.out.block rfl rfl (fun w' hw'=>?_) ?_
       ·have e:=HME.out w' hw'
        go_simp
        rfl
       ·simp only[Act.put,List.setIfInBounds_toArray,List.set_cons_succ,List.set_cons_zero]
        (repeat (first | (refine wpChainO_skip rfl ?_;simp only[Act.put,List.setIfInBounds_toArray,List.set_cons_succ,List.set_cons_zero]) | (refine wpChainO_quiet (hF _) rfl rfl rfl ?_;intro K hK;go_big_quiet_op;go_big_quiet_on) | (refine wpChainO_pure _ rfl rfl (fun w' _=>by go_simp;try rfl) ?_;simp only[Act.put,List.setIfInBounds_toArray,List.set_cons_succ,List.set_cons_zero])))
        refine wpChainO_nil (fun w6 hb6 hl6=>?_)
        have hlt6:=block_lt HM5.out.block
        have hb6':Below w5.heap.size (setAt w5 qm (.map es1 clock1)) w6:=hb6
        have hm6:w6.heap[qm]? = some (.map es1 clock1):=(hb6'.block qm hlt6).trans (setAt_same hlt6)
        obtain ⟨es',clock',hrun,hC⟩:=HST.out w6 hm6
        have HC:=Lib.hid hC
        clear hC
        have O6:Off (fun q=>q = qm) w5 (ChangeMaps.setBlock w6 qm (.map es' clock')) :=
         (off_setAt (w:=w5) (b:=qm) (o:=.map es1 clock1)).same ((Off.of_below (hb6'.mono (Nat.le_of_eq (setAt_size)))).same (off_setAt (w:=w6) (b:=qm) (o:=.map es' clock')))
        have HIT:Hid (CtM w (some ⟨g,o,none⟩) i c F G each qo qb qm (j+1) (ChangeMaps.setBlock w6 qm (.map es' clock')) (upd B (G j) true) T' es' clock'):=Lib.hid (by
         have hs:=HMK.out.sep
         have hk2:keyR (F (G j)) = (a2,dy):=by rw[hgj.out,←HY.out];show (a2,a3.tdiv 86400) = _;rw[HD.out]
         refine CtM.hit HMK.out HP.out.1 HP.out.2 HOK.out.ids hlt hc.out ?_ ?_ ?_ ?_ (by have h1:=HC.out;exact h1) ?_ ?_
         ·exact HR5.out.2.2.2.trans (O6.toBelow HR5.out.2.2.2.size (fun q hq e=>by have e:q = qm:=e;omega))
         ·exact (O6.block _ (block_lt HR5.out.2.2.1) (fun e=>by have e:w.heap.size = qm:=e;omega)).trans HR5.out.2.2.1
         ·exact Row.off HR5.out.2.1 O6 (fun q hq e=>hs.2.1 (by have e:q = qm:=e;have h1:qo = q:=(by simpa [Value.ownBlock] using hq);omega))
         ·exact Row.off HR5.out.1 O6 (fun q hq e=>hs.2.2.1 (by have e:q = qm:=e;have h1:qb = q:=(by simpa [Value.ownBlock] using hq);omega))
         ·rw[hk2];rw[←HTV.out];exact HT.out.1
         ·rw[hk2];exact HT.out.2)
        simp only[goInt] at hrun
        go_wp2_with fail
        generalize ChangeMaps.setBlock w6 qm (.map es' clock') = w7 at *
        clear hrun O6 hb6' hb6 hm6 hlt6 hl6 fy0 fy1 fl fb hF
        refine onlyN_intro ?_
        go_wp2_with fail
        go_roundw
        case rel=>first | (first | exact ⟨_,_,_,_,⟨j+1,by go_num,by omega,upd B (G j) true,T',es',clock',HIT⟩,_,_,_,_,_,_,_,_,_,_,_,_,_,_,_,_,_,_,_,_,_,_,_,_,_,_,_,_,_,_,_,_,_,_,rfl⟩ | exact ⟨_,_,_,_,⟨j+1,by go_num,by omega,upd B (G j) true,T',es',clock',HIT⟩,rfl⟩ | exact ⟨_,_,_,_,⟨j+1,by go_num,by omega,upd B (G j) true,T',es',clock',HIT⟩,rfl,rfl⟩ | exact ⟨_,_,_,_,⟨j+1,by go_num,by omega,upd B (G j) true,T',es',clock',HIT⟩,rfl,rfl,rfl⟩ | exact ⟨_,_,_,_,⟨j+1,by go_num,by omega,upd B (G j) true,T',es',clock',HIT⟩,rfl,rfl,rfl,rfl⟩ | exact ⟨_,_,_,_,⟨j+1,by go_num,by omega,upd B (G j) true,T',es',clock',HIT⟩,rfl,rfl,rfl,rfl,rfl⟩ | exact ⟨_,_,_,_,⟨j+1,by go_num,by omega,upd B (G j) true,T',es',clock',HIT⟩,rfl,rfl,rfl,rfl,rfl,rfl⟩ | exact ⟨_,_,_,_,⟨j+1,by go_num,by omega,upd B (G j) true,T',es',clock',HIT⟩,rfl,rfl,rfl,rfl,rfl,rfl,rfl⟩ | exact ⟨_,_,_,_,⟨j+1,by go_num,by omega,upd B (G j) true,T',es',clock',HIT⟩,rfl,rfl,rfl,rfl,rfl,rfl,rfl,rfl⟩) | trace_state
        case measure=>simp [intOf] <;> omega
      ·have u1:decide (tv < each) = false:=decide_eq_false hlt2
       have HSK:Hid (CtM w (some ⟨g,o,none⟩) i c F G each qo qb qm (j+1) wk B T es clock):=Lib.hid (CtM.skip HMK.out HP.out.1 HP.out.2 HOK.out.ids hlt (by
        unfold cntR
        have h1:=HTI.out
        have h2:keyR (F (G j)) = (a2,dy):=by rw[←HKK.out,←HY.out];show (a2,a3.tdiv 86400) = _;rw[HD.out]
        have h3:(F (G j)).op = false:=by rw[←HKK.out,←HY.out]
        rw[h3,←seen_rank HP.out.1 HP.out.2 HOK.out.ids hlt,h2]
        have h4:¬ (seenR F G (a2,dy) j:Int) < each:=fun q=>hlt2 (by rw[h1];exact taken_lt.2 q)
        simp [h4]))
       clear HMK
       go_wp2_with fail
       go_roundw
       case rel=>exact ⟨_,_,_,_,⟨j+1,by go_num,by omega,B,T,es,clock,HSK⟩,rfl,rfl,rfl,rfl⟩
       case measure=>simp [intOf] <;> omega
     ·have HSK:Hid (CtM w (some ⟨g,o,none⟩) i c F G each qo qb qm (j+1) wk B T es clock):=Lib.hid (CtM.skip HMK.out HP.out.1 HP.out.2 HOK.out.ids hlt (by
       unfold cntR
       have h3:(F (G j)).op = true:=by rw[←HKK.out,←HY.out]
       rw[h3];rfl))
      clear HMK
      go_wp2_with fail
      go_roundw
      case rel=>(first | exact ⟨_,_,_,_,⟨j+1,by go_num,by omega,B,T,es,clock,HSK⟩,_,_,_,_,_,_,_,_,_,_,_,_,_,_,_,_,_,_,_,_,_,_,_,_,_,_,_,_,_,_,_,_,_,_,rfl⟩ | exact ⟨_,_,_,_,⟨j+1,by go_num,by omega,B,T,es,clock,HSK⟩,rfl⟩ | exact ⟨_,_,_,_,⟨j+1,by go_num,by omega,B,T,es,clock,HSK⟩,rfl,rfl⟩ | exact ⟨_,_,_,_,⟨j+1,by go_num,by omega,B,T,es,clock,HSK⟩,rfl,rfl,rfl⟩ | exact ⟨_,_,_,_,⟨j+1,by go_num,by omega,B,T,es,clock,HSK⟩,rfl,rfl,rfl,rfl⟩ | exact ⟨_,_,_,_,⟨j+1,by go_num,by omega,B,T,es,clock,HSK⟩,rfl,rfl,rfl,rfl,rfl⟩ | exact ⟨_,_,_,_,⟨j+1,by go_num,by omega,B,T,es,clock,HSK⟩,rfl,rfl,rfl,rfl,rfl,rfl⟩ | exact ⟨_,_,_,_,⟨j+1,by go_num,by omega,B,T,es,clock,HSK⟩,rfl,rfl,rfl,rfl,rfl,rfl,rfl⟩ | exact ⟨_,_,_,_,⟨j+1,by go_num,by omega,B,T,es,clock,HSK⟩,rfl,rfl,rfl,rfl,rfl,rfl,rfl,rfl⟩)
      case measure=>simp [intOf] <;> omega
    ·have t1:decide ((j:Int) < (i:Int)) = false:=decide_eq_false (by omega)
     have t1n:decide (j < i) = false:=decide_eq_false (by omega)
     obtain rfl:j = i:=by omega
     go_wp2_with fail
     go_returns
     refine ⟨_,rfl,B,Row.base_mono HM.out.out (Nat.le_succ _),fun k hk=>?_,HM.out.bel⟩
     obtain ⟨l,hl,e⟩:=mem_ents.1 (HP.out.1.mem_iff.2 (List.mem_range.2 hk))
     rw[←e]
     exact HM.out.yes l hl
end Go.Proofs.YtdpoppilnokniaaGreatDoor
