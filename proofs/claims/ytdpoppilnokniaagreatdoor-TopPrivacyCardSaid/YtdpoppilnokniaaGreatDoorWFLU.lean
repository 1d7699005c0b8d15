/- Theorems of this seat. -/
import Derived.Test.YtdpoppilnokniaaGreatDoorWFLZ
import Derived.Test.YtdpoppilnokniaaGreatDoorWKB
import Derived.Test.YtdpoppilnokniaaGreatDoorWST8
namespace Go.Proofs.YtdpoppilnokniaaGreatDoor
open Go.RowKit Go.ChangeShapes Go.WideShapes Go.Deep
set_option linter.unusedVariables false
set_option linter.unusedSimpArgs false
set_option linter.unnecessarySimpa false
structure GrtM (w:World) (N m a b:Nat) (ao:Option Addr) (ac:Nat) (A:Nat→Arc) (qe qr qo base:Nat) (s:Int) (wr:World):Prop where
 on:Exists fun on:Nat→Int=>Row wr base 3 1 (.slice (some ⟨qo,0,none⟩) m m) m (nuR on)∧FlowOk A on m (a:Int) (b:Int) s
 res:wr.heap[qe]? = some (.cells #[.int .i64 0,.slice none 0 0,.slice none 0 0] 186 (0,0))
 rsd:wr.heap[qr]? = some (.cells #[.int .i64 N,.slice ao m ac,.slice (some ⟨qo,0,none⟩) m m] 186 (0,0))
 bel:Below w.heap.size w wr
 sep:w.heap.size≤qe∧qe ≠ qo∧qr ≠ qo∧w.heap.size≤qo∧base≤qo∧w.heap.size≤base
theorem GrtM.below {w wr w':World}{N m a b:Nat}{ao:Option Addr}{ac:Nat}{A:Nat→Arc}{qe qr qo base:Nat}{s:Int}(h:GrtM w N m a b ao ac A qe qr qo base s wr) (hb:Below wr.heap.size wr w'):GrtM w N m a b ao ac A qe qr qo base s w' :=
 {on:=by obtain ⟨on,h1,h2⟩:=h.on;exact ⟨on,Row.off (X:=fun _=>False) h1 (Off.of_below hb) (fun _ _ h=>h),h2⟩
  res:=(hb.block _ (block_lt h.res)).trans h.res
  rsd:=(hb.block _ (block_lt h.rsd)).trans h.rsd
  bel:=h.bel.trans (hb.mono h.bel.size)
  sep:=h.sep }
theorem GrtM.le {w wr:World}{N m a b:Nat}{ao:Option Addr}{ac:Nat}{A:Nat→Arc}{qe qr qo base:Nat}{s:Int}(h:GrtM w N m a b ao ac A qe qr qo base s wr) (ok:NetOk N m A):0≤s∧s≤m * 65536:=by
 obtain ⟨on,h1,h2⟩:=h.on
 have h3:=netN_le (A:=A) (on:=on) (C:=65536) (by omega) (m:=m) (fun k hk=>by have h4:=h2.cap k hk;have h5:=ok.cap k hk;omega) (a:Int)
 rw[h2.out] at h3
 exact ⟨h2.pos,h3⟩
def GrtP (N m a b:Nat) (A:Nat→Arc) (v:Value) (s:Int) (e:Ending):Prop :=
 e = .returned (.tuple #[v,.int .i64 s])∧(Exists fun on:Nat→Int=>FlowOk A on m (a:Int) (b:Int) s)
set_option maxRecDepth 8000 in
set_option maxHeartbeats 16000000 in
theorem greatest109 (N m a b:Nat) (ao:Option Addr) (ac:Nat) (A:Nat→Arc) (w:World) (hA:Sl w 4 ao m ac (arR A)) (ok:NetOk N m A) (ha:a < N) (hb:b < N) (hab:a ≠ b) :
  Calls Tryz.prog 109 #[.agg #[.int .i64 N,.slice ao m ac],.int .i64 a,.int .i64 b] w fun e w'=>(Exists fun qo:Nat=>Exists fun s:Int=>0≤s∧s≤m * 65536∧GrtP N m a b A (.agg #[.int .i64 N,.slice ao m ac,.slice (some ⟨qo,0,none⟩) m m]) s e)∧Below w.heap.size w w':=by
 have hN:=ok.nodes.2
 have hm5:=ok.few
 have B0:Hid (Below w.heap.size w (w.alloc (.cells #[.int .i64 N,.slice ao m ac] 166))):=Lib.hid (by (repeat' (first | with_reducible (first | exact Below.refl _ _ | assumption | refine Below.drew ?_ | refine below_drewN ?_ _ | refine Below.alloc ?_ ?_ _ | refine Below.setCell ?_ ?_ _) | go_size)));have X0:=Lib.hid (al_at w (.cells #[.int .i64 N,.slice ao m ac] 166) rfl);obtain ⟨w1,hw0⟩:∃ w1,w1 = w.alloc (.cells #[.int .i64 N,.slice ao m ac] 166):=⟨_,rfl⟩;rw[←hw0] at B0 X0;have HW0:=Lib.hid hw0;clear hw0;have z0:=szs (block_lt X0.out);have x0_0:=cell_at X0.out 0;have x0_1:=cell_at X0.out 1
 have B1:Hid (Below w1.heap.size w1 (w1.alloc (.cells #[.int .i64 0,.slice none 0 0,.slice none 0 0] 186))):=Lib.hid (by (repeat' (first | with_reducible (first | exact Below.refl _ _ | assumption | refine Below.drew ?_ | refine below_drewN ?_ _ | refine Below.alloc ?_ ?_ _ | refine Below.setCell ?_ ?_ _) | go_size)));have X1:=Lib.hid (al_at w1 (.cells #[.int .i64 0,.slice none 0 0,.slice none 0 0] 186) rfl);obtain ⟨w2,hw1⟩:∃ w2,w2 = w1.alloc (.cells #[.int .i64 0,.slice none 0 0,.slice none 0 0] 186):=⟨_,rfl⟩;rw[←hw1] at B1 X1;have HW1:=Lib.hid hw1;clear hw1;have z1:=szs (block_lt X1.out);skip
 obtain ⟨qe,hqe⟩:∃ qe,qe = w1.heap.size:=⟨_,rfl⟩
 rw[←hqe] at X1 z1
 have hq0:w.heap.size < qe:=by rw[hqe];exact z0.1
 have X2:=Lib.hid ((B1.out.block _ (block_lt X0.out)).trans X0.out)
 have B2:=Lib.hid (B0.out.trans (B1.out.mono B0.out.size))
 have HQE:=Lib.hid hqe
 have hmk:=fun w'=>mkIn m (by omega) w'
 obtain ⟨MC,hmc⟩:∃ MC,MC = madeCells #[.int .i64 0] (m * 1):=⟨_,rfl⟩
 rw[←hmc] at hmk
 have HMC:=Lib.hid hmc
 have HA:=Lib.hid hA
 have OK:=Lib.hid ok
 have hlm:=hA.hm
 have hlc:=hA.hc
 have hbN:(b:Int) < (N:Int):=by omega
 clear hmc hqe hA ok x0_0 x0_1 B0 B1
 have x0:=cell_at X2.out 0
 have x1:=cell_at X2.out 1
 have zx:=szs (block_lt X2.out)
 go_enter Tryz.func109,Tryz.ntmps109
 go_simp
 ((repeat ((fail_if_success (rw[←HW0.out]));go_step));rw[←HW0.out])
 go_simp
 ((repeat ((fail_if_success (rw[←HW1.out]));go_step));rw[←HW1.out])
 rw[←HQE.out]
 clear HW0 HW1 HQE z0
 go_wp2_with fail
 (obtain ⟨ι,hne,Fw,fb,hF⟩:=grow_family w2);have hF:∀ w',(sPlan w2 (fun _=>False) [] [(4,fun b=>.slice (some ⟨b,0,none⟩) m m,.cells MC 3),(6,fun b=>.pointer (some ⟨b,0,none⟩),.cells #[.int .i64 0,.slice none 0 0,.slice none 0 0] 186)] [(7,6)]).D [] w'→∃ i,w' = Fw i:=hF
 have fx0:=fun i=>cell_kept (fb i) x0
 have fx1:=fun i=>cell_kept (fb i) x1
 clear x0 x1 zx
 (refine region_chainO (sPlan w2 (fun _=>False) [] [(4,fun b=>.slice (some ⟨b,0,none⟩) m m,.cells MC 3),(6,fun b=>.pointer (some ⟨b,0,none⟩),.cells #[.int .i64 0,.slice none 0 0,.slice none 0 0] 186)] [(7,6)]) [] [] [0,1,2,3,4,5,6,7] [] mixed (by kernel_rfl) (by kernel_rfl) (fun _ _ h=>nomatch h) (sPlan_ok (by simp) (by simp)) sPlan_start ?_;refine wpPure_nil ?_;simp only[List.map_cons,List.map_nil,Array.getD_eq_getD_getElem?,List.getElem?_toArray,List.getElem?_cons_zero,List.getElem?_cons_succ,Option.getD_some])
 (repeat (first | (refine wpChainO_skip rfl ?_;simp only[Act.put,List.setIfInBounds_toArray,List.set_cons_succ,List.set_cons_zero]) | (refine wpChainO_quiet hF rfl rfl rfl ?_;intro K hK;go_big_quiet_op;go_big_quiet_on) | (refine wpChainO_pure _ rfl rfl (fun w' _=>by go_simp;try rfl) ?_;simp only[Act.put,List.setIfInBounds_toArray,List.set_cons_succ,List.set_cons_zero])))
 (refine wpChainO_alloc _ _ rfl (List.mem_cons_self ..) rfl (fun w'=>by go_simp) (fun qo hqo=>?_);simp only[Act.put,List.setIfInBounds_toArray,List.set_cons_succ,List.set_cons_zero])
 (repeat (first | (refine wpChainO_skip rfl ?_;simp only[Act.put,List.setIfInBounds_toArray,List.set_cons_succ,List.set_cons_zero]) | (refine wpChainO_quiet hF rfl rfl rfl ?_;intro K hK;go_big_quiet_op;go_big_quiet_on) | (refine wpChainO_pure _ rfl rfl (fun w' _=>by go_simp;try rfl) ?_;simp only[Act.put,List.setIfInBounds_toArray,List.set_cons_succ,List.set_cons_zero])))
 (refine wpChainO_alloc _ _ rfl (List.mem_cons_of_mem _ (List.mem_cons_self ..)) rfl (fun w'=>by go_simp) (fun qr hqr=>?_);simp only[Act.put,List.setIfInBounds_toArray,List.set_cons_succ,List.set_cons_zero])
 (refine wpChainO_store 6 qr (.cells #[.int .i64 0,.slice none 0 0,.slice none 0 0] 186) (.cells #[.int .i64 N,.slice ao m ac,.slice (some ⟨qo,0,none⟩) m m] 186) rfl (by simp [sPlan]) (by simp [setB]) (by simp [setB]) rfl (fun w' hw'=>by have c0:=cell_at hw' 0;have c1:=cell_at hw' 1;have c2:=cell_at hw' 2;have g0:=free_at hw';have hlt:=block_lt hw';go_simp;rw[setCell_at hw',setAt_setCell hlt,setAt_setCell hlt];rfl) ?_;simp only[Act.put,List.setIfInBounds_toArray,List.set_cons_succ,List.set_cons_zero])
 (repeat (first | (refine wpChainO_skip rfl ?_;simp only[Act.put,List.setIfInBounds_toArray,List.set_cons_succ,List.set_cons_zero]) | (refine wpChainO_quiet hF rfl rfl rfl ?_;intro K hK;go_big_quiet_op;go_big_quiet_on) | (refine wpChainO_pure _ rfl rfl (fun w' _=>by go_simp;try rfl) ?_;simp only[Act.put,List.setIfInBounds_toArray,List.set_cons_succ,List.set_cons_zero])))
 refine wpChainO_nil (fun w5 hb5 hl5=>?_)
 have b5:Below w2.heap.size w2 w5:=hb5
 have X4:=(hl5.1.2 (4,qo,.cells MC 3) (by simp [setB])).2
 have g4:w2.heap.size≤qo:=(hl5.1.2 (4,qo,.cells MC 3) (by simp [setB])).1
 have X6:=(hl5.1.2 (6,qr,.cells #[.int .i64 N,.slice ao m ac,.slice (some ⟨qo,0,none⟩) m m] 186) (by simp [setB])).2
 have hne:qr ≠ qo:=by
  intro e
  subst e
  rw[X4] at X6
  injection X6 with X6
  injection X6 with X6 X7
  have hs:MC.size = 3:=by rw[X6];rfl
  exact absurd X7 (by decide)
 have R5:Row w5 w2.heap.size 3 1 (.slice (some ⟨qo,0,none⟩) m m) m (nuR (fun _=>0)):=by
  rw[HMC.out] at X4
  exact Row.congr (Row.of_made rfl (by decide) X4 g4 (by unfold maxLen;omega)) (fun j _=>rfl)
 have hqe2:=block_lt X1.out
 have G5:Hid (GrtM w N m a b ao ac A qe qr qo w2.heap.size 0 w5):=Lib.hid
  {on:=⟨fun _=>0,R5,flow_zero (b:=0) (fun k hk=>(OK.out.cap k hk).1)⟩
   res:=(b5.block _ hqe2).trans X1.out
   rsd:=X6
   bel:=B2.out.trans (b5.mono B2.out.size)
   sep:=⟨by omega,by omega,hne,by have:=B2.out.size;omega,g4,B2.out.size⟩ }
 have X25:=Lib.hid ((b5.block _ (block_lt X2.out)).trans X2.out)
 clear hb5 hl5 hF fb hne b5 fx0 fx1 X4 X6 R5 g4 hmk hqr hqo
 refine onlyN_intro ?_
 go_wp2_with fail
 obtain ⟨bs,hbs⟩:∃ bs,bs = w2.heap.size:=⟨_,rfl⟩
 rw[←hbs] at G5
 go_loopw [9] (fun s9 wr=>∃ s:Int,s9 = .int .i64 s∧Hid (GrtM w N m a b ao ac A qe qr qo bs s wr)) (fun s _=>(m * 65536 - intOf s).toNat)
 case atStart=>exact ⟨0,rfl,G5⟩
 case round =>
  obtain ⟨s,rfl,hg⟩:=hrel
  have HG:=hg
  clear hg G5
  have hle:=HG.out.le OK.out
  obtain ⟨on,hon,hfl⟩:=HG.out.on
  have HON:=Lib.hid hon
  have HFL:=Lib.hid hfl
  clear hon hfl
  have v0:=cell_at HG.out.rsd 0
  have v1:=cell_at HG.out.rsd 1
  have v2:=cell_at HG.out.rsd 2
  have zv:=szs (block_lt HG.out.rsd)
  have hsl:Sl wr 1 (some ⟨qo,0,none⟩) m m (nuR on):=by
   obtain ⟨ao',c',e,h⟩:=Row.toSl HON.out (fun _=>rfl)
   cases e
   exact h
  have CR:=Lib.hid (reach125 N m a ao ac A (some ⟨qo,0,none⟩) m on wr (HA.out.below HG.out.bel) hsl OK.out HFL.out.cap ha)
  clear hsl
  go_wp2_with fail
  refine CR.out.mono ?_
  rintro e w6 ⟨⟨gs,S,D,rfl,r1,r2⟩,b6⟩
  have hgs:=(World.ownsRow.lt r1 gs rfl).1
  have hqoW:=(World.ownsRow.lt HON.out qo rfl).2
  have G6:=Lib.hid (HG.out.below b6)
  have RS:=Lib.hid r1
  have OKS:=Lib.hid r2
  have RO:=Lib.hid (Row.off (X:=fun _=>False) HON.out (Off.of_below b6) (fun _ _ h=>h))
  clear b6 r1 r2 CR v0 v1 v2 zv HG HON
  have c4:w6.cell? ⟨gs,b * 6+4,none⟩ = some (.bool (S b).kn):=Row.cell RS.out (fun i=>rfl) hb (j:=4) (by decide)
  have v0:=cell_at G6.out.rsd 0
  have v1:=cell_at G6.out.rsd 1
  have v2:=cell_at G6.out.rsd 2
  have zv:=szs (block_lt G6.out.rsd)
  have zs:=szs (World.ownsRow.lt RS.out gs rfl).2
  cases hk:(S b).kn
  ·rw[hk] at c4
   have k0:=cell_at G6.out.res 0
   have k1:=cell_at G6.out.res 1
   have k2:=cell_at G6.out.res 2
   have fk:=fun i=>free_at G6.out.res i
   have zk:=szs (block_lt G6.out.res)
   go_wp2_with fail
   show bodyPost _ _ _ Exit.ret _ _
   have KZ:=put3 G6.out.res (.int .i64 N) (.slice ao m ac) (.slice (some ⟨qo,0,none⟩) m m)
   have OZ:=G6.out.bel.trans ((off3 w6 qe (.int .i64 N) (.slice ao m ac) (.slice (some ⟨qo,0,none⟩) m m)).toBelow G6.out.bel.size (fun q hq h=>by have h:q = qe:=h;have:=G6.out.sep.1;omega))
   clear k0 k1 k2 fk zk v0 v1 v2 zv zs c4
   generalize World.setCell (World.setCell (World.setCell w6 _ _) _ _) _ _ = w9 at *
   have k0:=cell_at KZ 0
   have k1:=cell_at KZ 1
   have k2:=cell_at KZ 2
   have zk:=szs (block_lt KZ)
   exact bodyPost_ret (v:=.tuple #[.agg #[.int .i64 N,.slice ao m ac,.slice (some ⟨qo,0,none⟩) m m],.int .i64 s]) (by simp [results,Tryz.results109,go_sem,k0,k1,k2]) rfl ⟨⟨qo,s,hle.1,hle.2,rfl,on,HFL.out⟩,OZ⟩
  ·rw[hk] at c4
   have CPU:=Lib.hid (push126 bs N m a b qo gs ao ac A on S D w6 wr.heap.size RO.out RS.out (by omega) hN hm5 HFL.out.cap (fun j hj=>(OK.out.cap j hj).2) OKS.out hb (fun e=>hab e.symm) hk)
   go_wp2_with fail
   refine CPU.out.mono ?_
   rintro e w7 ⟨d,on',rfl,hd1,hd2,h3,h4,h5⟩
   have s6:=G6.out.sep
   have G7:Hid (GrtM w N m a b ao ac A qe qr qo bs (s+d) w7):=Lib.hid
    {on:=⟨on',h3,h4.done HFL.out (by omega) (by omega)⟩
     res:=(h5.block _ (block_lt G6.out.res) (fun e=>by have e:qe = qo:=e;omega)).trans G6.out.res
     rsd:=(h5.block _ (block_lt G6.out.rsd) (fun e=>by have e:qr = qo:=e;omega)).trans G6.out.rsd
     bel:=G6.out.bel.trans (h5.toBelow G6.out.bel.size (fun q hq e=>by have e:q = qo:=e;omega))
     sep:=s6 }
   have hle2:=G7.out.le OK.out
   clear h3 h4 h5 CPU v0 v1 v2 zv zs c4 RS OKS RO HFL
   have ew:wrap64 (s+d) = s+d:=by unfold wrap64;omega
   go_wp2_with fail
   go_roundw
   case rel=>exact ⟨s+d,rfl,G7⟩
   case measure=>simp [intOf];omega
def MosP (N m a b:Nat) (A:Nat→Arc) (s:Int) (e:Ending):Prop :=
 e = .returned (.tuple #[.int .i64 s,.int .i64 0])∧0≤s∧s≤m * 65536∧(Exists fun on:Nat→Int=>FlowOk A on m (a:Int) (b:Int) s)
set_option maxRecDepth 8000 in
set_option maxHeartbeats 16000000 in
theorem Most94 (N m a b:Nat) (ao:Option Addr) (ac:Nat) (A:Nat→Arc) (w:World) (hA:Sl w 4 ao m ac (arR A)) (ok:NetOk N m A) (ha:a < N) (hb:b < N) (hab:a ≠ b) :
  Calls Tryz.prog 94 #[.agg #[.int .i64 N,.slice ao m ac],.int .i64 a,.int .i64 b] w fun e w'=>(Exists fun s:Int=>MosP N m a b A s e)∧Below w.heap.size w w':=by
 have B0:Hid (Below w.heap.size w (w.alloc (.cells #[.int .i64 N,.slice ao m ac] 166))):=Lib.hid (by (repeat' (first | with_reducible (first | exact Below.refl _ _ | assumption | refine Below.drew ?_ | refine below_drewN ?_ _ | refine Below.alloc ?_ ?_ _ | refine Below.setCell ?_ ?_ _) | go_size)));have X0:=Lib.hid (al_at w (.cells #[.int .i64 N,.slice ao m ac] 166) rfl);obtain ⟨w1,hw0⟩:∃ w1,w1 = w.alloc (.cells #[.int .i64 N,.slice ao m ac] 166):=⟨_,rfl⟩;rw[←hw0] at B0 X0;have HW0:=Lib.hid hw0;clear hw0;have z0:=szs (block_lt X0.out);have x0_0:=cell_at X0.out 0;have x0_1:=cell_at X0.out 1
 have C1:=Lib.hid (ends108 N ao m ac A a b w1 (hA.below B0.out) ok ha hb hab)
 have C2:=Lib.hid (fun w' (bb:Below w1.heap.size w1 w')=>greatest109 N m a b ao ac A w' ((hA.below B0.out).below bb) ok ha hb hab)
 clear hA ok
 go_enter Tryz.func94,Tryz.ntmps94
 go_simp
 ((repeat ((fail_if_success (rw[←HW0.out]));go_step));rw[←HW0.out])
 clear HW0
 go_wp2_with fail
 refine C1.out.mono ?_
 rintro e w2 ⟨rfl,b2⟩
 have B2:=Lib.hid (B0.out.trans (b2.mono B0.out.size))
 have CG:=Lib.hid (C2.out w2 b2)
 have x0:=cell_kept b2 x0_0
 have x1:=cell_kept b2 x0_1
 have zx:=szs (Nat.lt_of_lt_of_le z0.1 b2.size)
 clear b2 x0_0 x0_1 z0 C1 C2
 go_wp2_with fail
 refine CG.out.mono ?_
 rintro e w3 ⟨⟨qo,s,h0,h1,rfl,hfl⟩,b3⟩
 have HFL:=Lib.hid hfl
 have B3:=Lib.hid (B2.out.trans (b3.mono B2.out.size))
 clear b3 hfl x0 x1 zx CG
 go_wp2_with fail
 go_returns
 have b33:=B3.out
 exact ⟨⟨s,rfl,h0,h1,HFL.out⟩,by (have hszz:=(b33).size;(repeat' (first | with_reducible (first | exact Below.refl _ _ | assumption | refine Below.drew ?_ | refine below_drewN ?_ _ | refine Below.alloc ?_ ?_ _ | refine Below.setCell ?_ ?_ _) | go_size)))⟩
end Go.Proofs.YtdpoppilnokniaaGreatDoor
namespace Go.Proofs.YtdpoppilnokniaaGreatDoor
open Go.RowKit Go.ChangeShapes Go.WideShapes Go.Deep
set_option linter.unusedVariables false
set_option linter.unusedSimpArgs false
set_option linter.unnecessarySimpa false
theorem put2 {w:World}{r:Nat}{a0 a1:Value}{T:TypeId}(h:w.heap[r]? = some (.cells #[a0,a1] T (0,0))) (v0 v1:Value):((w.setCell ⟨r,0,none⟩ v0).setCell ⟨r,1,none⟩ v1).heap[r]? = some (.cells #[v0,v1] T (0,0)):=by
 have hl:=block_lt h
 rw[setCell_at h,setAt_setCell hl,setAt_same hl]
 rfl
section
variable {P:Program} {ops:Array Oper} {rest:List Oper} {o:Oper} {a:Act} {Q:Exit→Act→World→Prop}
theorem wpList_append_two (w:World) (hgd:o.guard = none) (x1 x2:Operand) (t:TypeId) (ho:o.op = .call { callee:=.builtin .append,args:=#[x1,x2],argTypes:=#[t,t] })
  (base:Nat) (e:TypeId) (i:TypeInfo) (z:Value) (size bytes:Nat) (ht:P.underlying t = some (.slice e)) (hi:P.info? e = some i) (hz:i.zero = some z)
  (hsize:i.size = size) (hby:i.bytes = bytes) (hzs:z.cells.size = size) (hsz:0 < size)
  (v:Value) (n:Nat) (f:Nat→List Value) (hs:a.eval x1 = v) (hown:Row w base e size v n f) (hf:∀ i,(f i).length = size)
  (b1:Nat) (c:Nat) (na nb:List Value) (hx:a.eval x2 = .slice (some ⟨b1,0,none⟩) 2 c) (hla:na.length = size) (hlb:nb.length = size) (ob:TypeId) (fz:Nat×Nat) (hnews:w.heap[b1]? = some (.cells (na ++ nb).toArray ob fz)) (h1:∀ u∈na ++ nb,u.oneCell' = true)
  (hbytes:(n+2) * bytes≤140737488355328) (h63:n+2≤maxLen) (hbase:base≤w.heap.size)
  (h:∀ g cap w',n+2≤cap→cap≤9223372036854775807→base≤g→g < w'.heap.size→(v.ownBlock = some g∨w.heap.size≤g)→Row w' base e size (.slice (some ⟨g,0,none⟩) (n+2) cap) (n+2) (upd (upd f n na) (n+1) nb) →
   w.grownBy w' v.ownBlock→wpList P ops Q rest (a.put o.dst (.slice (some ⟨g,0,none⟩) (n+2) cap)) w'):wpList P ops Q (o :: rest) a w:=by
 have hl:(na ++ nb).length = 2 * size:=by rw[List.length_append,hla,hlb];omega
 have hcells:∀ (j:Nat) (u:Value),(na ++ nb)[j]? = some u→w.cell? ((⟨b1,0,none⟩:Addr).add j) = some u:=fun j u hu=>by
  rw[add_flat,Nat.zero_add]
  simp only[World.cell?,hnews]
  simpa using hu
 have own2:∀ {w':World} {base:Nat} {v:Value},w'.ownsRow base e size v (n+2) (flat f n ++ (na ++ nb))→Row w' base e size v (n+2) (upd (upd f n na) (n+1) nb):=fun h=>by
  unfold Row;rw[flat_push,flat_push,List.append_assoc];exact h
 have fin:∀ (v':Value) (w':World),w'.ownsRow w.heap.size e size v' (n+2) (flat f n ++ (na ++ nb))→w.grownBy w' none→wpList P ops Q rest (a.put o.dst v') w':=fun v' w' h2 h3=>by
  have hr:=own2 h2
  rcases hr.shape with ⟨_,h0⟩ | ⟨g,cap,rfl,hg,hl,hn,hm⟩
  ·omega
  ·refine h g cap w' hn (by unfold maxLen at hm;omega) (by omega) hl (.inr hg) (hr.base_mono hbase) ⟨h3.os,h3.tape,h3.output,h3.size,fun k hk _=>h3.block k hk (by simp)⟩
 rcases hown.shape with ⟨rfl,rfl⟩ | ⟨g,cap,rfl,hg,hgl,hn,hm⟩
 ·refine wpList_append_grows w hgd x1 x2 t ho e i z size bytes ht hi hz hsize hby hzs hsz none 0 0 [] hs (fun _=>⟨rfl,rfl⟩) (by simp) (fun b hb=>by cases hb) ⟨b1,0,none⟩ 2 c (na ++ nb) hx (by omega) hcells h1 (by omega) h63 hbytes ?_
  intro v' w' h2 h3
  exact fin v' w' (by simpa [flat] using h2) h3
 ·by_cases hc:n+2≤cap
  ·refine wpList_append_fits w hgd x1 x2 t ho base e i size ht hi hsize g n cap _ hs hown ⟨b1,0,none⟩ 2 c (na ++ nb) hx (by omega) hcells h1 hc ?_
   intro w' h2 h3
   refine h g cap w' hc (by unfold maxLen at hm;omega) hg (Nat.lt_of_lt_of_le hgl h3.size) (.inl rfl) (own2 h2) h3
  ·refine wpList_append_grows w hgd x1 x2 t ho e i z size bytes ht hi hz hsize hby hzs hsz (some ⟨g,0,none⟩) n cap (flat f n) hs (fun h=>by cases h) (flat_len hf n) (fun b hb j u hu=>?_) ⟨b1,0,none⟩ 2 c (na ++ nb) hx (by omega) hcells h1 (by omega) h63 hbytes fin
   cases hb
   exact World.ownsRow.cells hown rfl j u hu
end
theorem infoArc:(Tryz.prog.info? 183).map (fun i=>(i.zero,i.size,i.bytes)) = some (some (.agg #[.int .i64 0,.int .i64 0,.int .i64 0,.int .i64 0]),4,32):=by kernel_rfl
def ars (x:Arc):List Value:=[.int .i64 x.f,.int .i64 x.t,.int .i64 x.c,.int .i64 0]
theorem wpList_append_arcs {ops:Array Oper}{rest:List Oper}{o:Oper}{a:Act}{Q:Exit→Act→World→Prop}(w:World) (hgd:o.guard = none) (x1 x2:Operand) (ho:o.op = .call { callee:=.builtin .append,args:=#[x1,x2],argTypes:=#[164,164] })
  (base:Nat) (v:Value) (n:Nat) (A:Nat→Arc) (hs:a.eval x1 = v) (h1:Row w base 183 4 v n (arR A)) (b1:Nat) (p q:Arc) (hx:a.eval x2 = .slice (some ⟨b1,0,none⟩) 2 2) (ob:TypeId) (fz:Nat×Nat) (hb1:w.heap[b1]? = some (.cells #[.int .i64 p.f,.int .i64 p.t,.int .i64 p.c,.int .i64 0,.int .i64 q.f,.int .i64 q.t,.int .i64 q.c,.int .i64 0] ob fz)) (hn:n≤1000) (hb:base≤w.heap.size)
  (h:∀ g cap w',n+2≤cap→cap≤9223372036854775807→base≤g→g < w'.heap.size→(v.ownBlock = some g∨w.heap.size≤g)→Row w' base 183 4 (.slice (some ⟨g,0,none⟩) (n+2) cap) (n+2) (arR (upd (upd A n p) (n+1) q))→Off (fun i=>v.ownBlock = some i) w w'→wpList Tryz.prog ops Q rest (a.put o.dst (.slice (some ⟨g,0,none⟩) (n+2) cap)) w'):wpList Tryz.prog ops Q (o :: rest) a w:=by
 obtain ⟨i0,hi,hz0,hz1,hz2⟩:=info_parts infoArc
 refine wpList_append_two w hgd x1 x2 164 ho base 183 i0 _ 4 32 Tryz.underlying164 hi hz0 hz1 hz2 rfl (by decide) v n (arR A) hs h1 (fun i=>rfl) b1 2 (ars p) (ars q) hx rfl rfl ob fz hb1 (fun u hu=>by
  simp only[ars,List.cons_append,List.nil_append,List.mem_cons,List.not_mem_nil,or_false] at hu
  rcases hu with rfl | rfl | rfl | rfl | rfl | rfl | rfl | rfl <;> rfl) (by omega) (by unfold maxLen;omega) hb ?_
 intro g cap w' k1 k2 k3 k4 k5 r b
 refine h g cap w' k1 k2 k3 k4 k5 (Row.congr r (fun i _=>?_)) ((Off.of_grown b).mono (fun i _ h=>by first | exact h | exact h.symm))
 show upd (upd (arR A) n _) (n+1) _ i = ars (upd (upd A n p) (n+1) q i)
 by_cases e:i = n+1
 ·subst e;rw[upd_same,upd_same]
 ·rw[upd_ne e,upd_ne e]
  by_cases e2:i = n
  ·subst e2;rw[upd_same,upd_same]
  ·rw[upd_ne e2,upd_ne e2];rfl
theorem arcAt_snoc {l:List Arc}{p q:Arc}{i:Nat}(hi:i < l.length+2):arcAt (l ++ [p,q]) i = upd (upd (arcAt l) l.length p) (l.length+1) q i:=by
 unfold arcAt
 by_cases e:i = l.length+1
 ·subst e;rw[upd_same];simp [List.getD_eq_getElem?_getD,List.getElem?_append_right]
 ·rw[upd_ne e]
  by_cases e2:i = l.length
  ·subst e2;rw[upd_same];simp [List.getD_eq_getElem?_getD,List.getElem?_append_right]
  ·rw[upd_ne e2,List.getD_eq_getElem?_getD,List.getD_eq_getElem?_getD,List.getElem?_append_left (by omega)]
theorem arcs_len (X:Nat→Int) (H:Nat→Bool) (but:Nat):∀ n,(arcsOf X H but n).length≤2 * n
 | 0=>Nat.le_refl _
 | n+1=>by
  have:=arcs_len X H but n
  unfold arcsOf
  rw[List.length_append]
  split <;> simp <;> omega
theorem arcs_mem {X:Nat→Int}{H:Nat→Bool}{but:Nat}:∀ {n:Nat},n≤4→(∀ i,i < n→0≤X i∧X i≤65536)→∀ a∈arcsOf X H but n,(0≤a.f∧a.f < 4)∧(0≤a.t∧a.t < 4)∧0≤a.c∧a.c≤65536
 | 0,_,_,a,h=>by cases h
 | n+1,hn,hX,a,h=>by
  unfold arcsOf at h
  rcases List.mem_append.1 h with h | h
  ·exact arcs_mem (by omega) (fun i hi=>hX i (by omega)) a h
  ·have hx:=hX n (by omega)
   split at h
   ·simp only[List.mem_cons,List.not_mem_nil,or_false] at h
    rcases h with rfl | rfl <;> dsimp only <;> omega
   ·cases h
theorem arcs_ok {X:Nat→Int}{H:Nat→Bool}{but:Nat}(hX:∀ i,i < 4→0≤X i∧X i≤65536):NetOk 4 (arcsOf X H but 4).length (arcAt (arcsOf X H but 4)):=by
 have h:=arcs_mem (H:=H) (but:=but) (Nat.le_refl 4) hX
 have g:∀ j,j < (arcsOf X H but 4).length→arcAt (arcsOf X H but 4) j∈arcsOf X H but 4:=fun j hj=>by
  unfold arcAt
  rw[List.getD_eq_getElem?_getD,List.getElem?_eq_getElem hj]
  exact List.getElem_mem hj
 have hl:=arcs_len X H but 4
 exact ⟨by omega,by omega,fun j hj=>(h _ (g j hj)).1,fun j hj=>(h _ (g j hj)).2.1,fun j hj=>(h _ (g j hj)).2.2⟩
end Go.Proofs.YtdpoppilnokniaaGreatDoor
namespace Go.Proofs.YtdpoppilnokniaaGreatDoor
open Go.RowKit Go.ChangeShapes Go.WideShapes Go.Deep
set_option linter.unusedVariables false
set_option linter.unusedSimpArgs false
set_option linter.unnecessarySimpa false
theorem Sl.bit {w:World}{ao:Option Addr}{n c:Nat}{H:Nat→Bool}(h:Sl w 1 ao n c (boR H)) {j:Nat}(hj:j < n):∃ g o,ao = some ⟨g,o,none⟩∧g < w.heap.size∧w.cell? ⟨g,o+j,none⟩ = some (.bool (H j)):=by
 obtain ⟨g,o,rfl,hc⟩:=h.cell hj
 have:=hc 0 (by decide)
 rw[Nat.mul_one,Nat.add_zero] at this
 exact ⟨g,o,rfl,cell_lt (a:=⟨g,o+j,none⟩) (by rw[this];rfl),this⟩
theorem Sl.num1 {w:World}{ao:Option Addr}{n c:Nat}{X:Nat→Int}(h:Sl w 1 ao n c (nuR X)) {j:Nat}(hj:j < n):∃ g o,ao = some ⟨g,o,none⟩∧g < w.heap.size∧w.cell? ⟨g,o+j,none⟩ = some (.int .i64 (X j)):=by
 obtain ⟨g,o,rfl,hc⟩:=h.cell hj
 have:=hc 0 (by decide)
 rw[Nat.mul_one,Nat.add_zero] at this
 exact ⟨g,o,rfl,cell_lt (a:=⟨g,o+j,none⟩) (by rw[this];rfl),this⟩
structure NwkM (w:World) (co:Option Addr) (cc:Nat) (X:Nat→Int) (H:Nat→Bool) (but:Nat) (qt qe qn base j:Nat) (wr:World):Prop where
 net:Exists fun v:Value=>wr.heap[qn]? = some (.cells #[.int .i64 4,v] 166 (0,0))∧Row wr base 183 4 v (arcsOf X H but j).length (arR (arcAt (arcsOf X H but j)))
 box:wr.heap[qt]? = some (.cells #[.int .i64 2,.int .i64 2,.slice co 4 cc] 37 (0,0))
 res:wr.heap[qe]? = some (.cells #[.int .i64 0,.slice none 0 0] 166 (0,0))
 bel:Below w.heap.size w wr
theorem NwkM.below {w wr w':World}{co:Option Addr}{cc:Nat}{X:Nat→Int}{H:Nat→Bool}{but qt qe qn base j:Nat}(h:NwkM w co cc X H but qt qe qn base j wr) (hb:Below wr.heap.size wr w'):NwkM w co cc X H but qt qe qn base j w' :=
 {net:=by obtain ⟨v,h1,h2⟩:=h.net;exact ⟨v,(hb.block _ (block_lt h1)).trans h1,Row.off (X:=fun _=>False) h2 (Off.of_below hb) (fun _ _ h=>h)⟩
  box:=(hb.block _ (block_lt h.box)).trans h.box
  res:=(hb.block _ (block_lt h.res)).trans h.res
  bel:=h.bel.trans (hb.mono h.bel.size) }
def NwkP (X:Nat→Int) (H:Nat→Bool) (but:Nat) (e:Ending) (w':World):Prop :=
 ∃ (ao:Option Addr) (ac:Nat),e = .returned (.agg #[.int .i64 4,.slice ao (arcsOf X H but 4).length ac])∧Sl w' 4 ao (arcsOf X H but 4).length ac (arR (arcAt (arcsOf X H but 4)))
set_option maxRecDepth 8000 in
set_option maxHeartbeats 16000000 in
theorem network93 (co:Option Addr) (cc:Nat) (X:Nat→Int) (ho:Option Addr) (hc:Nat) (H:Nat→Bool) (but:Nat) (w:World) (hX:Sl w 1 co 4 cc (nuR X)) (hH:Sl w 1 ho 4 hc (boR H)) (hb:but < 4) :
  Calls Tryz.prog 93 #[.agg #[.int .i64 2,.int .i64 2,.slice co 4 cc],.slice ho 4 hc,.int .i64 but] w fun e w'=>NwkP X H but e w'∧Below w.heap.size w w':=by
 have hcm:=hX.hm
 have hcc:=hX.hc
 have hhm:=hH.hm
 have hhc:=hH.hc
 have B0:Hid (Below w.heap.size w (w.alloc (.cells #[.int .i64 2,.int .i64 2,.slice co 4 cc] 37))):=Lib.hid (by (repeat' (first | with_reducible (first | exact Below.refl _ _ | assumption | refine Below.drew ?_ | refine below_drewN ?_ _ | refine Below.alloc ?_ ?_ _ | refine Below.setCell ?_ ?_ _) | go_size)));have X0:=Lib.hid (al_at w (.cells #[.int .i64 2,.int .i64 2,.slice co 4 cc] 37) rfl);obtain ⟨w1,hw0⟩:∃ w1,w1 = w.alloc (.cells #[.int .i64 2,.int .i64 2,.slice co 4 cc] 37):=⟨_,rfl⟩;rw[←hw0] at B0 X0;have HW0:=Lib.hid hw0;clear hw0;have z0:=szs (block_lt X0.out);have x0_0:=cell_at X0.out 0;have x0_1:=cell_at X0.out 1;have x0_2:=cell_at X0.out 2
 have B1:Hid (Below w1.heap.size w1 (w1.alloc (.cells #[.int .i64 0,.slice none 0 0] 166))):=Lib.hid (by (repeat' (first | with_reducible (first | exact Below.refl _ _ | assumption | refine Below.drew ?_ | refine below_drewN ?_ _ | refine Below.alloc ?_ ?_ _ | refine Below.setCell ?_ ?_ _) | go_size)));have X1:=Lib.hid (al_at w1 (.cells #[.int .i64 0,.slice none 0 0] 166) rfl);obtain ⟨w2,hw1⟩:∃ w2,w2 = w1.alloc (.cells #[.int .i64 0,.slice none 0 0] 166):=⟨_,rfl⟩;rw[←hw1] at B1 X1;have HW1:=Lib.hid hw1;clear hw1;have z1:=szs (block_lt X1.out);skip
 have B2:Hid (Below w2.heap.size w2 (w2.alloc (.cells #[.int .i64 4,.slice none 0 0] 166))):=Lib.hid (by (repeat' (first | with_reducible (first | exact Below.refl _ _ | assumption | refine Below.drew ?_ | refine below_drewN ?_ _ | refine Below.alloc ?_ ?_ _ | refine Below.setCell ?_ ?_ _) | go_size)));have X2:=Lib.hid (al_at w2 (.cells #[.int .i64 4,.slice none 0 0] 166) rfl);obtain ⟨w3,hw2⟩:∃ w3,w3 = w2.alloc (.cells #[.int .i64 4,.slice none 0 0] 166):=⟨_,rfl⟩;rw[←hw2] at B2 X2;have HW2:=Lib.hid hw2;clear hw2;have z2:=szs (block_lt X2.out);skip
 have s1:w1.heap.size = w.heap.size+1:=by rw[HW0.out];simp
 have s2:w2.heap.size = w.heap.size+2:=by rw[HW1.out];simp [s1]
 have HS:=Lib.hid (And.intro s1 s2)
 rw[s1] at X1
 rw[s2] at X2
 obtain ⟨bs,hbs⟩:∃ bs,bs = w.heap.size+3:=⟨_,rfl⟩
 have hs3:w3.heap.size = bs:=by rw[HW2.out,hbs];simp [s2]
 have M0:Hid (NwkM w co cc X H but w.heap.size (w.heap.size+1) (w.heap.size+2) bs 0 w3):=Lib.hid
  {net:=⟨.slice none 0 0,X2.out,⟨rfl,.inl ⟨rfl,rfl⟩⟩⟩
   box:=(B2.out.block _ (by omega)).trans ((B1.out.block _ (by omega)).trans X0.out)
   res:=(B2.out.block _ (by omega)).trans X1.out
   bel:=B0.out.trans ((B1.out.trans (B2.out.mono B1.out.size)).mono B0.out.size) }
 have HX:=Lib.hid hX
 have HH:=Lib.hid hH
 have HBS:=Lib.hid hs3
 have hbs1:w.heap.size+3≤bs:=by omega
 clear hbs
 clear hX hH X1 X2 s1 s2 hs3
 go_enter Tryz.func93,Tryz.ntmps93
 go_simp
 ((repeat ((fail_if_success (rw[←HW0.out]));go_step));rw[←HW0.out])
 go_simp
 ((repeat ((fail_if_success (rw[←HW1.out]));go_step));rw[←HW1.out])
 rw[HS.out.1]
 have c10:=cell_kept B1.out x0_0
 have c11:=cell_kept B1.out x0_1
 go_simp
 ((repeat ((fail_if_success (rw[←HW2.out]));go_step));rw[←HW2.out])
 rw[HS.out.2]
 clear HW0 HW1 HW2 c10 c11 x0_0 x0_1 x0_2 z0 z1 z2 B0 B1 B2 X0
 have x0:=cell_at M0.out.box 0
 have x1:=cell_at M0.out.box 1
 have x2:=cell_at M0.out.box 2
 have zx:=szs (block_lt M0.out.box)
 go_wp2_with fail
 clear x0 x1 x2 zx
 go_loopw [21] (fun s wr=>∃ j:Nat,s = .int .i64 j∧j≤4∧Hid (NwkM w co cc X H but w.heap.size (w.heap.size+1) (w.heap.size+2) bs j wr)∧Hid (bs≤wr.heap.size)) (fun s _=>4 - (intOf s).toNat)
 case atStart=>exact ⟨0,rfl,Nat.zero_le _,M0,Lib.hid (by have:=HBS.out;omega)⟩
 case round =>
  obtain ⟨j,rfl,hj,hm,hle⟩:=hrel
  have HM:=hm
  have HLE0:=hle
  clear hm M0 hle
  have x0:=cell_at HM.out.box 0
  have x1:=cell_at HM.out.box 1
  have x2:=cell_at HM.out.box 2
  have zx:=szs (block_lt HM.out.box)
  by_cases hlt:j < 4
  ·have t3:decide ((j:Int) < 4) = true:=decide_eq_true (by omega)
   have t3n:decide (j < 4) = true:=decide_eq_true (by omega)
   obtain ⟨g1,o1,rfl,hg1,c1⟩:=(HX.out.below HM.out.bel).num1 hlt
   obtain ⟨g2,o2,rfl,hg2,c2⟩:=(HH.out.below HM.out.bel).bit hlt
   have zg1:=szs hg1
   have zg2:=szs hg2
   have q1:((j:Int)).tdiv 2 = ((j / 2:Nat):Int):=by rw[Int.tdiv_eq_ediv_of_nonneg (by omega)];omega
   have q2:((j:Int)).tmod 2 = ((j % 2:Nat):Int):=by rw[Int.tmod_eq_emod_of_nonneg (by omega)];omega
   obtain ⟨ro,hro⟩:∃ ro,ro = j / 2:=⟨_,rfl⟩
   obtain ⟨cl,hcl⟩:∃ cl,cl = j % 2:=⟨_,rfl⟩
   rw[←hro] at q1
   rw[←hcl] at q2
   have hrb:ro < 2:=by omega
   have hcb:cl < 2:=by omega
   have HRO:=Lib.hid (And.intro hro hcl)
   clear hro hcl
   obtain ⟨y,hy⟩:∃ y,y = X j:=⟨_,rfl⟩
   rw[←hy] at c1
   have HY:=Lib.hid hy
   clear hy
   go_wp2_with fail
   (refine region_all (fun i:Nat=>World.drewN _ i) mixed (by kernel_rfl) ⟨1,rfl⟩ ?_;(repeat (any_goals (first | go_big_quiet_step (fail) | quiet_step (fail) | (refine wpQuiet_step (fun K hK=>?_);go_simp;split <;> (refine hK _ ?_;clear hK K)))));(all_goals (refine wpQuiet_nil (fun nq=>?_))))
   have BQ:Hid (Below wr.heap.size wr (wr.drewN nq)):=Lib.hid (by (repeat' (first | with_reducible (first | exact Below.refl _ _ | assumption | refine Below.drew ?_ | refine below_drewN ?_ _ | refine Below.alloc ?_ ?_ _ | refine Below.setCell ?_ ?_ _) | go_size)))
   obtain ⟨w5,hw5⟩:∃ w5,w5 = wr.drewN nq:=⟨_,rfl⟩
   rw[←hw5] at BQ ⊢
   have M5:=Lib.hid (HM.out.below BQ.out)
   have HLE:=Lib.hid (Nat.le_trans HLE0.out BQ.out.size)
   clear HLE0
   have d2:=cell_kept BQ.out c2
   have hg2':=szs (cell_lt d2)
   clear hw5 x0 x1 x2 zx c1 c2 zg1 zg2 HM hg1 hg2
   cases hh:H j
   ·rw[hh] at d2
    have HNX:Hid (NwkM w _ cc X H but w.heap.size (w.heap.size+1) (w.heap.size+2) bs (j+1) w5):=Lib.hid (by
     have e:arcsOf X H but (j+1) = arcsOf X H but j:=by
      show _ ++ _ = _
      rw[if_neg (fun e=>by simp [hh] at e)]
      exact List.append_nil _
     obtain ⟨v,h1,h2⟩:=M5.out.net
     exact ⟨⟨v,h1,by rw[e];exact h2⟩,M5.out.box,M5.out.res,M5.out.bel⟩)
    go_wp2_with fail
    go_roundw
    case rel=>exact ⟨j+1,by go_num,by omega,HNX,HLE⟩
    case measure=>simp [intOf] <;> omega
   ·rw[hh] at d2
    by_cases hjb:j = but
    ·have t4:((j:Int) != (but:Int)) = false:=by simp [hjb]
     have t4n:(j != but) = false:=by simp [hjb]
     have HJB:=Lib.hid hjb
     clear hjb
     have HNX:Hid (NwkM w _ cc X H but w.heap.size (w.heap.size+1) (w.heap.size+2) bs (j+1) w5):=Lib.hid (by
      have e:arcsOf X H but (j+1) = arcsOf X H but j:=by
       show _ ++ _ = _
       rw[if_neg (fun e=>e.2 HJB.out)]
       exact List.append_nil _
      obtain ⟨v,h1,h2⟩:=M5.out.net
      exact ⟨⟨v,h1,by rw[e];exact h2⟩,M5.out.box,M5.out.res,M5.out.bel⟩)
     go_wp2_with fail
     go_roundw
     case rel=>exact ⟨j+1,by go_num,by omega,HNX,HLE⟩
     case measure=>simp [intOf] <;> omega
    ·have t4:((j:Int) != (but:Int)) = true:=by simp;omega
     have t4n:(j != but) = true:=by simp [hjb]
     obtain ⟨v,hv1,hv2⟩:=M5.out.net
     have RV:=Lib.hid hv2
     obtain ⟨va,vc,rfl,hvs⟩:=Row.toSl hv2 (fun _=>rfl)
     have hvm:=hvs.hm
     have hvc:=hvs.hc
     have hln:=arcs_len X H but j
     have B7:Hid (Below w5.heap.size w5 (w5.alloc (.cells #[.int .i64 (2+(cl:Int)),.int .i64 (ro:Int),.int .i64 y,.int .i64 0,.int .i64 (ro:Int),.int .i64 (2+(cl:Int)),.int .i64 65536,.int .i64 0] 183))):=Lib.hid (by (repeat' (first | with_reducible (first | exact Below.refl _ _ | assumption | refine Below.drew ?_ | refine below_drewN ?_ _ | refine Below.alloc ?_ ?_ _ | refine Below.setCell ?_ ?_ _) | go_size)));have X7:=Lib.hid (al_at w5 (.cells #[.int .i64 (2+(cl:Int)),.int .i64 (ro:Int),.int .i64 y,.int .i64 0,.int .i64 (ro:Int),.int .i64 (2+(cl:Int)),.int .i64 65536,.int .i64 0] 183) rfl);obtain ⟨w6,hw7⟩:∃ w6,w6 = w5.alloc (.cells #[.int .i64 (2+(cl:Int)),.int .i64 (ro:Int),.int .i64 y,.int .i64 0,.int .i64 (ro:Int),.int .i64 (2+(cl:Int)),.int .i64 65536,.int .i64 0] 183):=⟨_,rfl⟩;rw[←hw7] at B7 X7;have HW7:=Lib.hid hw7;clear hw7;have z7:=szs (block_lt X7.out);skip
     obtain ⟨b7,hb7⟩:∃ b7,b7 = w5.heap.size:=⟨_,rfl⟩
     rw[←hb7] at X7
     have HB7:=Lib.hid hb7
     have XN5:=Lib.hid hv1
     have n0:=cell_at hv1 0
     have n1:=cell_at hv1 1
     have zn:=szs (block_lt hv1)
     have M6:=Lib.hid (M5.out.below B7.out)
     have R6:=Lib.hid (Row.off (X:=fun _=>False) RV.out (Off.of_below B7.out) (fun _ _ h=>h))
     have XN6:=Lib.hid ((B7.out.block _ (block_lt hv1)).trans hv1)
     have hle6:bs≤w6.heap.size:=by have:=M6.out.bel.size;have h2:=B7.out.size;have h3:=HLE.out;omega
     clear hv1 hv2 hvs hb7 RV
     go_simp
     ((repeat ((fail_if_success (rw[←HW7.out]));go_step));rw[←HW7.out])
     rw[←HB7.out]
     clear n0 n1 zn z7 HW7
     have n0:=cell_at XN6.out 0
     have n1:=cell_at XN6.out 1
     have zn:=szs (block_lt XN6.out)
     have fn:=fun i=>free_at XN6.out i
     go_wp2_with (at_builtin;go_loud (refine wpList_append_arcs _ rfl (.tmp 47) (.tmp 55) rfl bs _ (arcsOf X H but j).length (arcAt (arcsOf X H but j)) rfl R6.out b7 ⟨2+(cl:Int),ro,y⟩ ⟨ro,2+(cl:Int),65536⟩ rfl 183 (0,0) X7.out (by omega) hle6 ?_))
     intro g8 cap8 w8 c1 c2 c3 c4 c5 r8 o8
     have hno:∀ q,q < bs→¬ (Value.slice va (arcsOf X H but j).length vc).ownBlock = some q:=fun q hq e=>by have:=(World.ownsRow.lt R6.out q e).1;omega
     have X8:=(o8.block _ (block_lt XN6.out) (hno _ (by omega))).trans XN6.out
     have hpq:arcsOf X H but (j+1) = arcsOf X H but j ++ [⟨2+(cl:Int),ro,y⟩,⟨ro,2+(cl:Int),65536⟩]:=by
      show _ ++ _ = _
      rw[if_pos ⟨hh,hjb⟩,HRO.out.1,HRO.out.2,HY.out]
     have hl2:(arcsOf X H but (j+1)).length = (arcsOf X H but j).length+2:=by rw[hpq,List.length_append];rfl
     have R9:Row w8 bs 183 4 (.slice (some ⟨g8,0,none⟩) (arcsOf X H but (j+1)).length cap8) (arcsOf X H but (j+1)).length (arR (arcAt (arcsOf X H but (j+1)))):=by
      rw[hl2]
      refine Row.congr r8 (fun i hi=>?_)
      show ars _ = ars _
      rw[hpq,arcAt_snoc hi]
     have HN:Hid (NwkM w (some ⟨g1,o1,none⟩) cc X H but w.heap.size (w.heap.size+1) (w.heap.size+2) bs (j+1) (w8.setCell ⟨w.heap.size+2,1,none⟩ (.slice (some ⟨g8,0,none⟩) ((arcsOf X H but j).length+2) cap8))):=Lib.hid (by
      have O9:Off (fun q=>q = w.heap.size+2) w8 (w8.setCell ⟨w.heap.size+2,1,none⟩ (.slice (some ⟨g8,0,none⟩) ((arcsOf X H but j).length+2) cap8)):=off_set
      refine ⟨⟨.slice (some ⟨g8,0,none⟩) ((arcsOf X H but j).length+2) cap8,?_,?_⟩,?_,?_,?_⟩
      ·rw[setCell_at X8,setAt_same (block_lt X8)];rfl
      ·have R9':Row w8 bs 183 4 (.slice (some ⟨g8,0,none⟩) ((arcsOf X H but j).length+2) cap8) (arcsOf X H but (j+1)).length (arR (arcAt (arcsOf X H but (j+1)))):=by rw[←hl2];exact R9
       exact Row.off R9' O9 (fun q hq e=>by have e:q = w.heap.size+2:=e;have h1:g8 = q:=(by simpa [Value.ownBlock] using hq);omega)
      ·exact (O9.block _ (by have:=block_lt X8;omega) (fun e=>by have e:w.heap.size = w.heap.size+2:=e;omega)).trans ((o8.block _ (block_lt M6.out.box) (hno _ (by omega))).trans M6.out.box)
      ·exact (O9.block _ (by have:=block_lt X8;omega) (fun e=>by have e:w.heap.size+1 = w.heap.size+2:=e;omega)).trans ((o8.block _ (block_lt M6.out.res) (hno _ (by omega))).trans M6.out.res)
      ·exact (M6.out.bel.trans (o8.toBelow M6.out.bel.size (fun q hq e=>hno q (by omega) e))).trans (O9.toBelow (by have:=block_lt X8;omega) (fun q hq e=>by have e:q = w.heap.size+2:=e;omega)))
     have HLE8:Hid (bs≤(w8.setCell ⟨w.heap.size+2,1,none⟩ (.slice (some ⟨g8,0,none⟩) ((arcsOf X H but j).length+2) cap8)).heap.size):=Lib.hid (by have:=o8.size;have h2:=(off_set (w:=w8) (g:=w.heap.size+2) (a:=1) (u:=.slice (some ⟨g8,0,none⟩) ((arcsOf X H but j).length+2) cap8)).size;omega)
     clear n0 n1 zn fn hpq hl2 R9 r8 o8 hno M6 M5 XN6 XN5 X7 B7
     have n0:=cell_at X8 0
     have n1:=cell_at X8 1
     have zn:=szs (block_lt X8)
     have fn:=fun i=>free_at X8 i
     go_wp2_with fail
     go_roundw
     case rel=>first | exact ⟨j+1,by go_num,by omega,HN,HLE8⟩ | (repeat (first | exact rfl | refine And.intro (⟨j+1,by go_num,by omega,HN,HLE8⟩) ?_ | apply Exists.intro)) | trace_state
     case measure=>simp [intOf] <;> omega
  ·have t3:decide ((j:Int) < 4) = false:=decide_eq_false (by omega)
   have t3n:decide (j < 4) = false:=decide_eq_false (by omega)
   obtain rfl:j = 4:=by omega
   obtain ⟨v,hv1,hv2⟩:=HM.out.net
   have HV1:=Lib.hid hv1
   have HV2:=Lib.hid hv2
   clear hv1 hv2
   obtain ⟨ao,ac,rfl,hsl⟩:=Row.toSl HV2.out (fun _=>rfl)
   have HSL:=Lib.hid hsl
   clear hsl
   have v0:=cell_at HV1.out 0
   have v1:=cell_at HV1.out 1
   have zv:=szs (block_lt HV1.out)
   have r0:=cell_at HM.out.res 0
   have r1:=cell_at HM.out.res 1
   have fr:=fun i=>free_at HM.out.res i
   have zr:=szs (block_lt HM.out.res)
   go_wp2_with fail
   show bodyPost _ _ _ Exit.ret _ _
   have KZ:=put2 HM.out.res (.int .i64 4) (.slice ao (arcsOf X H but 4).length ac)
   have O9:=off_set2 (w:=wr) (g:=w.heap.size+1) (a:=0) (c:=1) (u:=.int .i64 4) (v:=.slice ao (arcsOf X H but 4).length ac)
   have RZ:=Row.off HV2.out O9 (fun q hq e=>by have e:q = w.heap.size+1:=e;have:=(World.ownsRow.lt HV2.out q hq).1;omega)
   obtain ⟨ao',ac',e9,hsl9⟩:=Row.toSl RZ (fun _=>rfl)
   have e9:=e9
   simp only[Value.slice.injEq] at e9
   obtain ⟨rfl,_,rfl⟩:=e9
   have OZ:=HM.out.bel.trans (O9.toBelow HM.out.bel.size (fun q hq h=>by have h:q = w.heap.size+1:=h;omega))
   clear v0 v1 zv r0 r1 fr zr x0 x1 x2 zx RZ O9
   generalize World.setCell (World.setCell wr _ _) _ _ = w9 at *
   have k0:=cell_at KZ 0
   have k1:=cell_at KZ 1
   have zk:=szs (block_lt KZ)
   exact bodyPost_ret (v:=.agg #[.int .i64 4,.slice ao (arcsOf X H but 4).length ac]) (by simp [results,Tryz.results93,go_sem,k0,k1]) rfl ⟨⟨ao,ac,rfl,hsl9⟩,OZ⟩
end Go.Proofs.YtdpoppilnokniaaGreatDoor
