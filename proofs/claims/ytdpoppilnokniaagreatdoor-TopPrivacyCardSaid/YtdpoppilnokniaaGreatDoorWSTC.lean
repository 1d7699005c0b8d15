/- Theorems of this seat. -/
import Derived.Test.YtdpoppilnokniaaGreatDoorWSTB
import Derived.Test.YtdpoppilnokniaaGreatDoorWKB
import Derived.BigQuiet
import Derived.WalkLawsBesides
import Derived.BigRegion
namespace Go.Proofs.YtdpoppilnokniaaGreatDoor
open Go.RowKit Go.ChangeShapes Go.WideShapes Go.Deep Go.Maps
set_option linter.unusedVariables false
set_option linter.unusedSimpArgs false
set_option linter.unnecessarySimpa false
theorem zero3 (w:World):(zeroValue 3).run Tryz.prog w = .ok (.int .i64 0) w:=by kernel_rfl
theorem St.look {o:StPlace}{w:World}{t:Nat}{x:Parts}(h:St o w t x) (key:Int) (hw:(Lit.int .i64 key).wf = true) :
  (Instr.lookup 76 (.map (some o.M)) (.int .i64 key) true).run Tryz.prog w = .ok (.tuple #[.int .i64 ((x.mp (.int .i64 key)).getD 0),.bool (x.mp (.int .i64 key)).isSome]) w :=
 h.map.look_ok (int_keyed Tryz.underlying3) Tryz.underlying76 Tryz.underlying3 (zero3 w) (keyOf_int_mk Tryz.underlying3 hw)
set_option maxRecDepth 8000 in
set_option maxHeartbeats 16000000 in
theorem change38 (o:StPlace) (w:World) (t:Nat) (x:Parts) (c:Nat) (v:Ev) (a b:Int) (h:St o w t x) (hm:x.m = x.n) (hv:v.bike = (c:Int)) (hc:c < o.N) (ht:t < 1000) (hw:(Lit.int .i64 v.ride).wf = true) :
  Calls Tryz.prog 38 #[.pointer (some ⟨o.S,0,none⟩),.agg (eC v),.agg #[.int .i64 a,.int .i64 b]] w (Told o w t):=by
 have base:Hid (o.base≤w.heap.size):=Lib.hid (by
  have:=block_lt h.box
  have:=h.lo.1
  omega)
 obtain ⟨v1,v2,v3,v4,v5,v6,v7,v8,v9⟩:=v
 dsimp only at hv hw
 subst hv
 unfold eC
 dsimp only
 have BB:Hid (Below w.heap.size w ((w.alloc (.cells #[.int .i64 v1,.int .i64 v2,.int .i64 v3,.int .i64 v4,.int .i64 v5,.int .i64 (c:Int),.int .i64 v7,.int .i64 v8,.int .i64 v9] 81)).alloc (.cells #[.int .i64 a,.int .i64 b] 65))):=Lib.hid (by (repeat' (first | with_reducible (first | exact Below.refl _ _ | assumption | refine Below.drew ?_ | refine below_drewN ?_ _ | refine Below.alloc ?_ ?_ _ | refine Below.setCell ?_ ?_ _) | go_size)))
 have X0:=Lib.hid (al_keep (al_at w (.cells #[.int .i64 v1,.int .i64 v2,.int .i64 v3,.int .i64 v4,.int .i64 v5,.int .i64 (c:Int),.int .i64 v7,.int .i64 v8,.int .i64 v9] 81) rfl) (.cells #[.int .i64 a,.int .i64 b] 65))
 have X1:=Lib.hid (al_at (w.alloc (.cells #[.int .i64 v1,.int .i64 v2,.int .i64 v3,.int .i64 v4,.int .i64 v5,.int .i64 (c:Int),.int .i64 v7,.int .i64 v8,.int .i64 v9] 81)) (.cells #[.int .i64 a,.int .i64 b] 65) (k:=w.heap.size+1) (by simp))
 obtain ⟨w1,hw1⟩:∃ w1,w1 = (w.alloc (.cells #[.int .i64 v1,.int .i64 v2,.int .i64 v3,.int .i64 v4,.int .i64 v5,.int .i64 (c:Int),.int .i64 v7,.int .i64 v8,.int .i64 v9] 81)).alloc (.cells #[.int .i64 a,.int .i64 b] 65):=⟨_,rfl⟩
 rw[←hw1] at BB X0 X1
 have HW:=Lib.hid hw1
 clear hw1
 have H1:=Lib.hid (h.below BB.out)
 have HM:=Lib.hid hm
 have hoN:=h.few.2
 have nG:o.G < w.heap.size:=(World.ownsRow.lt h.riding o.G rfl).2
 have nP:o.P < w.heap.size:=(World.ownsRow.lt h.spots o.P rfl).2
 have nGS:o.G ≠ o.S:=fun e=>by
  obtain ⟨cs,hcs⟩:=own_typ h.riding
  rw[e,h.box] at hcs
  simp at hcs
 have nPS:o.P ≠ o.S:=fun e=>by
  obtain ⟨cs,hcs⟩:=own_typ h.spots
  rw[e,h.box] at hcs
  simp at hcs
 clear h hm
 have s1:=cell_at H1.out.box 1
 have zs:=szs (block_lt H1.out.box)
 have q8:=cell_at X0.out 8
 have zq:=szs (block_lt X0.out)
 have hl:=(H1.out.below (w':=w1.drew) (below_drewN (Below.refl _ _) 1)).look v9 hw
 go_enter Tryz.func38,Tryz.ntmps38
 go_simp
 iterate 12 (first | rw[←HW.out] | go_step)
 go_wp2_with fail
 go_region
 obtain ⟨w2,hw2⟩:∃ w2,w2 = w1.drew:=⟨_,rfl⟩
 rw[←hw2]
 have b2:Below w1.heap.size w1 w2:=by rw[hw2];exact below_drewN (Below.refl _ _) 1
 have S2:=Lib.hid (H1.out.below b2)
 have X0b:=Lib.hid ((b2.block _ (block_lt X0.out)).trans X0.out)
 have X1b:=Lib.hid ((b2.block _ (block_lt X1.out)).trans X1.out)
 have B2:=Lib.hid ((BB.out.mono base.out).trans (b2.mono (Nat.le_trans base.out BB.out.size)))
 have Z2:=Lib.hid (Nat.le_trans base.out (Nat.le_trans BB.out.size b2.size))
 obtain ⟨mv,hmv⟩:∃ mv,mv = x.mp (.int .i64 v9):=⟨_,rfl⟩
 rw[←hmv]
 have HMV:=Lib.hid hmv
 clear hw2 b2 hl hmv s1 zs q8 zq H1 X0 X1 BB HW
 rcases mv with _ | kk
 ·simp only[Option.getD_none,Option.isSome_none]
  go_wp2_with fail
  go_returns
  refine ⟨rfl,B2.out,?_⟩
  have HMM:=HM.out
  exact ⟨x,HMM,S2.out.told (Nat.le_succ t) (by omega)⟩
 ·have hkr:=S2.out.mpr _ _ HMV.out.symm
  obtain ⟨k,rfl⟩:=Int.eq_ofNat_of_zero_le hkr.1
  have hk:k < x.n:=by have:=HM.out;omega
  clear hkr
  simp only[Option.getD_some,Option.isSome_some]
  obtain ⟨rg,rc,erv,i1,i2,i3,i4,i5,i6⟩:=S2.out.rvAt hk
  obtain ⟨g,m,ela,eln,j1,j2,j3,j4,j5,⟨cs,j6⟩,j7,j8,j9,j10,j11⟩:=S2.out.laAt hk
  have hnt:x.n≤1000:=by have a1:=S2.out.cnt.1;omega
  have hml:m < (x.F k).ln:=by omega
  have hm1:m+1≤1000:=by have a1:=(S2.out.lens k hk).2.1;omega
  obtain ⟨ob,hfb⟩:=Int.eq_ofNat_of_zero_le j10
  rw[hfb] at j7 j11
  have hfn:ob < o.N:=by omega
  have hb:=S2.out.box
  rw[erv] at hb
  have HBX:=Lib.hid hb
  have ngs:g ≠ o.S:=fun e=>by
   rw[←e,j6] at hb
   simp at hb
  have ngs':o.S ≠ g:=fun e=>ngs e.symm
  have hrd:=S2.out.rides
  rw[erv] at hrd
  obtain ⟨cs2,j12⟩:=own_typ hrd
  have ngr:g ≠ rg:=fun e=>by
   rw[←e,j6] at j12
   simp at j12
  have ngr':rg ≠ g:=fun e=>ngr e.symm
  have nq0:g ≠ w.heap.size:=fun e=>by
   rw[e,X0b.out] at j6
   simp at j6
  have nq1:g ≠ w.heap.size+1:=fun e=>by
   rw[e,X1b.out] at j6
   simp at j6
  have nr0:rg ≠ w.heap.size:=fun e=>by
   rw[e,X0b.out] at j12
   simp at j12
  have nr1:rg ≠ w.heap.size+1:=fun e=>by
   rw[e,X1b.out] at j12
   simp at j12
  have s0:=cell_at hb 0
  have zs:=szs (block_lt hb)
  have f7:=i5.c7
  rw[ela,eln] at f7
  have zr:=szs i1
  have zl:=szs j1
  have r0:=cell_at X1b.out 0
  have r1:=cell_at X1b.out 1
  have zx:=szs (block_lt X1b.out)
  have hkI:(k:Int) < (x.n:Int):=by omega
  have ERV:=Lib.hid erv
  have ELA:=Lib.hid ela
  have ELN:=Lib.hid eln
  have HFB:=Lib.hid hfb
  clear erv ela eln i5 hrd j12 j6 j10 j11 hb hfb
   -- the end of the last leg
  have S3:Hid (∃ y3,y3.bike = (x.L k m).bike∧St o ((w2.setCell ⟨g,m * 5+3,none⟩ (.int .i64 a)).setCell ⟨g,m * 5+3+1,none⟩ (.int .i64 b)) t { x with L:=upd x.L k (upd (x.L k) m y3) }):=Lib.hid (S2.out.setL (g:=g) (j:=m) hk ELA.out hml a b)
  have O3:Hid (Off (fun q=>q = g) w2 ((w2.setCell ⟨g,m * 5+3,none⟩ (.int .i64 a)).setCell ⟨g,m * 5+3+1,none⟩ (.int .i64 b))):=Lib.hid off_set2
  obtain ⟨w3,hw3⟩:∃ w3,w3 = (w2.setCell ⟨g,m * 5+3,none⟩ (.int .i64 a)).setCell ⟨g,m * 5+3+1,none⟩ (.int .i64 b):=⟨_,rfl⟩
  rw[←hw3] at S3 O3
  have HW3:=Lib.hid hw3
  have h7:w3.cell? ⟨g,m * 5,none⟩ = some (.int .i64 (ob:Int)):=by
   obtain ⟨y3,e3,h3⟩:=S3.out
   have hr:=h3.legs.row k hk
   dsimp only at hr
   rw[ELA.out] at hr
   have:=Row.cell hr (fun i=>rfl) hml (j:=0) (by decide)
   rw[upd_same] at this
   have e5:(lgs (upd (x.L k) m y3 m))[0]? = some (.int .i64 (ob:Int)):=by rw[upd_same];show some (Value.int .i64 y3.bike) = _;rw[e3,HFB.out]
   exact this.trans e5
  have H7:=Lib.hid h7
  clear hw3 h7
  go_wp2_with fail
  rw[←HW3.out]
  clear s0 zs f7 zr zl r0 r1 zx j5 j7 j8 j9 i6 HW3 H7
  obtain ⟨y3,e3,S3⟩:=S3.out
  have X0c:=Lib.hid ((O3.out.block _ (block_lt X0b.out) (fun e=>nq0 e.symm)).trans X0b.out)
  have X1c:=Lib.hid ((O3.out.block _ (block_lt X1b.out) (fun e=>nq1 e.symm)).trans X1b.out)
  have B3:=Lib.hid (B2.out.trans (O3.out.toBelow Z2.out (fun q hq e=>by have e:q = g:=e;omega)))
  have Z3:=Lib.hid (Nat.le_trans Z2.out O3.out.size)
  have hb:=S3.box
  dsimp only at hb
  rw[ERV.out] at hb
  have s0:=cell_at hb 0
  have q5:=cell_at X0c.out 5
  have r0:=cell_at X1c.out 0
  have r1:=cell_at X1c.out 1
  try dsimp only at s0 q5 r0 r1
  have zs:=szs (block_lt hb)
  have zq:=szs (block_lt X0c.out)
  have zx:=szs (block_lt X1c.out)
  replace S3:=Lib.hid S3
  clear hb B2 Z2 S2 X0b X1b O3 HBX
  obtain ⟨fL,hfL⟩:∃ fL:Nat→List Value,fL = fun j=>lgs (upd x.L k (upd (x.L k) m y3) k j):=⟨_,rfl⟩
  obtain ⟨lc,hlc⟩:∃ lc,lc = (x.F k).lc:=⟨_,rfl⟩
  rw[←hlc]
  rw[←hlc] at j2 j3
  have hrow:Row w3 o.base 67 5 (.slice (some ⟨g,0,none⟩) (m+1) lc) (m+1) fL:=by
   have hr:=S3.out.legs.row k hk
   dsimp only at hr
   rw[ELA.out,ELN.out,←hlc] at hr
   rw[hfL]
   exact hr
  have hfl:∀ j,(fL j).length = 5:=fun j=>by rw[hfL];rfl
  have HROW:=Lib.hid hrow
  have HFL:=Lib.hid hfL
  have HLC:=Lib.hid hlc
  have own:∀ b,b ≠ g→¬ (Value.slice (some ⟨g,0,none⟩) (m+1) lc).ownBlock = some b:=fun b hb e=>hb (by simpa [Value.ownBlock,eq_comm] using e)
  clear hrow hfL hlc
  (obtain ⟨ι,hne,Fw,fb,hF⟩:=apfamily (ApRow.mk w3 o.base 67 5 (.slice (some ⟨g,0,none⟩) (m+1) lc) (m+1) fL (lgs ⟨c,a,b,0,0⟩)).w0 (ApRow.mk w3 o.base 67 5 (.slice (some ⟨g,0,none⟩) (m+1) lc) (m+1) fL (lgs ⟨c,a,b,0,0⟩)).v);have hF:∀ s w',(apPlan (ApRow.mk w3 o.base 67 5 (.slice (some ⟨g,0,none⟩) (m+1) lc) (m+1) fL (lgs ⟨c,a,b,0,0⟩)) 11 [(10,fun b=>.slice (some ⟨b,0,none⟩) 1 1,.cells #[.int .i64 (c:Int),.int .i64 a,.int .i64 b,.int .i64 0,.int .i64 0] 67)] [10]).D s w'→∃ i,w' = Fw i:=fun _ w h=>hF w h;dsimp only at fb
  have fs0:=fun i=>(fb i).cell s0 (own _ ngs')
  have fq5:=fun i=>(fb i).cell q5 (own _ (Ne.symm nq0))
  have fr0:=fun i=>(fb i).cell r0 (own _ (Ne.symm nq1))
  have fr1:=fun i=>(fb i).cell r1 (own _ (Ne.symm nq1))
  clear s0 q5 r0 r1 zs zq zx
  (refine region_chainO (apPlan (ApRow.mk w3 o.base 67 5 (.slice (some ⟨g,0,none⟩) (m+1) lc) (m+1) fL (lgs ⟨c,a,b,0,0⟩)) 11 [(10,fun b=>.slice (some ⟨b,0,none⟩) 1 1,.cells #[.int .i64 (c:Int),.int .i64 a,.int .i64 b,.int .i64 0,.int .i64 0] 67)] [10]) none [] [0,1,2,3,4,5,6,7,8,9,10,11] [12,13,14] mixed (by kernel_rfl) (by kernel_rfl) (apUses (by kernel_rfl)) (apPlan_ok (by simp)) apPlan_start ?_;refine wpPure_nil ?_;simp only[List.map_cons,List.map_nil,Array.getD_eq_getD_getElem?,List.getElem?_toArray,List.getElem?_cons_zero,List.getElem?_cons_succ,Option.getD_some])
  (repeat (first | (refine wpChainO_skip rfl ?_;simp only[Act.put,List.setIfInBounds_toArray,List.set_cons_succ,List.set_cons_zero]) | (refine wpChainO_quiet (hF _) rfl rfl rfl ?_;intro K hK;go_big_quiet_op;go_big_quiet_on) | (refine wpChainO_pure _ rfl rfl (fun w' _=>by go_simp;try rfl) ?_;simp only[Act.put,List.setIfInBounds_toArray,List.set_cons_succ,List.set_cons_zero])))
  (refine wpChainO_alloc _ _ rfl (List.mem_cons_self ..) rfl (fun w'=>by go_simp) (fun b7 hb7=>?_);simp only[Act.put,List.setIfInBounds_toArray,List.set_cons_succ,List.set_cons_zero])
  refine wpChainO_append (x1:=.tmp 49) (x2:=.tmp 54) (ty:=68) (t:=55) rfl rfl rfl rfl (by simp) rfl (.agg #[.int .i64 0,.int .i64 0,.int .i64 0,.int .i64 0,.int .i64 0]) 40 Tryz.underlying68 infoLg rfl (show 0 < 5 by decide) rfl hfl HROW.out Z3.out 10 b7 67 rfl rfl (List.mem_cons_self ..) rfl (lgs_one _) (by dsimp only;omega) (by unfold maxLen;dsimp only;omega) ?_
  intro g4 c4 k1 k2 k3 k4
  simp only[Act.put,List.setIfInBounds_toArray,List.set_cons_succ,List.set_cons_zero]
  refine wpChainO_nil (fun w4 hb4 hl4=>?_)
  have h4:=hb4.2.2
  have O4:Off (fun b=>(Value.slice (some ⟨g,0,none⟩) (m+1) lc).ownBlock = some b) w3 w4:=hb4.1
  dsimp only at h4 k1 k2 k3
  have S5:Hid (∃ y F5 L5,y = ()∧(∀ i,i < x.n→(F5 i).op = (x.F i).op)∧St o (w4.setCell ⟨rg,k * 13+7,none⟩ (.slice (some ⟨g4,0,none⟩) (m+1+1) c4)) (t+1) ⟨x.n,x.rv,x.pv,F5,x.V,x.Z,L5,x.Q,x.B,x.mp,x.mn,x.m⟩):=Lib.hid (by
   have h5:=S3.out.appL (w2:=w4) (rg:=rg) (c:=rc) (g':=g4) (cap:=c4) hk ERV.out ⟨c,a,b,0,0⟩ ⟨by dsimp only;omega,by dsimp only;omega⟩ (by
    have h6:=h4
    rw[HFL.out] at h6
    dsimp only
    rw[ELN.out]
    exact h6) (by dsimp only;rw[ELA.out,ELN.out,←HLC.out];exact O4) (by dsimp only;rw[ELA.out,ELN.out,←HLC.out];exact k1) (Nat.lt_succ_self t) (by omega)
   dsimp only at h5
   rw[ELN.out] at h5
   refine ⟨(),_,_,rfl,fun i _=>?_,h5⟩
   by_cases e:i = k
   ·subst e;rw[upd_same]
   ·rw[upd_ne e])
  have X0d:=Lib.hid ((O4.block _ (block_lt X0c.out) (own _ (Ne.symm nq0))).trans X0c.out)
  have hrd3:=S3.out.rides
  dsimp only at hrd3
  rw[ERV.out] at hrd3
  have hrd4:RdR w4 o.base (.slice (some ⟨rg,0,none⟩) x.n rc) x.n x.F:=RdR.off hrd3 O4 (fun b hb hx=>by
   have e:rg = b:=(by simpa [Value.ownBlock] using hb)
   subst e
   exact own _ ngr' hx)
  have B4:=Lib.hid (B3.out.trans (O4.toBelow Z3.out (fun q hq e=>by have e:g = q:=(by simpa [Value.ownBlock] using e);omega)))
  have Z4:=Lib.hid (Nat.le_trans Z3.out O4.size)
  have f7:=(RdR.at hrd4 hk).c7
  have fr:=fun i=>Row.free hrd4 i
  have zr:=szs (World.ownsRow.lt hrd4 rg rfl).2
  obtain ⟨cs5,j12⟩:=own_typ hrd4
  have O5:Off (fun q=>q = rg) w4 (w4.setCell ⟨rg,k * 13+7,none⟩ (.slice (some ⟨g4,0,none⟩) (m+1+1) c4)):=off_set
  have X0e:=Lib.hid ((O5.block _ (block_lt X0d.out) (fun e=>nr0 (by have e:w.heap.size = rg:=e;exact e.symm))).trans X0d.out)
  have B5:=Lib.hid (B4.out.trans (O5.toBelow Z4.out (fun q hq e=>by have e:q = rg:=e;omega)))
  have Z5:=Lib.hid (Nat.le_trans Z4.out O5.size)
  obtain ⟨w5,hw5⟩:∃ w5,w5 = w4.setCell ⟨rg,k * 13+7,none⟩ (.slice (some ⟨g4,0,none⟩) (m+1+1) c4):=⟨_,rfl⟩
  rw[←hw5] at S5 X0e B5 Z5
  have HW5:=Lib.hid hw5
  clear hw5 hb4 hl4 h4 O4 hrd3 hrd4 hF fb hne fs0 fq5 fr0 fr1 S3 HROW HFL own X0c X1c B3 Z3 O5 B4 Z4 X0d j12 hfl e3 k1
  go_wp2_with fail
  refine onlyN_intro ?_
  rw[←HW5.out]
  clear f7 fr zr HW5
  obtain ⟨_,F5,L5,_,hop,S5⟩:=S5.out
  replace S5:=Lib.hid S5
  have nG1:o.G ≠ w.heap.size:=by omega
  have nP1:o.P ≠ w.heap.size:=by omega
  have nG2:w.heap.size ≠ o.G:=by omega
  have nP2:w.heap.size ≠ o.P:=by omega
  have nSG:o.S ≠ o.G:=fun e=>nGS e.symm
  have hobI:(ob:Int) < (o.N:Int):=by omega
  have hcI:(c:Int) < (o.N:Int):=by omega
  have s2:=cell_at S5.out.box 2
  have s4:=cell_at S5.out.box 4
  have zs:=szs (block_lt S5.out.box)
  have q5:=cell_at X0e.out 5
  have zq:=szs (block_lt X0e.out)
  have v0:w5.cell? ⟨o.G,ob * 1+0,none⟩ = some (.int .i64 (x.V ob)):=Row.cell S5.out.riding (fun i=>rfl) hfn (j:=0) (by decide)
  rw[Nat.mul_one,Nat.add_zero] at v0
  have v1:w5.cell? ⟨o.G,c * 1+0,none⟩ = some (.int .i64 (x.V c)):=Row.cell S5.out.riding (fun i=>rfl) hc (j:=0) (by decide)
  rw[Nat.mul_one,Nat.add_zero] at v1
  have frg:=fun i=>Row.free S5.out.riding i
  have zg:=szs (World.ownsRow.lt S5.out.riding o.G rfl).2
  go_wp2_with fail
  by_cases hoc:c = ob
  ·subst hoc
   go_region
   have S6:Hid (St o ((w5.setCell ⟨o.G,c,none⟩ (.int .i64 (-1))).setCell ⟨o.G,c,none⟩ (.int .i64 (k:Int))).drew (t+1) ⟨x.n,x.rv,x.pv,F5,upd (upd x.V c (-1)) c k,x.Z,L5,x.Q,x.B,x.mp,x.mn,x.m⟩):=Lib.hid ((((S5.out.setV hfn (k:=-1) ⟨by omega,by show (-1:Int) < (x.m:Int);omega⟩).setV hc (k:=(k:Int)) ⟨by omega,by show (k:Int) < (x.m:Int);have:=HM.out;omega⟩)).below (below_drewN (Below.refl _ _) 1))
   have O6:Hid (Off (fun q=>q = o.G) w5 ((w5.setCell ⟨o.G,c,none⟩ (.int .i64 (-1))).setCell ⟨o.G,c,none⟩ (.int .i64 (k:Int))).drew):=Lib.hid (off_set2.drew)
   obtain ⟨w6,hw6⟩:∃ w6,w6 = ((w5.setCell ⟨o.G,c,none⟩ (.int .i64 (-1))).setCell ⟨o.G,c,none⟩ (.int .i64 (k:Int))).drew:=⟨_,rfl⟩
   rw[←hw6] at S6 O6 ⊢
   clear hw6 s2 s4 zs q5 zq v0 v1 frg zg
   have X0f:=Lib.hid ((O6.out.block _ (block_lt X0e.out) (fun e=>nG2 e)).trans X0e.out)
   have hGB:=World.ownsRow.lt S6.out.riding o.G rfl
   have hPB:=World.ownsRow.lt S6.out.spots o.P rfl
   have B6:=Lib.hid (B5.out.trans (O6.out.toBelow Z5.out (fun q hq e=>by have e:q = o.G:=e;omega)))
   have Z6:=Lib.hid (Nat.le_trans Z5.out O6.out.size)
   have s4:=cell_at S6.out.box 4
   have zs:=szs (block_lt S6.out.box)
   have q5:=cell_at X0f.out 5
   have zq:=szs (block_lt X0f.out)
   have p0:w6.cell? ⟨o.P,c * 4,none⟩ = some (.int .i64 (x.Z c).wh):=Row.cell S6.out.spots (fun i=>rfl) hc (j:=0) (by decide)
   have p1:w6.cell? ⟨o.P,c * 4+1,none⟩ = some (.int .i64 (x.Z c).pl):=Row.cell S6.out.spots (fun i=>rfl) hc (j:=1) (by decide)
   have p2:w6.cell? ⟨o.P,c * 4+2,none⟩ = some (.int .i64 (x.Z c).rd):=Row.cell S6.out.spots (fun i=>rfl) hc (j:=2) (by decide)
   have p3:w6.cell? ⟨o.P,c * 4+3,none⟩ = some (.bool (x.Z c).ps):=Row.cell S6.out.spots (fun i=>rfl) hc (j:=3) (by decide)
   have o0:w6.cell? ⟨o.P,c * 4,none⟩ = some (.int .i64 (x.Z c).wh):=Row.cell S6.out.spots (fun i=>rfl) hfn (j:=0) (by decide)
   have o1:w6.cell? ⟨o.P,c * 4+1,none⟩ = some (.int .i64 (x.Z c).pl):=Row.cell S6.out.spots (fun i=>rfl) hfn (j:=1) (by decide)
   have o2:w6.cell? ⟨o.P,c * 4+2,none⟩ = some (.int .i64 (x.Z c).rd):=Row.cell S6.out.spots (fun i=>rfl) hfn (j:=2) (by decide)
   have o3:w6.cell? ⟨o.P,c * 4+3,none⟩ = some (.bool (x.Z c).ps):=Row.cell S6.out.spots (fun i=>rfl) hfn (j:=3) (by decide)
   have frp:=fun i=>Row.free S6.out.spots i
   have zp:=szs hPB.2
   have O7:Off (fun q=>q = o.P) w6 (((((w6.setCell ⟨o.P,c * 4,none⟩ (.int .i64 (x.Z c).wh)).setCell ⟨o.P,c * 4+1,none⟩ (.int .i64 (x.Z c).pl)).setCell ⟨o.P,c * 4+2,none⟩ (.int .i64 (x.Z c).rd)).setCell ⟨o.P,c * 4+3,none⟩ (.bool (x.Z c).ps)).drew):=(off_putCells (X:=fun q=>q = o.P) rfl (sps (x.Z c)) (c * 4) _ (Off.refl _ _)).drew
   have B7:=Lib.hid (B6.out.trans (O7.toBelow Z6.out (fun q hq e=>by have e:q = o.P:=e;omega)))
   have S7:=Lib.hid ((S6.out.setZ hfn (x.Z c) (S6.out.spp c hc)).below (w':=(((((w6.setCell ⟨o.P,c * 4,none⟩ (.int .i64 (x.Z c).wh)).setCell ⟨o.P,c * 4+1,none⟩ (.int .i64 (x.Z c).pl)).setCell ⟨o.P,c * 4+2,none⟩ (.int .i64 (x.Z c).rd)).setCell ⟨o.P,c * 4+3,none⟩ (.bool (x.Z c).ps)).drew)) (below_drewN (Below.refl _ _) 1))
   clear S6 O6 O7 B6 Z6 S5 B5 Z5 X0e X0f hGB hPB
   go_wp2_with fail
   go_region
   go_wp2_with fail
   go_returns
   refine ⟨rfl,B7.out,?_⟩
   have HMM:=HM.out
   refine Exists.intro _ (And.intro ?_ S7.out)
   exact HMM
  ·have hco:ob ≠ c:=fun e=>hoc e.symm
   go_region
   have S6:Hid (St o ((w5.setCell ⟨o.G,ob,none⟩ (.int .i64 (-1))).setCell ⟨o.G,c,none⟩ (.int .i64 (k:Int))).drew (t+1) ⟨x.n,x.rv,x.pv,F5,upd (upd x.V ob (-1)) c k,x.Z,L5,x.Q,x.B,x.mp,x.mn,x.m⟩):=Lib.hid ((((S5.out.setV hfn (k:=-1) ⟨by omega,by show (-1:Int) < (x.m:Int);omega⟩).setV hc (k:=(k:Int)) ⟨by omega,by show (k:Int) < (x.m:Int);have:=HM.out;omega⟩)).below (below_drewN (Below.refl _ _) 1))
   have O6:Hid (Off (fun q=>q = o.G) w5 ((w5.setCell ⟨o.G,ob,none⟩ (.int .i64 (-1))).setCell ⟨o.G,c,none⟩ (.int .i64 (k:Int))).drew):=Lib.hid (off_set2.drew)
   obtain ⟨w6,hw6⟩:∃ w6,w6 = ((w5.setCell ⟨o.G,ob,none⟩ (.int .i64 (-1))).setCell ⟨o.G,c,none⟩ (.int .i64 (k:Int))).drew:=⟨_,rfl⟩
   rw[←hw6] at S6 O6 ⊢
   clear hw6 s2 s4 zs q5 zq v0 v1 frg zg
   have X0f:=Lib.hid ((O6.out.block _ (block_lt X0e.out) (fun e=>nG2 e)).trans X0e.out)
   have hGB:=World.ownsRow.lt S6.out.riding o.G rfl
   have hPB:=World.ownsRow.lt S6.out.spots o.P rfl
   have B6:=Lib.hid (B5.out.trans (O6.out.toBelow Z5.out (fun q hq e=>by have e:q = o.G:=e;omega)))
   have Z6:=Lib.hid (Nat.le_trans Z5.out O6.out.size)
   have s4:=cell_at S6.out.box 4
   have zs:=szs (block_lt S6.out.box)
   have q5:=cell_at X0f.out 5
   have zq:=szs (block_lt X0f.out)
   have p0:w6.cell? ⟨o.P,c * 4,none⟩ = some (.int .i64 (x.Z c).wh):=Row.cell S6.out.spots (fun i=>rfl) hc (j:=0) (by decide)
   have p1:w6.cell? ⟨o.P,c * 4+1,none⟩ = some (.int .i64 (x.Z c).pl):=Row.cell S6.out.spots (fun i=>rfl) hc (j:=1) (by decide)
   have p2:w6.cell? ⟨o.P,c * 4+2,none⟩ = some (.int .i64 (x.Z c).rd):=Row.cell S6.out.spots (fun i=>rfl) hc (j:=2) (by decide)
   have p3:w6.cell? ⟨o.P,c * 4+3,none⟩ = some (.bool (x.Z c).ps):=Row.cell S6.out.spots (fun i=>rfl) hc (j:=3) (by decide)
   have o0:w6.cell? ⟨o.P,ob * 4,none⟩ = some (.int .i64 (x.Z ob).wh):=Row.cell S6.out.spots (fun i=>rfl) hfn (j:=0) (by decide)
   have o1:w6.cell? ⟨o.P,ob * 4+1,none⟩ = some (.int .i64 (x.Z ob).pl):=Row.cell S6.out.spots (fun i=>rfl) hfn (j:=1) (by decide)
   have o2:w6.cell? ⟨o.P,ob * 4+2,none⟩ = some (.int .i64 (x.Z ob).rd):=Row.cell S6.out.spots (fun i=>rfl) hfn (j:=2) (by decide)
   have o3:w6.cell? ⟨o.P,ob * 4+3,none⟩ = some (.bool (x.Z ob).ps):=Row.cell S6.out.spots (fun i=>rfl) hfn (j:=3) (by decide)
   have frp:=fun i=>Row.free S6.out.spots i
   have zp:=szs hPB.2
   have O7:Off (fun q=>q = o.P) w6 (((((w6.setCell ⟨o.P,ob * 4,none⟩ (.int .i64 (x.Z c).wh)).setCell ⟨o.P,ob * 4+1,none⟩ (.int .i64 (x.Z c).pl)).setCell ⟨o.P,ob * 4+2,none⟩ (.int .i64 (x.Z c).rd)).setCell ⟨o.P,ob * 4+3,none⟩ (.bool (x.Z c).ps)).drew):=(off_putCells (X:=fun q=>q = o.P) rfl (sps (x.Z c)) (ob * 4) _ (Off.refl _ _)).drew
   have B7:=Lib.hid (B6.out.trans (O7.toBelow Z6.out (fun q hq e=>by have e:q = o.P:=e;omega)))
   have S7:=Lib.hid ((S6.out.setZ hfn (x.Z c) (S6.out.spp c hc)).below (w':=(((((w6.setCell ⟨o.P,ob * 4,none⟩ (.int .i64 (x.Z c).wh)).setCell ⟨o.P,ob * 4+1,none⟩ (.int .i64 (x.Z c).pl)).setCell ⟨o.P,ob * 4+2,none⟩ (.int .i64 (x.Z c).rd)).setCell ⟨o.P,ob * 4+3,none⟩ (.bool (x.Z c).ps)).drew)) (below_drewN (Below.refl _ _) 1))
   clear S6 O6 O7 B6 Z6 S5 B5 Z5 X0e X0f hGB hPB
   go_wp2_with fail
   go_region
   go_wp2_with fail
   go_returns
   refine ⟨rfl,B7.out,?_⟩
   have HMM:=HM.out
   refine Exists.intro _ (And.intro ?_ S7.out)
   exact HMM
end Go.Proofs.YtdpoppilnokniaaGreatDoor
namespace Go.Proofs.YtdpoppilnokniaaGreatDoor
open Go.RowKit Go.ChangeShapes Go.WideShapes Go.Deep Go.Maps
set_option linter.unusedVariables false
set_option linter.unusedSimpArgs false
set_option linter.unnecessarySimpa false
theorem St.put {o:StPlace}{w:World}{t:Nat}{x:Parts}(h:St o w t x) (key:Int) (hw:(Lit.int .i64 key).wf = true) (y:Nat) (hy:y≤1000) :
  ∃ mp',mp' (.int .i64 key) = some (y:Int)∧(∀ z,z ≠ .int .i64 key→mp' z = x.mp z)∧∃ w',(Instr.mapUpdate 76 (.map (some o.M)) (.int .i64 key) (.int .i64 (y:Int))).run Tryz.prog w = .ok () w'∧IntMap Tryz.prog 3 3 w' o.M (x.mn+1) mp'∧Off (fun i=>i = o.M) w w':=by
 classical
 have h1:(fun z=>if z = Lit.int .i64 key then some (y:Int) else x.mp z) (.int .i64 key) = some (y:Int):=by simp
 have h2:∀ z,z ≠ Lit.int .i64 key→(fun z=>if z = Lit.int .i64 key then some (y:Int) else x.mp z) z = x.mp z:=fun z hz=>by simp [hz]
 exact ⟨_,h1,h2,h.map.put (int_keyed Tryz.underlying3) Tryz.underlying76 Tryz.underlying3 (by have:=h.cnt.2;have:=h.few.1;unfold maxLen;omega) (keyOf_int_mk Tryz.underlying3 hw) (by simp [WideAt.IsKeyLit]) (y:Int) (WalkArith.wf_i64 ⟨by omega,by omega⟩) h1 h2⟩
set_option maxRecDepth 8000 in
set_option maxHeartbeats 16000000 in
theorem begin37 (o:StPlace) (w:World) (t:Nat) (x:Parts) (c:Nat) (v:Ev) (a b:Int) (h:St o w t x) (hm:x.m = x.n) (hv:v.bike = (c:Int)) (hc:c < o.N) (ht:t < 1000) (hw:(Lit.int .i64 v.ride).wf = true) (ha:inI a) :
  Calls Tryz.prog 37 #[.pointer (some ⟨o.S,0,none⟩),.agg (eC v),.agg #[.int .i64 a,.int .i64 b]] w (Told o w t):=by
 have base:Hid (o.base≤w.heap.size):=Lib.hid (by
  have:=block_lt h.box
  have:=h.lo.1
  omega)
 obtain ⟨v1,v2,v3,v4,v5,v6,v7,v8,v9⟩:=v
 dsimp only at hv hw
 subst hv
 unfold eC
 dsimp only
 have BB:Hid (Below w.heap.size w ((w.alloc (.cells #[.int .i64 v1,.int .i64 v2,.int .i64 v3,.int .i64 v4,.int .i64 v5,.int .i64 (c:Int),.int .i64 v7,.int .i64 v8,.int .i64 v9] 81)).alloc (.cells #[.int .i64 a,.int .i64 b] 65))):=Lib.hid (by (repeat' (first | with_reducible (first | exact Below.refl _ _ | assumption | refine Below.drew ?_ | refine below_drewN ?_ _ | refine Below.alloc ?_ ?_ _ | refine Below.setCell ?_ ?_ _) | go_size)))
 have X0:=Lib.hid (al_keep (al_at w (.cells #[.int .i64 v1,.int .i64 v2,.int .i64 v3,.int .i64 v4,.int .i64 v5,.int .i64 (c:Int),.int .i64 v7,.int .i64 v8,.int .i64 v9] 81) rfl) (.cells #[.int .i64 a,.int .i64 b] 65))
 have X1:=Lib.hid (al_at (w.alloc (.cells #[.int .i64 v1,.int .i64 v2,.int .i64 v3,.int .i64 v4,.int .i64 v5,.int .i64 (c:Int),.int .i64 v7,.int .i64 v8,.int .i64 v9] 81)) (.cells #[.int .i64 a,.int .i64 b] 65) (k:=w.heap.size+1) (by simp))
 obtain ⟨w1,hw1⟩:∃ w1,w1 = (w.alloc (.cells #[.int .i64 v1,.int .i64 v2,.int .i64 v3,.int .i64 v4,.int .i64 v5,.int .i64 (c:Int),.int .i64 v7,.int .i64 v8,.int .i64 v9] 81)).alloc (.cells #[.int .i64 a,.int .i64 b] 65):=⟨_,rfl⟩
 rw[←hw1] at BB X0 X1
 have HW:=Lib.hid hw1
 clear hw1
 have H1:=Lib.hid (h.below BB.out)
 have HM:=Lib.hid hm
 have hoN:=h.few.2
 have HCN:=Lib.hid h.cnt.1
 have nG:o.G < w.heap.size:=(World.ownsRow.lt h.riding o.G rfl).2
 have nM:o.M < w.heap.size:=h.map.lt
 have hcI:(c:Int) < (o.N:Int):=by omega
 clear h hm
 have s4:=cell_at H1.out.box 4
 have zs:=szs (block_lt H1.out.box)
 have q5:=cell_at X0.out 5
 have zq:=szs (block_lt X0.out)
 have p0:w1.cell? ⟨o.P,c * 4,none⟩ = some (.int .i64 (x.Z c).wh):=Row.cell H1.out.spots (fun i=>rfl) hc (j:=0) (by decide)
 have p1:w1.cell? ⟨o.P,c * 4+1,none⟩ = some (.int .i64 (x.Z c).pl):=Row.cell H1.out.spots (fun i=>rfl) hc (j:=1) (by decide)
 have p2:w1.cell? ⟨o.P,c * 4+2,none⟩ = some (.int .i64 (x.Z c).rd):=Row.cell H1.out.spots (fun i=>rfl) hc (j:=2) (by decide)
 have p3:w1.cell? ⟨o.P,c * 4+3,none⟩ = some (.bool (x.Z c).ps):=Row.cell H1.out.spots (fun i=>rfl) hc (j:=3) (by decide)
 have zp:=szs (World.ownsRow.lt H1.out.spots o.P rfl).2
 go_enter Tryz.func37,Tryz.ntmps37
 go_simp
 iterate 12 (first | rw[←HW.out] | go_step)
 go_wp2_with fail
 go_region
 obtain ⟨ra,rc,erv⟩:∃ ra rc,x.rv = .slice ra x.n rc:=by
  rcases Row.shape H1.out.rides with ⟨e1,e2⟩ | ⟨g,cap,e1,_⟩
  ·exact ⟨none,0,by rw[e1,e2]⟩
  ·exact ⟨_,cap,e1⟩
 have hnt:x.n≤1000:=by have a1:=H1.out.cnt.1;omega
 have X2:=Lib.hid (al_at w1 (.cells #[.int .i64 (x.Z c).wh,.int .i64 (x.Z c).pl,.int .i64 (x.Z c).rd,.bool (x.Z c).ps] 112) rfl)
 have b2:Below w1.heap.size w1 (w1.alloc (.cells #[.int .i64 (x.Z c).wh,.int .i64 (x.Z c).pl,.int .i64 (x.Z c).rd,.bool (x.Z c).ps] 112)).drew:=(Below.refl w1.heap.size w1).alloc (Nat.le_refl _) _ |>.drew
 obtain ⟨w2,hw2⟩:∃ w2,w2 = (w1.alloc (.cells #[.int .i64 (x.Z c).wh,.int .i64 (x.Z c).pl,.int .i64 (x.Z c).rd,.bool (x.Z c).ps] 112)).drew:=⟨_,rfl⟩
 have X2b:Hid (w2.heap[w1.heap.size]? = some (.cells #[.int .i64 (x.Z c).wh,.int .i64 (x.Z c).pl,.int .i64 (x.Z c).rd,.bool (x.Z c).ps] 112)):=by rw[hw2];exact X2
 rw[←hw2] at b2 ⊢
 obtain ⟨q6,hq6⟩:∃ q6,q6 = w1.heap.size:=⟨_,rfl⟩
 rw[←hq6] at X2b ⊢
 have X0b:=Lib.hid ((b2.block _ (block_lt X0.out)).trans X0.out)
 have X1b:=Lib.hid ((b2.block _ (block_lt X1.out)).trans X1.out)
 have B2:=Lib.hid ((BB.out.mono base.out).trans (b2.mono (Nat.le_trans base.out BB.out.size)))
 have Z2:=Lib.hid (Nat.le_trans base.out (Nat.le_trans BB.out.size b2.size))
 have S2:=Lib.hid ((H1.out.below b2).raise (m:=x.n+1) (by have:=HM.out;omega))
 have nq6:w.heap.size+1 < q6:=by rw[hq6];exact block_lt X1.out
 clear hw2 hq6 b2 X2 s4 zs q5 zq p0 p1 p2 p3 zp H1 X0 X1 HW
 -- the ride's number
 have hd:=(S2.out.below (w':=w2.drew) (below_drewN (Below.refl _ _) 1)).put v9 hw x.n hnt
 dsimp only at hd
 obtain ⟨mp',m1,m2,w3,hrun,m3,m4⟩:=hd
 have hb:=S2.out.box
 dsimp only at hb
 rw[erv] at hb
 have s1:=cell_at hb 1
 have s0:=cell_at hb 0
 have zs:=szs (block_lt hb)
 have q8:=cell_at X0b.out 8
 have zq:=szs (block_lt X0b.out)
 go_wp2_with fail
 go_region
 have ERV:=Lib.hid erv
 have S3:=Lib.hid ((S2.out.below (w':=w2.drew) (below_drewN (Below.refl _ _) 1)).setM m4 m3 m1 m2 (by dsimp only;omega) (t':=t+1) (Nat.le_succ t) (by have a1:=S2.out.cnt.2;dsimp only at a1 ⊢;omega) (by omega))
 have O3:Off (fun i=>i = o.M) w2 w3:=(Off.drew (Off.refl _ w2)).trans m4 (fun _ _ h=>h)
 have X0c:=Lib.hid ((O3.block _ (block_lt X0b.out) (fun e=>by have e:w.heap.size = o.M:=e;omega)).trans X0b.out)
 have X1c:=Lib.hid ((O3.block _ (block_lt X1b.out) (fun e=>by have e:w.heap.size+1 = o.M:=e;omega)).trans X1b.out)
 have X2c:=Lib.hid ((O3.block _ (block_lt X2b.out) (fun e=>by have e:q6 = o.M:=e;omega)).trans X2b.out)
 have hMB:=S2.out.lo.2
 have B3:=Lib.hid (B2.out.trans (O3.toBelow Z2.out (fun q hq e=>by have e:q = o.M:=e;omega)))
 have Z3:=Lib.hid (Nat.le_trans Z2.out O3.size)
 clear hrun m1 m2 m3 m4 O3 s1 s0 zs q8 zq S2 B2 Z2 X0b X1b X2b hb
 have hb:=S3.out.box
 dsimp only at hb
 rw[ERV.out] at hb
 have s2:=cell_at hb 2
 have s0:=cell_at hb 0
 have zs:=szs (block_lt hb)
 have q5:=cell_at X0c.out 5
 have zq:=szs (block_lt X0c.out)
 have u0:w3.cell? ⟨o.G,c * 1+0,none⟩ = some (.int .i64 (x.V c)):=Row.cell S3.out.riding (fun i=>rfl) hc (j:=0) (by decide)
 rw[Nat.mul_one,Nat.add_zero] at u0
 have frg:=fun i=>Row.free S3.out.riding i
 have hGB:=World.ownsRow.lt S3.out.riding o.G rfl
 have zg:=szs hGB.2
 have S4:Hid (St o (w3.setCell ⟨o.G,c,none⟩ (.int .i64 (x.n:Int))).drew (t+1) ⟨x.n,x.rv,x.pv,x.F,upd x.V c x.n,x.Z,x.L,x.Q,x.B,mp',x.mn+1,x.n+1⟩):=Lib.hid ((S3.out.setV hc (k:=(x.n:Int)) ⟨by omega,by dsimp only;omega⟩).below (below_drewN (Below.refl _ _) 1))
 have O4:Hid (Off (fun q=>q = o.G) w3 (w3.setCell ⟨o.G,c,none⟩ (.int .i64 (x.n:Int))).drew):=Lib.hid (off_set.drew)
 go_wp2_with fail
 go_region
 obtain ⟨w4,hw4⟩:∃ w4,w4 = (w3.setCell ⟨o.G,c,none⟩ (.int .i64 (x.n:Int))).drew:=⟨_,rfl⟩
 rw[←hw4] at S4 O4 ⊢
 have X0d:=Lib.hid ((O4.out.block _ (block_lt X0c.out) (fun e=>by have e:w.heap.size = o.G:=e;omega)).trans X0c.out)
 have X1d:=Lib.hid ((O4.out.block _ (block_lt X1c.out) (fun e=>by have e:w.heap.size+1 = o.G:=e;omega)).trans X1c.out)
 have X2d:=Lib.hid ((O4.out.block _ (block_lt X2c.out) (fun e=>by have e:q6 = o.G:=e;omega)).trans X2c.out)
 have B4:=Lib.hid (B3.out.trans (O4.out.toBelow Z3.out (fun q hq e=>by have e:q = o.G:=e;omega)))
 have Z4:=Lib.hid (Nat.le_trans Z3.out O4.out.size)
 clear hw4 hb s2 s0 zs q5 zq u0 frg zg hGB S3 O4 B3 Z3 X0c X1c X2c
 -- the ride laid and appended
 have hb:=S4.out.box
 dsimp only at hb
 rw[ERV.out] at hb
 have hrow:RdR w4 o.base (.slice ra x.n rc) x.n x.F:=by
  have hr:=S4.out.rides
  dsimp only at hr
  rw[ERV.out] at hr
  exact hr
 have HROW:=Lib.hid hrow
 have own:∀ (q:Nat) (cs:Array Value) (T:TypeId) (fz:Nat×Nat),w4.heap[q]? = some (.cells cs T fz)→T ≠ 71→¬ (Value.slice ra x.n rc).ownBlock = some q:=fun q cs T fz hq hT e=>by
  obtain ⟨cs',hcs⟩:=Row.typ hrow e
  rw[hq] at hcs
  simp at hcs
  exact hT hcs.2.1
 have s0:=cell_at hb 0
 have q5:=cell_at X0d.out 5
 have q7:=cell_at X0d.out 7
 have q8:=cell_at X0d.out 8
 have r0:=cell_at X1d.out 0
 have r1:=cell_at X1d.out 1
 have f0:=cell_at X2d.out 0
 have f1:=cell_at X2d.out 1
 try dsimp only at s0 q5 q7 q8 r0 r1 f0 f1
 go_wp2_with fail
 (obtain ⟨ι,hne,Fw,fb,hF⟩:=apfamily (BiRow.mk w4 o.base 71 13 (.slice ra x.n rc) x.n (fun i=>rds (x.F i)) (.cells #[.int .i64 (c:Int),.int .i64 a,.int .i64 b,.int .i64 0,.int .i64 0] 67) (fun b1=>rds ⟨v9,v8,a,b,0,0,true,some ⟨b1,0,none⟩,1,1,none,0,0,(x.Z c).wh,(x.Z c).pl,3,0⟩) 71).w0 (BiRow.mk w4 o.base 71 13 (.slice ra x.n rc) x.n (fun i=>rds (x.F i)) (.cells #[.int .i64 (c:Int),.int .i64 a,.int .i64 b,.int .i64 0,.int .i64 0] 67) (fun b1=>rds ⟨v9,v8,a,b,0,0,true,some ⟨b1,0,none⟩,1,1,none,0,0,(x.Z c).wh,(x.Z c).pl,3,0⟩) 71).v);have hF:∀ s w',(biPlan (BiRow.mk w4 o.base 71 13 (.slice ra x.n rc) x.n (fun i=>rds (x.F i)) (.cells #[.int .i64 (c:Int),.int .i64 a,.int .i64 b,.int .i64 0,.int .i64 0] 67) (fun b1=>rds ⟨v9,v8,a,b,0,0,true,some ⟨b1,0,none⟩,1,1,none,0,0,(x.Z c).wh,(x.Z c).pl,3,0⟩) 71) [14,20,21]).D s w'→∃ i,w' = Fw i:=fun _ w h=>hF w h;dsimp only at fb
 have fs0:=fun i=>(fb i).cell s0 (own _ _ _ _ hb (by decide))
 have fq5:=fun i=>(fb i).cell q5 (own _ _ _ _ X0d.out (by decide))
 have fq7:=fun i=>(fb i).cell q7 (own _ _ _ _ X0d.out (by decide))
 have fq8:=fun i=>(fb i).cell q8 (own _ _ _ _ X0d.out (by decide))
 have fr0:=fun i=>(fb i).cell r0 (own _ _ _ _ X1d.out (by decide))
 have fr1:=fun i=>(fb i).cell r1 (own _ _ _ _ X1d.out (by decide))
 have ff0:=fun i=>(fb i).cell f0 (own _ _ _ _ X2d.out (by decide))
 have ff1:=fun i=>(fb i).cell f1 (own _ _ _ _ X2d.out (by decide))
 clear s0 q5 q7 q8 r0 r1 f0 f1
 (refine region_chainO (biPlan (BiRow.mk w4 o.base 71 13 (.slice ra x.n rc) x.n (fun i=>rds (x.F i)) (.cells #[.int .i64 (c:Int),.int .i64 a,.int .i64 b,.int .i64 0,.int .i64 0] 67) (fun b1=>rds ⟨v9,v8,a,b,0,0,true,some ⟨b1,0,none⟩,1,1,none,0,0,(x.Z c).wh,(x.Z c).pl,3,0⟩) 71) [14,20,21]) .s0 [] [0,1,2,3,4,5,6,7,8,9,10,11,12,13,15,16,17,18,14,19,20,21] [22,23,24] mixed (by kernel_rfl) (by kernel_rfl) (fun _ _ h=>nomatch h) biPlan_ok biPlan_start ?_;refine wpPure_nil ?_;simp only[List.map_cons,List.map_nil,Array.getD_eq_getD_getElem?,List.getElem?_toArray,List.getElem?_cons_zero,List.getElem?_cons_succ,Option.getD_some])
 (repeat (first | (refine wpChainO_skip rfl ?_;simp only[Act.put,List.setIfInBounds_toArray,List.set_cons_succ,List.set_cons_zero]) | (refine wpChainO_quiet (hF _) rfl rfl rfl ?_;intro K hK;go_big_quiet_op;go_big_quiet_on) | (refine wpChainO_pure _ rfl rfl (fun w' _=>by go_simp;try rfl) ?_;simp only[Act.put,List.setIfInBounds_toArray,List.set_cons_succ,List.set_cons_zero])))
 refine wpChainO_bi1 rfl rfl (fun w'=>by go_simp) (fun gl hgl=>?_)
 simp only[Act.put,List.setIfInBounds_toArray,List.set_cons_succ,List.set_cons_zero]
 (repeat (first | (refine wpChainO_skip rfl ?_;simp only[Act.put,List.setIfInBounds_toArray,List.set_cons_succ,List.set_cons_zero]) | (refine wpChainO_quiet (hF _) rfl rfl rfl ?_;intro K hK;go_big_quiet_op;go_big_quiet_on) | (refine wpChainO_pure _ rfl rfl (fun w' _=>by go_simp;try rfl) ?_;simp only[Act.put,List.setIfInBounds_toArray,List.set_cons_succ,List.set_cons_zero])))
 refine wpChainO_bi2 rfl rfl (fun w'=>by go_simp;rfl) (fun b2 hb2=>?_)
 simp only[Act.put,List.setIfInBounds_toArray,List.set_cons_succ,List.set_cons_zero]
 refine wpChainO_bi3 (x1:=.tmp 42) (x2:=.tmp 58) (ty:=32) (t:=59) rfl rfl rfl rfl (by simp) rfl _ 136 Tryz.underlying32 infoRd rfl (show 0 < 13 by decide) rfl (fun i=>rds_len (x.F i)) HROW.out Z4.out rfl (rds_len _) (rds_one _) (by dsimp only;omega) (by unfold maxLen;dsimp only;omega) ?_
 intro g5 c5 k1 k2 k3 k4
 simp only[Act.put,List.setIfInBounds_toArray,List.set_cons_succ,List.set_cons_zero]
 refine wpChainO_nil (fun w5 hb5 hl5=>?_)
 obtain ⟨j1,j2,j3,j4,j5,j6,j7⟩:biK _ (.s3 gl b2 g5 c5) w5:=hb5
 dsimp only at j1 j2 j3 j7 hgl k1 k2 k3
 have hr5:RdR w5 o.base (.slice (some ⟨g5,0,none⟩) (x.n+1) c5) (x.n+1) (upd x.F x.n ⟨v9,v8,a,b,0,0,true,some ⟨gl,0,none⟩,1,1,none,0,0,(x.Z c).wh,(x.Z c).pl,3,0⟩):=Row.congr j7 (fun i _=>by
  by_cases e:i = x.n
  ·subst e;rw[upd_same,upd_same]
  ·rw[upd_ne e,upd_ne e])
 have hleg:Row w5 o.base 67 5 (.slice (some ⟨gl,0,none⟩) 1 1) 1 (fun _=>lgs ⟨c,a,b,0,0⟩):=Row.of_block j3 (Nat.le_trans Z4.out hgl) (fun _=>rfl) rfl (by unfold maxLen;omega)
 have MID:=Lib.hid (S4.out.born1 hgl ⟨v9,v8,a,b,0,0,true,some ⟨gl,0,none⟩,1,1,none,0,0,(x.Z c).wh,(x.Z c).pl,3,0⟩ ⟨c,a,b,0,0⟩ rfl hleg (by dsimp only;rw[ERV.out];exact j1) hr5)
 have hb5b:=(j1.block _ (block_lt hb) (own _ _ _ _ hb (by decide))).trans hb
 have s0:=cell_at hb5b 0
 have frs:=fun i=>free_at hb5b i
 have zs:=szs (block_lt hb5b)
 have O6:Off (fun q=>q = o.S) w5 (w5.setCell ⟨o.S,0,none⟩ (.slice (some ⟨g5,0,none⟩) (x.n+1) c5)):=off_set
 have B6:=Lib.hid ((B4.out.trans (j1.toBelow Z4.out (fun q hq e=>by have:=(World.ownsRow.lt HROW.out q e).1;omega))).trans (O6.toBelow (Nat.le_trans Z4.out j1.size) (fun q hq e=>by have e:q = o.S:=e;have:=S4.out.lo.1;omega)))
 have Z6:=Lib.hid (Nat.le_trans (Nat.le_trans Z4.out j1.size) O6.size)
 obtain ⟨w6,hw6⟩:∃ w6,w6 = w5.setCell ⟨o.S,0,none⟩ (.slice (some ⟨g5,0,none⟩) (x.n+1) c5):=⟨_,rfl⟩
 rw[←hw6] at MID B6 Z6
 have HW6:=Lib.hid hw6
 have S4h:=S4
 clear hw6 hF fb hne fs0 fq5 fq7 fq8 fr0 fr1 ff0 ff1 hl5 j1 j2 j3 j4 j5 j6 j7 hr5 hleg hb HROW own O6 X0d X1d X2d B4 Z4 k1 hgl hb2 hb5b
 go_wp2_with fail
 refine onlyN_intro ?_
 rw[←HW6.out]
 clear s0 frs zs HW6
 -- it is noted that the ride does not pause
 have BB7:Hid (Below w6.heap.size w6 (w6.alloc (.cells #[.bool false] 4))):=Lib.hid (by (repeat' (first | with_reducible (first | exact Below.refl _ _ | assumption | refine Below.drew ?_ | refine below_drewN ?_ _ | refine Below.alloc ?_ ?_ _ | refine Below.setCell ?_ ?_ _) | go_size)))
 have X7:=Lib.hid (al_at w6 (.cells #[.bool false] 4) rfl)
 have hb6:=MID.out.box
 have s3:=cell_at hb6 3
 have zs:=szs (block_lt hb6)
 obtain ⟨w7,hw7⟩:∃ w7,w7 = w6.alloc (.cells #[.bool false] 4):=⟨_,rfl⟩
 rw[←hw7] at BB7 X7
 have HW7:=Lib.hid hw7
 clear hw7
 have MID7:=Lib.hid (MID.out.below BB7.out)
 have B7:=Lib.hid (B6.out.trans (BB7.out.mono Z6.out))
 have Z7:=Lib.hid (Nat.le_trans Z6.out BB7.out.size)
 have hrB:=MID7.out.kept.paused (by simp)
 have HRB:=Lib.hid hrB
 clear hrB
 go_simp
 ((repeat ((fail_if_success (rw[←HW7.out]));go_step));rw[←HW7.out])
 go_wp2_with (at_builtin;go_loud (refine wpList_append_Bo _ rfl (.tmp 66) (.tmp 67) rfl o.base _ x.n x.B rfl HRB.out w6.heap.size false rfl 4 (0,0) X7.out hnt Z7.out ?_))
 intro g8 c8 w8 l1 l2 l3 l4 l5
 have nown:¬ x.pv.ownBlock = some o.S:=fun e=>by
  obtain ⟨cs',hcs⟩:=Row.typ HRB.out e
  rw[MID7.out.box] at hcs
  simp at hcs
 have hb8:=(l5.block _ (block_lt MID7.out.box) nown).trans MID7.out.box
 have S9:=Lib.hid (S4h.out.born2 MID7.out (by dsimp only;omega) l5 l4 ⟨rfl,rfl⟩ ⟨rfl,rfl,rfl⟩ rfl ha ⟨by have:=S4h.out.spp c hc;exact this,⟨by dsimp only;omega,by dsimp only;omega⟩⟩ ⟨by dsimp only;omega,by dsimp only;omega⟩ (t':=t+1) (Nat.le_refl _) (by have:=HCN.out;dsimp only;omega) (by omega))
 have O9:Off (fun q=>q = o.S) w8 (w8.setCell ⟨o.S,3,none⟩ (.slice (some ⟨g8,0,none⟩) (x.n+1) c8)):=off_set
 have B9:=Lib.hid ((B7.out.trans (l5.toBelow Z7.out (fun q hq e=>by have:=(World.ownsRow.lt HRB.out q e).1;omega))).trans (O9.toBelow (Nat.le_trans Z7.out l5.size) (fun q hq e=>by have e:q = o.S:=e;have:=S4h.out.lo.1;omega)))
 have c3:=cell_at hb8 3
 have frs:=fun i=>free_at hb8 i
 have zs8:=szs (block_lt hb8)
 clear s3 zs hb6 l3 l4 l5 nown hb8 O9 MID MID7 X7 BB7 HRB B6 Z6 S4h HW7
 go_wp2_with fail
 go_returns
 refine ⟨rfl,B9.out,?_⟩
 refine Exists.intro _ (And.intro ?_ S9.out)
 rfl
end Go.Proofs.YtdpoppilnokniaaGreatDoor
namespace Go.Proofs.YtdpoppilnokniaaGreatDoor
open Go.RowKit Go.ChangeShapes Go.WideShapes Go.Deep Go.Maps
set_option linter.unusedVariables false
set_option linter.unusedSimpArgs false
set_option linter.unnecessarySimpa false
theorem Told.back {o:StPlace}{w w1:World}{t:Nat}{e:Ending}{w':World}(b:Below o.base w w1) (h:Told o w1 t e w'):Told o w t e w':=⟨h.1,b.trans h.2.1,h.2.2⟩
set_option maxRecDepth 8000 in
set_option maxHeartbeats 16000000 in
theorem tell_call (o:StPlace) (w:World) (t:Nat) (x:Parts) (c:Nat) (v:Ev) (h:St o w t x) (hm:x.m = x.n) (hv:v.bike = (c:Int)) (hc:c < o.N) (ht:t < 1000) (hw:(Lit.int .i64 v.ride).wf = true) (hs:inI v.at'∧inI v.place) (hkd:v.kind = 3∨v.kind = 4∨v.kind = 1∨v.kind = 2∨v.kind = 9) :
  Calls Tryz.prog 18 #[.pointer (some ⟨o.S,0,none⟩),.agg (eC v)] w (Told o w t):=by
 have base:Hid (o.base≤w.heap.size):=Lib.hid (by
  have:=block_lt h.box
  have:=h.lo.1
  omega)
 obtain ⟨v1,v2,v3,v4,v5,v6,v7,v8,v9⟩:=v
 dsimp only at hv hw hs hkd
 subst hv
 have HKD:=Lib.hid hkd
 clear hkd
 unfold eC
 dsimp only
 have BB:Hid (Below w.heap.size w ((w.alloc (.cells #[.int .i64 v1,.int .i64 v2,.int .i64 v3,.int .i64 v4,.int .i64 v5,.int .i64 (c:Int),.int .i64 v7,.int .i64 v8,.int .i64 v9] 81)).alloc (.cells #[.int .i64 v3,.int .i64 v4] 65))):=Lib.hid (by (repeat' (first | with_reducible (first | exact Below.refl _ _ | assumption | refine Below.drew ?_ | refine below_drewN ?_ _ | refine Below.alloc ?_ ?_ _ | refine Below.setCell ?_ ?_ _) | go_size)))
 have X0:=Lib.hid (al_keep (al_at w (.cells #[.int .i64 v1,.int .i64 v2,.int .i64 v3,.int .i64 v4,.int .i64 v5,.int .i64 (c:Int),.int .i64 v7,.int .i64 v8,.int .i64 v9] 81) rfl) (.cells #[.int .i64 v3,.int .i64 v4] 65))
 have X1:=Lib.hid (al_at (w.alloc (.cells #[.int .i64 v1,.int .i64 v2,.int .i64 v3,.int .i64 v4,.int .i64 v5,.int .i64 (c:Int),.int .i64 v7,.int .i64 v8,.int .i64 v9] 81)) (.cells #[.int .i64 v3,.int .i64 v4] 65) (k:=w.heap.size+1) (by simp))
 obtain ⟨w1,hw1⟩:∃ w1,w1 = (w.alloc (.cells #[.int .i64 v1,.int .i64 v2,.int .i64 v3,.int .i64 v4,.int .i64 v5,.int .i64 (c:Int),.int .i64 v7,.int .i64 v8,.int .i64 v9] 81)).alloc (.cells #[.int .i64 v3,.int .i64 v4] 65):=⟨_,rfl⟩
 rw[←hw1] at BB X0 X1
 have HW:=Lib.hid hw1
 clear hw1
 have H1:=Lib.hid (h.below BB.out)
 have HM:=Lib.hid hm
 have B1:=Lib.hid (BB.out.mono base.out)
 have hoN:=h.few.2
 have hcI:(c:Int) < (o.N:Int):=by omega
 clear h hm
 have s2:=cell_at H1.out.box 2
 have zs:=szs (block_lt H1.out.box)
 have q4:=cell_at X0.out 4
 have q5:=cell_at X0.out 5
 have zq:=szs (block_lt X0.out)
 have u0:w1.cell? ⟨o.G,c * 1+0,none⟩ = some (.int .i64 (x.V c)):=Row.cell H1.out.riding (fun i=>rfl) hc (j:=0) (by decide)
 rw[Nat.mul_one,Nat.add_zero] at u0
 have zg:=szs (World.ownsRow.lt H1.out.riding o.G rfl).2
 go_enter Tryz.func18,Tryz.ntmps18
 go_simp
 ((repeat ((fail_if_success (rw[←HW.out]));go_step));rw[←HW.out])
 go_wp2_with fail
 go_region
 obtain ⟨w2,hw2⟩:∃ w2,w2 = w1.drew:=⟨_,rfl⟩
 rw[←hw2]
 have b2:Below w1.heap.size w1 w2:=by rw[hw2];exact below_drewN (Below.refl _ _) 1
 have S2:=Lib.hid (H1.out.below b2)
 have X0b:=Lib.hid ((b2.block _ (block_lt X0.out)).trans X0.out)
 have X1b:=Lib.hid ((b2.block _ (block_lt X1.out)).trans X1.out)
 have B2:=Lib.hid (B1.out.trans (b2.mono (Nat.le_trans base.out BB.out.size)))
 have Z2:=Lib.hid (Nat.le_trans base.out (Nat.le_trans BB.out.size b2.size))
 obtain ⟨vk,hvk⟩:∃ vk,vk = x.V c:=⟨_,rfl⟩
 rw[←hvk]
 have HV:=S2.out.rid c hc
 rw[←hvk] at HV
 clear hw2 hvk b2 s2 zs q4 q5 zq u0 zg H1 X0 X1 HW BB B1
 have q2:=cell_at X0b.out 0
 have q0:=cell_at X0b.out 1
 have q1:=cell_at X0b.out 2
 have q3:=cell_at X0b.out 3
 have q4:=cell_at X0b.out 4
 have q5:=cell_at X0b.out 5
 have q6:=cell_at X0b.out 6
 have q7:=cell_at X0b.out 7
 have q8:=cell_at X0b.out 8
 have r0:=cell_at X1b.out 0
 have r1:=cell_at X1b.out 1
 have zq:=szs (block_lt X0b.out)
 have zr:=szs (block_lt X1b.out)
 have hkd:=HKD.out
 clear HKD
 rcases hkd with rfl | rfl | rfl | rfl | rfl
 ·go_wp2_with fail
  refine (begin37 o w2 t x c ⟨v1,v2,v3,v4,3,c,v7,v8,v9⟩ v3 v4 S2.out HM.out rfl hc ht hw hs.1).mono ?_
  intro e w3 h3
  obtain ⟨rfl,h4⟩:=Told.back B2.out h3
  clear h3
  go_wp2_with fail
  go_returns
  exact ⟨rfl,h4⟩
 ·go_wp2_with fail
  refine (change38 o w2 t x c ⟨v1,v2,v3,v4,4,c,v7,v8,v9⟩ v3 v4 S2.out HM.out rfl hc ht hw).mono ?_
  intro e w3 h3
  obtain ⟨rfl,h4⟩:=Told.back B2.out h3
  clear h3
  go_wp2_with fail
  go_returns
  exact ⟨rfl,h4⟩
 ·go_wp2_with fail
  refine (leave40 o w2 t x c ⟨1,v7,0,false⟩ v3 v4 S2.out HM.out hc ht hs.2).mono ?_
  intro e w3 h3
  obtain ⟨rfl,h4⟩:=Told.back B2.out h3
  clear h3
  go_wp2_with fail
  go_returns
  exact ⟨rfl,h4⟩
 ·go_wp2_with fail
  refine (leave40 o w2 t x c ⟨2,v7,0,false⟩ v3 v4 S2.out HM.out hc ht hs.2).mono ?_
  intro e w3 h3
  obtain ⟨rfl,h4⟩:=Told.back B2.out h3
  clear h3
  go_wp2_with fail
  go_returns
  exact ⟨rfl,h4⟩
 ·go_wp2_with fail
  refine (leave40 o w2 t x c ⟨6,0,0,false⟩ v3 v4 S2.out HM.out hc ht ⟨by show (-9223372036854775808:Int)≤0;omega,by show (0:Int)≤_;omega⟩).mono ?_
  intro e w3 h3
  obtain ⟨rfl,h4⟩:=Told.back B2.out h3
  clear h3
  go_wp2_with fail
  go_returns
  exact ⟨rfl,h4⟩
set_option maxRecDepth 8000 in
set_option maxHeartbeats 16000000 in
theorem tell_six (o:StPlace) (w:World) (t:Nat) (x:Parts) (c:Nat) (v:Ev) (h:St o w t x) (hm:x.m = x.n) (hv:v.bike = (c:Int)) (hc:c < o.N) (ht:t < 1000) (hw:(Lit.int .i64 v.ride).wf = true) (hs:inI v.at'∧inI v.place) (hkd:v.kind = 6) :
  Calls Tryz.prog 18 #[.pointer (some ⟨o.S,0,none⟩),.agg (eC v)] w (Told o w t):=by
 have base:Hid (o.base≤w.heap.size):=Lib.hid (by
  have:=block_lt h.box
  have:=h.lo.1
  omega)
 obtain ⟨v1,v2,v3,v4,v5,v6,v7,v8,v9⟩:=v
 dsimp only at hv hw hs hkd
 subst hv
 have HKD:=Lib.hid hkd
 clear hkd
 unfold eC
 dsimp only
 have BB:Hid (Below w.heap.size w ((w.alloc (.cells #[.int .i64 v1,.int .i64 v2,.int .i64 v3,.int .i64 v4,.int .i64 v5,.int .i64 (c:Int),.int .i64 v7,.int .i64 v8,.int .i64 v9] 81)).alloc (.cells #[.int .i64 v3,.int .i64 v4] 65))):=Lib.hid (by (repeat' (first | with_reducible (first | exact Below.refl _ _ | assumption | refine Below.drew ?_ | refine below_drewN ?_ _ | refine Below.alloc ?_ ?_ _ | refine Below.setCell ?_ ?_ _) | go_size)))
 have X0:=Lib.hid (al_keep (al_at w (.cells #[.int .i64 v1,.int .i64 v2,.int .i64 v3,.int .i64 v4,.int .i64 v5,.int .i64 (c:Int),.int .i64 v7,.int .i64 v8,.int .i64 v9] 81) rfl) (.cells #[.int .i64 v3,.int .i64 v4] 65))
 have X1:=Lib.hid (al_at (w.alloc (.cells #[.int .i64 v1,.int .i64 v2,.int .i64 v3,.int .i64 v4,.int .i64 v5,.int .i64 (c:Int),.int .i64 v7,.int .i64 v8,.int .i64 v9] 81)) (.cells #[.int .i64 v3,.int .i64 v4] 65) (k:=w.heap.size+1) (by simp))
 obtain ⟨w1,hw1⟩:∃ w1,w1 = (w.alloc (.cells #[.int .i64 v1,.int .i64 v2,.int .i64 v3,.int .i64 v4,.int .i64 v5,.int .i64 (c:Int),.int .i64 v7,.int .i64 v8,.int .i64 v9] 81)).alloc (.cells #[.int .i64 v3,.int .i64 v4] 65):=⟨_,rfl⟩
 rw[←hw1] at BB X0 X1
 have HW:=Lib.hid hw1
 clear hw1
 have H1:=Lib.hid (h.below BB.out)
 have HM:=Lib.hid hm
 have B1:=Lib.hid (BB.out.mono base.out)
 have hoN:=h.few.2
 have hcI:(c:Int) < (o.N:Int):=by omega
 clear h hm
 have s2:=cell_at H1.out.box 2
 have zs:=szs (block_lt H1.out.box)
 have q4:=cell_at X0.out 4
 have q5:=cell_at X0.out 5
 have zq:=szs (block_lt X0.out)
 have u0:w1.cell? ⟨o.G,c * 1+0,none⟩ = some (.int .i64 (x.V c)):=Row.cell H1.out.riding (fun i=>rfl) hc (j:=0) (by decide)
 rw[Nat.mul_one,Nat.add_zero] at u0
 have zg:=szs (World.ownsRow.lt H1.out.riding o.G rfl).2
 go_enter Tryz.func18,Tryz.ntmps18
 go_simp
 ((repeat ((fail_if_success (rw[←HW.out]));go_step));rw[←HW.out])
 go_wp2_with fail
 go_region
 obtain ⟨w2,hw2⟩:∃ w2,w2 = w1.drew:=⟨_,rfl⟩
 rw[←hw2]
 have b2:Below w1.heap.size w1 w2:=by rw[hw2];exact below_drewN (Below.refl _ _) 1
 have S2:=Lib.hid (H1.out.below b2)
 have X0b:=Lib.hid ((b2.block _ (block_lt X0.out)).trans X0.out)
 have X1b:=Lib.hid ((b2.block _ (block_lt X1.out)).trans X1.out)
 have B2:=Lib.hid (B1.out.trans (b2.mono (Nat.le_trans base.out BB.out.size)))
 have Z2:=Lib.hid (Nat.le_trans base.out (Nat.le_trans BB.out.size b2.size))
 obtain ⟨vk,hvk⟩:∃ vk,vk = x.V c:=⟨_,rfl⟩
 rw[←hvk]
 have HV:=S2.out.rid c hc
 rw[←hvk] at HV
 clear hw2 hvk b2 s2 zs q4 q5 zq u0 zg H1 X0 X1 HW BB B1
 have q2:=cell_at X0b.out 0
 have q0:=cell_at X0b.out 1
 have q1:=cell_at X0b.out 2
 have q3:=cell_at X0b.out 3
 have q4:=cell_at X0b.out 4
 have q5:=cell_at X0b.out 5
 have q6:=cell_at X0b.out 6
 have q7:=cell_at X0b.out 7
 have q8:=cell_at X0b.out 8
 have r0:=cell_at X1b.out 0
 have r1:=cell_at X1b.out 1
 have zq:=szs (block_lt X0b.out)
 have zr:=szs (block_lt X1b.out)
 have hkd:=HKD.out
 clear HKD
 subst hkd
 by_cases hneg:vk < 0
 ·have t1:decide (vk≥0) = false:=decide_eq_false (by omega)
  have t2:decide (0≤vk) = false:=decide_eq_false (by omega)
  go_wp2_with fail
  go_returns
  refine ⟨rfl,B2.out,?_⟩
  have HMM:=HM.out
  refine Exists.intro _ (And.intro ?_ (S2.out.told (Nat.le_succ t) (by omega)))
  exact HMM
 ·obtain ⟨k,rfl⟩:=Int.eq_ofNat_of_zero_le (show 0≤vk by omega)
  have t1:decide ((k:Int)≥0) = true:=decide_eq_true (by omega)
  have t2:decide (0≤(k:Int)) = true:=decide_eq_true (by omega)
  have hk:k < x.n:=by have:=HM.out;omega
  go_wp2_with fail
  refine (resume39 o w2 t x k v3 v4 S2.out hk).mono ?_
  rintro e w3 ⟨rfl,b3,o3,Bx,Qx,h3⟩
  have S3:=Lib.hid (h3.told (Nat.le_succ t) (by omega))
  have B3:=Lib.hid (B2.out.trans b3)
  clear h3 o3 b3
  go_wp2_with fail
  go_returns
  refine ⟨rfl,B3.out,?_⟩
  have HMM:=HM.out
  refine Exists.intro _ (And.intro ?_ S3.out)
  exact HMM
set_option maxRecDepth 8000 in
set_option maxHeartbeats 16000000 in
theorem tell_none (o:StPlace) (w:World) (t:Nat) (x:Parts) (c:Nat) (v:Ev) (h:St o w t x) (hm:x.m = x.n) (hv:v.bike = (c:Int)) (hc:c < o.N) (ht:t < 1000) (hw:(Lit.int .i64 v.ride).wf = true) (hs:inI v.at'∧inI v.place) (hkd:v.kind ≠ 3∧v.kind ≠ 4∧v.kind ≠ 1∧v.kind ≠ 2∧v.kind ≠ 9) (hkd2:v.kind ≠ 5) :
  Calls Tryz.prog 18 #[.pointer (some ⟨o.S,0,none⟩),.agg (eC v)] w (Told o w t):=by
 have HK:=hkd2
 have z3:(v.kind == 3) = false:=by simp [hkd.1]
 have z4:(v.kind == 4) = false:=by simp [hkd.2.1]
 have z1:(v.kind == 1) = false:=by simp [hkd.2.2.1]
 have z2:(v.kind == 2) = false:=by simp [hkd.2.2.2.1]
 have z9:(v.kind == 9) = false:=by simp [hkd.2.2.2.2]
 have z5:(v.kind == 5) = false:=by simp [hkd2]
 by_cases h6:v.kind = 6
 ·exact tell_six o w t x c v h hm hv hc ht hw hs h6
 ·have z6:(v.kind == 6) = false:=by simp [h6]
  clear h6
  have base:Hid (o.base≤w.heap.size):=Lib.hid (by
   have:=block_lt h.box
   have:=h.lo.1
   omega)
  obtain ⟨v1,v2,v3,v4,v5,v6,v7,v8,v9⟩:=v
  dsimp only at hv hw hs hkd
  subst hv
  have HKD:=Lib.hid hkd
  clear hkd
  unfold eC
  dsimp only
  have BB:Hid (Below w.heap.size w ((w.alloc (.cells #[.int .i64 v1,.int .i64 v2,.int .i64 v3,.int .i64 v4,.int .i64 v5,.int .i64 (c:Int),.int .i64 v7,.int .i64 v8,.int .i64 v9] 81)).alloc (.cells #[.int .i64 v3,.int .i64 v4] 65))):=Lib.hid (by (repeat' (first | with_reducible (first | exact Below.refl _ _ | assumption | refine Below.drew ?_ | refine below_drewN ?_ _ | refine Below.alloc ?_ ?_ _ | refine Below.setCell ?_ ?_ _) | go_size)))
  have X0:=Lib.hid (al_keep (al_at w (.cells #[.int .i64 v1,.int .i64 v2,.int .i64 v3,.int .i64 v4,.int .i64 v5,.int .i64 (c:Int),.int .i64 v7,.int .i64 v8,.int .i64 v9] 81) rfl) (.cells #[.int .i64 v3,.int .i64 v4] 65))
  have X1:=Lib.hid (al_at (w.alloc (.cells #[.int .i64 v1,.int .i64 v2,.int .i64 v3,.int .i64 v4,.int .i64 v5,.int .i64 (c:Int),.int .i64 v7,.int .i64 v8,.int .i64 v9] 81)) (.cells #[.int .i64 v3,.int .i64 v4] 65) (k:=w.heap.size+1) (by simp))
  obtain ⟨w1,hw1⟩:∃ w1,w1 = (w.alloc (.cells #[.int .i64 v1,.int .i64 v2,.int .i64 v3,.int .i64 v4,.int .i64 v5,.int .i64 (c:Int),.int .i64 v7,.int .i64 v8,.int .i64 v9] 81)).alloc (.cells #[.int .i64 v3,.int .i64 v4] 65):=⟨_,rfl⟩
  rw[←hw1] at BB X0 X1
  have HW:=Lib.hid hw1
  clear hw1
  have H1:=Lib.hid (h.below BB.out)
  have HM:=Lib.hid hm
  have B1:=Lib.hid (BB.out.mono base.out)
  have hoN:=h.few.2
  have hcI:(c:Int) < (o.N:Int):=by omega
  clear h hm
  have s2:=cell_at H1.out.box 2
  have zs:=szs (block_lt H1.out.box)
  have q4:=cell_at X0.out 4
  have q5:=cell_at X0.out 5
  have zq:=szs (block_lt X0.out)
  have u0:w1.cell? ⟨o.G,c * 1+0,none⟩ = some (.int .i64 (x.V c)):=Row.cell H1.out.riding (fun i=>rfl) hc (j:=0) (by decide)
  rw[Nat.mul_one,Nat.add_zero] at u0
  have zg:=szs (World.ownsRow.lt H1.out.riding o.G rfl).2
  go_enter Tryz.func18,Tryz.ntmps18
  go_simp
  ((repeat ((fail_if_success (rw[←HW.out]));go_step));rw[←HW.out])
  go_wp2_with fail
  go_region
  obtain ⟨w2,hw2⟩:∃ w2,w2 = w1.drew:=⟨_,rfl⟩
  rw[←hw2]
  have b2:Below w1.heap.size w1 w2:=by rw[hw2];exact below_drewN (Below.refl _ _) 1
  have S2:=Lib.hid (H1.out.below b2)
  have X0b:=Lib.hid ((b2.block _ (block_lt X0.out)).trans X0.out)
  have X1b:=Lib.hid ((b2.block _ (block_lt X1.out)).trans X1.out)
  have B2:=Lib.hid (B1.out.trans (b2.mono (Nat.le_trans base.out BB.out.size)))
  have Z2:=Lib.hid (Nat.le_trans base.out (Nat.le_trans BB.out.size b2.size))
  obtain ⟨vk,hvk⟩:∃ vk,vk = x.V c:=⟨_,rfl⟩
  rw[←hvk]
  have HV:=S2.out.rid c hc
  rw[←hvk] at HV
  clear hw2 hvk b2 s2 zs q4 q5 zq u0 zg H1 X0 X1 HW BB B1
  have q2:=cell_at X0b.out 0
  have q0:=cell_at X0b.out 1
  have q1:=cell_at X0b.out 2
  have q3:=cell_at X0b.out 3
  have q4:=cell_at X0b.out 4
  have q5:=cell_at X0b.out 5
  have q6:=cell_at X0b.out 6
  have q7:=cell_at X0b.out 7
  have q8:=cell_at X0b.out 8
  have r0:=cell_at X1b.out 0
  have r1:=cell_at X1b.out 1
  have zq:=szs (block_lt X0b.out)
  have zr:=szs (block_lt X1b.out)
  try dsimp only at z1 z2 z3 z4 z5 z6 z9
  clear HK hkd2 HKD
  go_wp2_with fail
  go_returns
  refine ⟨rfl,B2.out,?_⟩
  have HMM:=HM.out
  refine Exists.intro _ (And.intro ?_ (S2.out.told (Nat.le_succ t) (by omega)))
  exact HMM
set_option maxRecDepth 8000 in
set_option maxHeartbeats 16000000 in
theorem tell_pause (o:StPlace) (w:World) (t:Nat) (x:Parts) (c:Nat) (v:Ev) (h:St o w t x) (hm:x.m = x.n) (hv:v.bike = (c:Int)) (hc:c < o.N) (ht:t < 1000) (hw:(Lit.int .i64 v.ride).wf = true) (hs:inI v.at'∧inI v.place) (hkd:v.kind = 5) :
  Calls Tryz.prog 18 #[.pointer (some ⟨o.S,0,none⟩),.agg (eC v)] w (Told o w t):=by
 have base:Hid (o.base≤w.heap.size):=Lib.hid (by
  have:=block_lt h.box
  have:=h.lo.1
  omega)
 obtain ⟨v1,v2,v3,v4,v5,v6,v7,v8,v9⟩:=v
 dsimp only at hv hw hs hkd
 subst hv
 have HKD:=Lib.hid hkd
 clear hkd
 unfold eC
 dsimp only
 have BB:Hid (Below w.heap.size w ((w.alloc (.cells #[.int .i64 v1,.int .i64 v2,.int .i64 v3,.int .i64 v4,.int .i64 v5,.int .i64 (c:Int),.int .i64 v7,.int .i64 v8,.int .i64 v9] 81)).alloc (.cells #[.int .i64 v3,.int .i64 v4] 65))):=Lib.hid (by (repeat' (first | with_reducible (first | exact Below.refl _ _ | assumption | refine Below.drew ?_ | refine below_drewN ?_ _ | refine Below.alloc ?_ ?_ _ | refine Below.setCell ?_ ?_ _) | go_size)))
 have X0:=Lib.hid (al_keep (al_at w (.cells #[.int .i64 v1,.int .i64 v2,.int .i64 v3,.int .i64 v4,.int .i64 v5,.int .i64 (c:Int),.int .i64 v7,.int .i64 v8,.int .i64 v9] 81) rfl) (.cells #[.int .i64 v3,.int .i64 v4] 65))
 have X1:=Lib.hid (al_at (w.alloc (.cells #[.int .i64 v1,.int .i64 v2,.int .i64 v3,.int .i64 v4,.int .i64 v5,.int .i64 (c:Int),.int .i64 v7,.int .i64 v8,.int .i64 v9] 81)) (.cells #[.int .i64 v3,.int .i64 v4] 65) (k:=w.heap.size+1) (by simp))
 obtain ⟨w1,hw1⟩:∃ w1,w1 = (w.alloc (.cells #[.int .i64 v1,.int .i64 v2,.int .i64 v3,.int .i64 v4,.int .i64 v5,.int .i64 (c:Int),.int .i64 v7,.int .i64 v8,.int .i64 v9] 81)).alloc (.cells #[.int .i64 v3,.int .i64 v4] 65):=⟨_,rfl⟩
 rw[←hw1] at BB X0 X1
 have HW:=Lib.hid hw1
 clear hw1
 have H1:=Lib.hid (h.below BB.out)
 have HM:=Lib.hid hm
 have B1:=Lib.hid (BB.out.mono base.out)
 have hoN:=h.few.2
 have hcI:(c:Int) < (o.N:Int):=by omega
 clear h hm
 have s2:=cell_at H1.out.box 2
 have zs:=szs (block_lt H1.out.box)
 have q4:=cell_at X0.out 4
 have q5:=cell_at X0.out 5
 have zq:=szs (block_lt X0.out)
 have u0:w1.cell? ⟨o.G,c * 1+0,none⟩ = some (.int .i64 (x.V c)):=Row.cell H1.out.riding (fun i=>rfl) hc (j:=0) (by decide)
 rw[Nat.mul_one,Nat.add_zero] at u0
 have zg:=szs (World.ownsRow.lt H1.out.riding o.G rfl).2
 go_enter Tryz.func18,Tryz.ntmps18
 go_simp
 ((repeat ((fail_if_success (rw[←HW.out]));go_step));rw[←HW.out])
 go_wp2_with fail
 go_region
 obtain ⟨w2,hw2⟩:∃ w2,w2 = w1.drew:=⟨_,rfl⟩
 rw[←hw2]
 have b2:Below w1.heap.size w1 w2:=by rw[hw2];exact below_drewN (Below.refl _ _) 1
 have S2:=Lib.hid (H1.out.below b2)
 have X0b:=Lib.hid ((b2.block _ (block_lt X0.out)).trans X0.out)
 have X1b:=Lib.hid ((b2.block _ (block_lt X1.out)).trans X1.out)
 have B2:=Lib.hid (B1.out.trans (b2.mono (Nat.le_trans base.out BB.out.size)))
 have Z2:=Lib.hid (Nat.le_trans base.out (Nat.le_trans BB.out.size b2.size))
 obtain ⟨vk,hvk⟩:∃ vk,vk = x.V c:=⟨_,rfl⟩
 rw[←hvk]
 have HV:=S2.out.rid c hc
 rw[←hvk] at HV
 clear hw2 hvk b2 s2 zs q4 q5 zq u0 zg H1 X0 X1 HW BB B1
 have q2:=cell_at X0b.out 0
 have q0:=cell_at X0b.out 1
 have q1:=cell_at X0b.out 2
 have q3:=cell_at X0b.out 3
 have q4:=cell_at X0b.out 4
 have q5:=cell_at X0b.out 5
 have q6:=cell_at X0b.out 6
 have q7:=cell_at X0b.out 7
 have q8:=cell_at X0b.out 8
 have r0:=cell_at X1b.out 0
 have r1:=cell_at X1b.out 1
 have zq:=szs (block_lt X0b.out)
 have zr:=szs (block_lt X1b.out)
 have hkd:=HKD.out
 clear HKD
 subst hkd
 by_cases hneg:vk < 0
 ·have t1:decide (vk≥0) = false:=decide_eq_false (by omega)
  have t2:decide (0≤vk) = false:=decide_eq_false (by omega)
  go_wp2_with fail
  go_returns
  refine ⟨rfl,B2.out,?_⟩
  have HMM:=HM.out
  refine Exists.intro _ (And.intro ?_ (S2.out.told (Nat.le_succ t) (by omega)))
  exact HMM
 ·obtain ⟨k,rfl⟩:=Int.eq_ofNat_of_zero_le (show 0≤vk by omega)
  have t1:decide ((k:Int)≥0) = true:=decide_eq_true (by omega)
  have t2:decide (0≤(k:Int)) = true:=decide_eq_true (by omega)
  have hk:k < x.n:=by have:=HM.out;omega
  have hkI:(k:Int) < (x.n:Int):=by omega
  obtain ⟨rg,rc,erv,i1,i2,i3,i4,i5,i6⟩:=S2.out.rvAt hk
  have hnt:x.n≤1000:=by have a1:=S2.out.cnt.1;omega
  have hpn:(x.F k).pn≤1000:=by have a1:=(S2.out.lens k hk).2.2;omega
  have hb:=S2.out.box
  rw[erv] at hb
  have hrd:=S2.out.rides
  rw[erv] at hrd
  obtain ⟨cs2,j12⟩:=own_typ hrd
  obtain ⟨pa,hpa⟩:∃ pa,pa = (x.F k).pa:=⟨_,rfl⟩
  obtain ⟨pn,hpnn⟩:∃ pn,pn = (x.F k).pn:=⟨_,rfl⟩
  obtain ⟨pc,hpc⟩:∃ pc,pc = (x.F k).pc:=⟨_,rfl⟩
  have hrow:=S2.out.pauses.row k hk
  try dsimp only at hrow
  have f8:=i5.c8
  rw[←hpa,←hpnn,←hpc] at hrow f8
  rw[←hpnn] at hpn
  have HPA:=Lib.hid (And.intro hpa (And.intro hpnn hpc))
  clear hpa hpnn hpc
  obtain ⟨fP,hfP⟩:∃ fP:Nat→List Value,fP = fun j=>pas (x.Q k j):=⟨_,rfl⟩
  rw[←hfP] at hrow
  have hfl:∀ j,(fP j).length = 4:=fun j=>by rw[hfP];rfl
  have HFP:=Lib.hid hfP
  have HROW:=Lib.hid hrow
  have own:∀ (q:Nat) (cs:Array Value) (T:TypeId) (fz:Nat×Nat),w2.heap[q]? = some (.cells cs T fz)→T ≠ 108→¬ (Value.slice pa pn pc).ownBlock = some q:=fun q cs T fz hq hT e=>by
   obtain ⟨cs',hcs⟩:=Row.typ hrow e
   rw[hq] at hcs
   simp at hcs
   exact hT hcs.2.1
  have s0:=cell_at hb 0
  have ERV:=Lib.hid erv
  have HRD:=Lib.hid hrd
  try dsimp only at s0 r0 r1
  clear hfP hrow erv hrd
  have zs:=szs (block_lt hb)
  have zrr:=szs i1
  go_wp2_with fail
  (obtain ⟨ι,hne,Fw,fb,hF⟩:=apfamily (ApRow.mk w2 o.base 108 4 (.slice pa pn pc) pn fP (pas ⟨v3,v4,0,0⟩)).w0 (ApRow.mk w2 o.base 108 4 (.slice pa pn pc) pn fP (pas ⟨v3,v4,0,0⟩)).v);have hF:∀ s w',(apPlan (ApRow.mk w2 o.base 108 4 (.slice pa pn pc) pn fP (pas ⟨v3,v4,0,0⟩)) 16 [(15,fun b=>.slice (some ⟨b,0,none⟩) 1 1,.cells #[.int .i64 v3,.int .i64 v4,.int .i64 0,.int .i64 0] 108)] [15]).D s w'→∃ i,w' = Fw i:=fun _ w h=>hF w h;dsimp only at fb
  have fs0:=fun i=>(fb i).cell s0 (own _ _ _ _ hb (by decide))
  have ff8:=fun i=>(fb i).cell f8 (own _ _ _ _ j12 (by decide))
  have fr0:=fun i=>(fb i).cell r0 (own _ _ _ _ X1b.out (by decide))
  have fr1:=fun i=>(fb i).cell r1 (own _ _ _ _ X1b.out (by decide))
  clear s0 f8 r0 r1 q0 q1 q2 q3 q4 q5 q6 q7 q8 zq zr zs zrr
  (refine region_chainO (apPlan (ApRow.mk w2 o.base 108 4 (.slice pa pn pc) pn fP (pas ⟨v3,v4,0,0⟩)) 16 [(15,fun b=>.slice (some ⟨b,0,none⟩) 1 1,.cells #[.int .i64 v3,.int .i64 v4,.int .i64 0,.int .i64 0] 108)] [15]) none [] [0,1,2,3,4,5,6,7,8,9,10,11,12,13,14,15,16] [17,18,19] mixed (by kernel_rfl) (by kernel_rfl) (apUses (by kernel_rfl)) (apPlan_ok (by simp)) apPlan_start ?_;refine wpPure_nil ?_;simp only[List.map_cons,List.map_nil,Array.getD_eq_getD_getElem?,List.getElem?_toArray,List.getElem?_cons_zero,List.getElem?_cons_succ,Option.getD_some])
  (repeat (first | (refine wpChainO_skip rfl ?_;simp only[Act.put,List.setIfInBounds_toArray,List.set_cons_succ,List.set_cons_zero]) | (refine wpChainO_quiet (hF _) rfl rfl rfl ?_;intro K hK;go_big_quiet_op;go_big_quiet_on) | (refine wpChainO_pure _ rfl rfl (fun w' _=>by go_simp;try rfl) ?_;simp only[Act.put,List.setIfInBounds_toArray,List.set_cons_succ,List.set_cons_zero])))
  (refine wpChainO_alloc _ _ rfl (List.mem_cons_self ..) rfl (fun w'=>by go_simp) (fun b7 hb7=>?_);simp only[Act.put,List.setIfInBounds_toArray,List.set_cons_succ,List.set_cons_zero])
  refine wpChainO_append (x1:=.tmp 49) (x2:=.tmp 52) (ty:=69) (t:=53) rfl rfl rfl rfl (by simp) rfl _ 32 Tryz.underlying69 infoPu rfl (show 0 < 4 by decide) rfl hfl HROW.out Z2.out 15 b7 108 rfl rfl (List.mem_cons_self ..) rfl (pas_one _) (by dsimp only;omega) (by unfold maxLen;dsimp only;omega) ?_
  intro g4 c4 k1 k2 k3 k4
  simp only[Act.put,List.setIfInBounds_toArray,List.set_cons_succ,List.set_cons_zero]
  refine wpChainO_nil (fun w4 hb4 hl4=>?_)
  have h4:=hb4.2.2
  have O4:Off (fun b=>(Value.slice pa pn pc).ownBlock = some b) w2 w4:=hb4.1
  try dsimp only at h4 k1 k2 k3
  have S5:Hid (∃ y F5 Q5,y = ()∧St o (w4.setCell ⟨rg,k * 13+8,none⟩ (.slice (some ⟨g4,0,none⟩) (pn+1) c4)) (t+1) ⟨x.n,x.rv,x.pv,F5,x.V,x.Z,x.L,Q5,x.B,x.mp,x.mn,x.m⟩):=Lib.hid (by
   obtain ⟨p1,p2,p3⟩:=HPA.out
   have h5:=S2.out.appQ (w2:=w4) (rg:=rg) (c:=rc) (g':=g4) (cap:=c4) hk ERV.out ⟨v3,v4,0,0⟩ (by
    rw[←p2]
    have h6:=h4
    rw[HFP.out] at h6
    exact h6) (by rw[←p1,←p2,←p3];exact O4) (by rw[←p1,←p2,←p3];exact k1) (Nat.lt_succ_self t) (by omega)
   rw[←p2] at h5
   exact ⟨(),_,_,rfl,h5⟩)
  have hrd4:RdR w4 o.base (.slice (some ⟨rg,0,none⟩) x.n rc) x.n x.F:=RdR.off HRD.out O4 (fun b hb hx=>by
   have e:rg = b:=(by simpa [Value.ownBlock] using hb)
   subst e
   exact own _ _ _ _ j12 (by decide) hx)
  have B4:=Lib.hid (B2.out.trans (O4.toBelow Z2.out (fun q hq e=>by have:=(World.ownsRow.lt HROW.out q e).1;omega)))
  have Z4:=Lib.hid (Nat.le_trans Z2.out O4.size)
  have f8:=(RdR.at hrd4 hk).c8
  have fr:=fun i=>Row.free hrd4 i
  have zr:=szs (World.ownsRow.lt hrd4 rg rfl).2
  have O5:Off (fun q=>q = rg) w4 (w4.setCell ⟨rg,k * 13+8,none⟩ (.slice (some ⟨g4,0,none⟩) (pn+1) c4)):=off_set
  have B5:=Lib.hid (B4.out.trans (O5.toBelow Z4.out (fun q hq e=>by have e:q = rg:=e;omega)))
  have Z5:=Lib.hid (Nat.le_trans Z4.out O5.size)
  obtain ⟨w5,hw5⟩:∃ w5,w5 = w4.setCell ⟨rg,k * 13+8,none⟩ (.slice (some ⟨g4,0,none⟩) (pn+1) c4):=⟨_,rfl⟩
  rw[←hw5] at S5 B5 Z5
  have HW5:=Lib.hid hw5
  clear hw5 hb4 hl4 h4 O4 hrd4 hF fb hne fs0 ff8 fr0 fr1 HROW own O5 B4 Z4 B2 Z2 X0b X1b j12 hb k1 HRD i5 i6 HFP HPA hfl
  go_wp2_with fail
  refine onlyN_intro ?_
  rw[←HW5.out]
  clear f8 fr zr HW5
  obtain ⟨_,F5,Q5,_,S5⟩:=S5.out
  obtain ⟨pg,pc5,epv,p1,p2,p3,p4,p5,p6⟩:=S5.pvAt hk
  try dsimp only at epv p5
  have S6:=Lib.hid (S5.setB (g:=pg) (c:=pc5) epv hk true)
  have O6:Off (fun q=>q = pg) w5 (w5.setCell ⟨pg,k,none⟩ (.bool true)):=off_set
  have B6:=Lib.hid (B5.out.trans (O6.toBelow Z5.out (fun q hq e=>by have e:q = pg:=e;omega)))
  have hb:=S5.box
  dsimp only at hb
  rw[epv] at hb
  have s3:=cell_at hb 3
  have zs:=szs (block_lt hb)
  have zp:=szs p1
  clear S5 hb epv O6 p1 p4 S2
  go_wp2_with fail
  go_returns
  refine ⟨rfl,B6.out,?_⟩
  have HMM:=HM.out
  refine Exists.intro _ (And.intro ?_ S6.out)
  exact HMM
theorem tell18 (o:StPlace) (w:World) (t:Nat) (x:Parts) (c:Nat) (v:Ev) (h:St o w t x) (hm:x.m = x.n) (hv:v.bike = (c:Int)) (hc:c < o.N) (ht:t < 1000) (hw:(Lit.int .i64 v.ride).wf = true) (hs:inI v.at'∧inI v.place) :
  Calls Tryz.prog 18 #[.pointer (some ⟨o.S,0,none⟩),.agg (eC v)] w (Told o w t):=by
 by_cases h5:v.kind = 5
 ·exact tell_pause o w t x c v h hm hv hc ht hw hs h5
 ·by_cases hk:v.kind = 3∨v.kind = 4∨v.kind = 1∨v.kind = 2∨v.kind = 9
  ·exact tell_call o w t x c v h hm hv hc ht hw hs hk
  ·exact tell_none o w t x c v h hm hv hc ht hw hs ⟨fun e=>hk (.inl e),fun e=>hk (.inr (.inl e)),fun e=>hk (.inr (.inr (.inl e))),fun e=>hk (.inr (.inr (.inr (.inl e)))),fun e=>hk (.inr (.inr (.inr (.inr e))))⟩ h5
end Go.Proofs.YtdpoppilnokniaaGreatDoor
