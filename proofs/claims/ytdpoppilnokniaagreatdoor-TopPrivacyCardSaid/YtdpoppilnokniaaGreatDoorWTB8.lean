/- Theorems of this seat. -/
import Derived.Test.YtdpoppilnokniaaGreatDoorWTBZ
import Derived.Test.YtdpoppilnokniaaGreatDoorWFLU
namespace Go.Proofs.YtdpoppilnokniaaGreatDoor
open Go.RowKit Go.ChangeShapes Go.WideShapes Go.Deep
set_option linter.unusedVariables false
set_option linter.unusedSimpArgs false
set_option linter.unnecessarySimpa false
def awkF (b:Nat):Rid:=⟨1,0,100,100,900,905,false,some ⟨b,0,none⟩,1,1,none,0,0,2,0,2,1⟩
def awkL:Leg:=⟨0,100,100,900,905⟩
theorem awk_ok (b:Nat):TabOk (fun _=>0) 64 1 0 86400 1 1 (fun _=>awkF b) (fun _ _=>awkL) (fun _ _=>⟨0,0,0,0⟩) :=
 {sz:=by omega
  when':=by omega
  rides:=⟨by omega,by omega,fun i hi=>by rfl,fun i j hij hj=>by omega⟩
  zones:=fun i hi _=>by
   have h:zendE (fun _=>0) 64 (awkF b) = (0,0,0):=by rfl
   unfold zOk
   rw[h]
   exact ⟨rfl,by decide,by decide⟩ }
theorem awk_one (b:Nat):celX (fun _=>0) 64 1 0 86400 1 1 (fun _=>awkF b) 0 = 1:=by rfl
theorem awk_in (b:Nat):inI (awkF b).fp∧inI (awkF b).pl:=⟨show (-9223372036854775808:Int)≤0∧(0:Int)≤9223372036854775807 from by omega,show (-9223372036854775808:Int)≤1∧(1:Int)≤9223372036854775807 from by omega⟩
theorem awk_nok:NOK 1 (fun _=>5):=⟨by omega,by omega,fun i hi=>⟨by show (1:Int)≤5;omega,by show (5:Int)≤16777216;omega,fun h=>Int.le_refl _⟩⟩
theorem awk_tot:totS (fun _=>5) (1 - 1) = 5:=by rfl
def awkW (w:World) (MC:Array Value):World :=
 (((((((w.alloc (.cells MC 3)).alloc (.cells #[.int .i64 100,.int .i64 100] 65)).alloc (.cells #[.int .i64 900,.int .i64 905] 65)).alloc (.cells #[.int .i64 0,.int .i64 100,.int .i64 100,.int .i64 900,.int .i64 905] 67)).alloc
  (.cells #[.int .i64 1,.int .i64 0,.int .i64 100,.int .i64 100,.int .i64 900,.int .i64 905,.bool false,.slice (some ⟨w.heap.size+1+1+1,0,none⟩) 1 1,.slice none 0 0,.int .i64 2,.int .i64 0,.int .i64 2,.int .i64 1] 71)).alloc (.cells #[.int .i64 5] 3)).alloc (.cells #[.int .u64 4,.int .u64 4] 72))
theorem sl_block {w:World}{b n:Nat}{e:TypeId}{s:Nat}{cs:Array Value}{f:Nat→List Value}(h:w.heap[b]? = some (.cells cs e (0,0))) (hf:∀ i,(f i).length = s) (hc:cs.toList = flat f n) (hn:n≤1000):Sl w s (some ⟨b,0,none⟩) n n f:=by
 obtain ⟨ao',c',e,h⟩:=Row.toSl (Row.of_block (base:=0) h (Nat.zero_le _) hf hc (by unfold maxLen;omega)) hf
 cases e
 exact h
structure AwkM (w wa:World):Prop where
 bel:Below w.heap.size w wa
 zon:Sl wa 1 (some ⟨w.heap.size,0,none⟩) 64 64 (nuR (fun _=>0))
 rds:RdsIn wa (some ⟨w.heap.size+1+1+1+1,0,none⟩) 1 1 (fun _=>awkF (w.heap.size+1+1+1)) (fun _ _=>awkL) (fun _ _=>⟨0,0,0,0⟩)
 wts:Sl wa 1 (some ⟨w.heap.size+1+1+1+1+1,0,none⟩) 1 1 (nuR (fun _=>5))
 wds:Sl wa 1 (some ⟨w.heap.size+1+1+1+1+1+1,0,none⟩) 2 2 (u6R (fun _=>4))
 lt:w.heap.size+1+1+1+1 < wa.heap.size
theorem AwkM.below {w wa w':World}(h:AwkM w wa) (hb:Below wa.heap.size wa w'):AwkM w w' :=
 ⟨h.bel.trans (hb.mono h.bel.size),h.zon.below hb,h.rds.below hb,h.wts.below hb,h.wds.below hb,Nat.lt_of_lt_of_le h.lt hb.size⟩
theorem awk_world (w:World):AwkM w (awkW w (madeCells #[.int .i64 0] 64)):=by
 have b:Below w.heap.size w (awkW w (madeCells #[.int .i64 0] 64)):=by unfold awkW;(repeat' (first | with_reducible (first | exact Below.refl _ _ | assumption | refine Below.drew ?_ | refine below_drewN ?_ _ | refine Below.alloc ?_ ?_ _ | refine Below.setCell ?_ ?_ _) | go_size))
 have x0:(awkW w (madeCells #[.int .i64 0] 64)).heap[w.heap.size]? = _:=al_keep (al_keep (al_keep (al_keep (al_keep (al_keep (al_at w _ rfl) _) _) _) _) _) _
 have x3:(awkW w (madeCells #[.int .i64 0] 64)).heap[w.heap.size+1+1+1]? = _:=al_keep (al_keep (al_keep (al_at _ _ (by simp)) _) _) _
 have x4:(awkW w (madeCells #[.int .i64 0] 64)).heap[w.heap.size+1+1+1+1]? = _:=al_keep (al_keep (al_at _ _ (by simp)) _) _
 have x5:(awkW w (madeCells #[.int .i64 0] 64)).heap[w.heap.size+1+1+1+1+1]? = _:=al_keep (al_at _ _ (by simp)) _
 have x6:(awkW w (madeCells #[.int .i64 0] 64)).heap[w.heap.size+1+1+1+1+1+1]? = _:=al_at _ _ (by simp)
 have hlegs:Sl (awkW w (madeCells #[.int .i64 0] 64)) 5 (some ⟨w.heap.size+1+1+1,0,none⟩) 1 1 (fun _=>lgs awkL):=sl_block x3 (fun _=>rfl) rfl (by omega)
 have hpaus:Sl (awkW w (madeCells #[.int .i64 0] 64)) 4 none 0 0 (fun _=>pas ⟨0,0,0,0⟩):=⟨by omega,by omega,fun _=>⟨rfl,rfl⟩,fun _=>rfl,fun i hi=>absurd hi (Nat.not_lt_zero _)⟩
 refine ⟨b,?_,⟨sl_block x4 (fun _=>rfl) rfl (by omega),fun i hi=>⟨hlegs,hpaus,show (1:Nat)≤1000∧0≤1000 from by omega⟩⟩,sl_block x5 (fun _=>rfl) rfl (by omega),sl_block x6 (fun _=>rfl) rfl (by omega),block_lt x4⟩
 obtain ⟨ao',c',e,h⟩:=Row.toSl (Row.of_made (base:=0) (n:=64) (s:=1) (z:=#[.int .i64 0]) rfl (by decide) x0 (Nat.zero_le _) (by unfold maxLen;omega)) (fun _=>rfl)
 cases e
 exact h
set_option maxRecDepth 8000 in
set_option maxHeartbeats 16000000 in
theorem awake6 (w:World) (hg:Sgn w):Calls Tryz.prog 6 #[] w fun e w'=>e = .returned (.bool true)∧Below w.heap.size w w':=by
 have hmk:(Instr.makeSlice 22 (.int .i64 64) (.int .i64 64)).run Tryz.prog w = .ok (.slice (some ⟨w.heap.size,0,none⟩) 64 64) (w.alloc (.cells (madeCells #[.int .i64 0] 64) 3)):=mkIn 64 (by omega) w
 obtain ⟨MC,hmc⟩:∃ MC,MC = madeCells #[.int .i64 0] 64:=⟨_,rfl⟩
 rw[←hmc] at hmk
 have HMC:=Lib.hid hmc
 clear hmc
 go_enter Tryz.func6,Tryz.ntmps6
 obtain ⟨wa,hwa⟩:∃ wa,wa = awkW w MC:=⟨_,rfl⟩
 have HA:Hid (AwkM w wa):=Lib.hid (by rw[hwa,HMC.out];exact awk_world w)
 have HWA:=Lib.hid hwa
 have CN:=Lib.hid (Noisy11 (some ⟨w.heap.size,0,none⟩) 64 64 (fun _=>0) 1 (some ⟨w.heap.size+1+1+1+1,0,none⟩) 1 1 (fun _=>awkF (w.heap.size+1+1+1)) (fun _ _=>awkL) (fun _ _=>⟨0,0,0,0⟩) 0 86400 1 (some ⟨w.heap.size+1+1+1+1+1,0,none⟩) 1 1 (fun _=>5) (some ⟨w.heap.size+1+1+1+1+1+1,0,none⟩) 2 2 (fun _=>4) wa HA.out.zon HA.out.rds (by omega) (fun i hi=>awk_in _) (fun a ha=>by cases ha;exact HA.out.lt) HA.out.wts (hg.below HA.out.bel) HA.out.wds (fun i hi=>by decide))
 have CE:=Lib.hid (fun w' (bb:Below wa.heap.size wa w')=>Exact8 (some ⟨w.heap.size,0,none⟩) 64 64 (fun _=>0) 1 (some ⟨w.heap.size+1+1+1+1,0,none⟩) 1 1 (fun _=>awkF (w.heap.size+1+1+1)) (fun _ _=>awkL) (fun _ _=>⟨0,0,0,0⟩) 0 86400 1 1 0 w' (HA.out.below bb).zon (HA.out.below bb).rds (by omega) (fun i hi=>awk_in _) (fun a ha=>by cases ha;exact (HA.out.below bb).lt) (Or.inr ⟨rfl,rfl⟩))
 rw[show ((1:Nat):Int) = 1 from rfl] at CE
 clear hwa
 go_wp2_with fail
 change Calls _ _ _ (awkW w MC) _
 rw[←HWA.out]
 refine CN.out.mono ?_
 rintro e w8 ⟨⟨c,r,rfl,h1,h2,h3⟩,b8⟩
 obtain rfl:r = 0:=h3 (awk_ok _) (by omega) rfl awk_nok (by omega) (by rw[awk_tot];show (4:Int) < 5;omega)
 obtain ⟨_,zv,wv,Y,hc,hrz,hrw,_,hY⟩:=h2 rfl
 simp only[Value.agg.injEq] at hc
 subst hc
 have hrz':Row w8 wa.heap.size 3 1 zv 1 (nuR Y):=hrz
 obtain ⟨za,zc,rfl,hsz⟩:=Row.toSl hrz' (fun _=>rfl)
 obtain ⟨wo,wc,rfl,hsw⟩:=Row.toSl hrw (fun _=>rfl)
 have hy1:Y 0 = 1:=by
  have:=hY 0 (by decide)
  rw[awk_one] at this
  omega
 have l1:=hsz.hm
 have l2:=hsz.hc
 have B8:=Lib.hid b8
 have HSZ:=Lib.hid hsz
 clear hrz hrz' hrw hsw h1 h2 h3 hY hsz CN HWA b8
 have B9:Hid (Below w8.heap.size w8 (w8.alloc (.cells #[.int .i64 0,.int .i64 86400,.int .i64 1,.int .i64 1,.int .i64 1,.slice za 1 zc,.slice none 0 0,.slice none 0 0,.slice none 0 0,.slice wo 1 wc] 42))):=Lib.hid (by (repeat' (first | with_reducible (first | exact Below.refl _ _ | assumption | refine Below.drew ?_ | refine below_drewN ?_ _ | refine Below.alloc ?_ ?_ _ | refine Below.setCell ?_ ?_ _) | go_size)));have X9:=Lib.hid (al_at w8 (.cells #[.int .i64 0,.int .i64 86400,.int .i64 1,.int .i64 1,.int .i64 1,.slice za 1 zc,.slice none 0 0,.slice none 0 0,.slice none 0 0,.slice wo 1 wc] 42) rfl);obtain ⟨w9,hw9⟩:∃ w9,w9 = w8.alloc (.cells #[.int .i64 0,.int .i64 86400,.int .i64 1,.int .i64 1,.int .i64 1,.slice za 1 zc,.slice none 0 0,.slice none 0 0,.slice none 0 0,.slice wo 1 wc] 42):=⟨_,rfl⟩;rw[←hw9] at B9 X9;have HW9:=Lib.hid hw9;clear hw9;have z9:=szs (block_lt X9.out);skip
 go_simp
 ((repeat ((fail_if_success (rw[←HW9.out]));go_step));rw[←HW9.out])
 have CE9:=Lib.hid (CE.out w9 (B8.out.trans (B9.out.mono B8.out.size)))
 clear HW9 CE
 go_wp2_with fail
 refine CE9.out.mono ?_
 rintro e w10 ⟨⟨c,r,rfl,h0,h1,h2,h3⟩,b10⟩
 obtain rfl:r = 0:=h3 (awk_ok _) (by omega) rfl (by omega) (by omega)
 obtain ⟨_,pc,hc',qc,qh,qa,qb,H,hcc,hr1,hr2,_,_,_,hone⟩:=h2 rfl
 simp only[Value.agg.injEq] at hcc
 subst hcc
 have hH:H 0 = false:=hone rfl 0 (by decide)
 have hp1:w10.cell? ⟨qc,0,none⟩ = some (.int .i64 1):=by
  have:=Row.cell hr1 (fun i=>rfl) (i:=0) (by decide) (j:=0) (by decide)
  rw[this]
  show some (Value.int .i64 (pubU _ H 1 0)) = _
  unfold pubU
  rw[hH,if_neg (fun e=>by simp at e)]
  exact congrArg (fun z=>some (Value.int .i64 z)) (awk_one _)
 have hh1:w10.cell? ⟨qh,0,none⟩ = some (.bool false):=by
  have:=Row.cell hr2 (fun i=>rfl) (i:=0) (by decide) (j:=0) (by decide)
  rw[this]
  show some (Value.bool (H 0)) = _
  rw[hH]
 have l3:1≤pc∧pc≤9223372036854775807:=by
  obtain ⟨ao',c',e,hh⟩:=Row.toSl hr1 (fun _=>rfl)
  cases e
  exact ⟨hh.hm,hh.hc⟩
 have l4:1≤hc'∧hc'≤9223372036854775807:=by
  obtain ⟨ao',c',e,hh⟩:=Row.toSl hr2 (fun _=>rfl)
  cases e
  exact ⟨hh.hm,hh.hc⟩
 obtain ⟨l31,l32⟩:=l3
 obtain ⟨l41,l42⟩:=l4
 have X10:=Lib.hid ((b10.block _ (block_lt X9.out)).trans X9.out)
 have B10:=Lib.hid (B8.out.trans ((B9.out.trans (b10.mono B9.out.size)).mono B8.out.size))
 have HSZ10:=Lib.hid ((HSZ.out.below B9.out).below b10)
 clear hr1 hr2 hone h0 h1 h2 h3 b10 CE9 HSZ B8 B9 X9 z9
 have B11:Hid (Below w10.heap.size w10 (w10.alloc (.cells #[.int .i64 0,.int .i64 86400,.int .i64 1,.int .i64 1,.int .i64 1,.slice (some ⟨qc,0,none⟩) 1 pc,.slice (some ⟨qh,0,none⟩) 1 hc',.slice (some ⟨qa,0,none⟩) 1 1,.slice (some ⟨qb,0,none⟩) 1 1,.slice none 0 0] 42))):=Lib.hid (by (repeat' (first | with_reducible (first | exact Below.refl _ _ | assumption | refine Below.drew ?_ | refine below_drewN ?_ _ | refine Below.alloc ?_ ?_ _ | refine Below.setCell ?_ ?_ _) | go_size)));have X11:=Lib.hid (al_at w10 (.cells #[.int .i64 0,.int .i64 86400,.int .i64 1,.int .i64 1,.int .i64 1,.slice (some ⟨qc,0,none⟩) 1 pc,.slice (some ⟨qh,0,none⟩) 1 hc',.slice (some ⟨qa,0,none⟩) 1 1,.slice (some ⟨qb,0,none⟩) 1 1,.slice none 0 0] 42) rfl);obtain ⟨w11,hw11⟩:∃ w11,w11 = w10.alloc (.cells #[.int .i64 0,.int .i64 86400,.int .i64 1,.int .i64 1,.int .i64 1,.slice (some ⟨qc,0,none⟩) 1 pc,.slice (some ⟨qh,0,none⟩) 1 hc',.slice (some ⟨qa,0,none⟩) 1 1,.slice (some ⟨qb,0,none⟩) 1 1,.slice none 0 0] 42):=⟨_,rfl⟩;rw[←hw11] at B11 X11;have HW11:=Lib.hid hw11;clear hw11;have z11:=szs (block_lt X11.out);skip
 go_simp
 ((repeat ((fail_if_success (rw[←HW11.out]));go_step));rw[←HW11.out])
 clear HW11
 have k5:=cell_kept B11.out (cell_at X10.out 5)
 have m5:=cell_at X11.out 5
 have m6:=cell_at X11.out 6
 have p1:=cell_kept B11.out hp1
 have q1:=cell_kept B11.out hh1
 obtain ⟨gz,oz,rfl,hgz,cz⟩:=(HSZ10.out.below B11.out).num1 (j:=0) (by omega)
 rw[hy1,Nat.add_zero] at cz
 have zz:=szs hgz
 have zp:=szs (cell_lt p1)
 have zq:=szs (cell_lt q1)
 have zk:=szs (Nat.lt_of_lt_of_le (block_lt X10.out) B11.out.size)
 have B12:=Lib.hid (HA.out.bel.trans ((B10.out.trans (B11.out.mono B10.out.size)).mono HA.out.bel.size))
 go_wp2_with fail
 go_returns
 exact ⟨rfl,B12.out⟩
end Go.Proofs.YtdpoppilnokniaaGreatDoor
