/- Theorems of this seat. -/
import Derived.Test.YtdpoppilnokniaaGreatDoorWFLU
namespace Go.Proofs.YtdpoppilnokniaaGreatDoor
open Go.RowKit Go.ChangeShapes Go.WideShapes Go.Deep
set_option linter.unusedVariables false
set_option linter.unusedSimpArgs false
set_option linter.unnecessarySimpa false
def IvlP (X:Nat→Int) (H:Nat→Bool) (i:Nat) (lo hi:Int):Prop :=
 (H i = false∧lo = X i∧hi = X i)∨(H i = true∧(Exists fun s:Int=>Exists fun r:Int=>Exists fun on:Nat→Int=>Exists fun on':Nat→Int=>FlowOk (arcAt (arcsOf X H i 4)) on (arcsOf X H i 4).length (2+((i % 2:Nat):Int)) ((i / 2:Nat):Int) s∧FlowOk (arcAt (arcsOf X H i 4)) on' (arcsOf X H i 4).length ((i / 2:Nat):Int) (2+((i % 2:Nat):Int)) r∧lo = X i - min (X i) r∧hi = X i+s∧0≤s∧s≤1000000∧0≤r∧r≤1000000))
def IvlE (X:Nat→Int) (H:Nat→Bool) (i:Nat) (e:Ending):Prop:=∃ lo hi:Int,e = .returned (.agg #[.int .i64 lo,.int .i64 hi])∧IvlP X H i lo hi
set_option maxRecDepth 8000 in
set_option maxHeartbeats 16000000 in
theorem intervalF (s p:Nat) (co:Option Addr) (cc:Nat) (X:Nat→Int) (ho:Option Addr) (hc:Nat) (H:Nat→Bool) (i:Nat) (w:World) (hX:Sl w 1 co p cc (nuR X)) (hH:Sl w 1 ho p hc (boR H)) (hi:i < p) (hh:H i = false) :
  Calls Tryz.prog 63 #[.agg #[.int .i64 s,.int .i64 s,.slice co p cc],.slice ho p hc,.int .i64 i] w fun e w'=>IvlE X H i e∧Below w.heap.size w w':=by
 have hcm:=hX.hm
 have hcc:=hX.hc
 have hhm:=hH.hm
 have hhc:=hH.hc
 have B0:Hid (Below w.heap.size w (w.alloc (.cells #[.int .i64 s,.int .i64 s,.slice co p cc] 37))):=Lib.hid (by (repeat' (first | with_reducible (first | exact Below.refl _ _ | assumption | refine Below.drew ?_ | refine below_drewN ?_ _ | refine Below.alloc ?_ ?_ _ | refine Below.setCell ?_ ?_ _) | go_size)));have X0:=Lib.hid (al_at w (.cells #[.int .i64 s,.int .i64 s,.slice co p cc] 37) rfl);obtain ⟨w1,hw0⟩:∃ w1,w1 = w.alloc (.cells #[.int .i64 s,.int .i64 s,.slice co p cc] 37):=⟨_,rfl⟩;rw[←hw0] at B0 X0;have HW0:=Lib.hid hw0;clear hw0;have z0:=szs (block_lt X0.out);have x0_0:=cell_at X0.out 0;have x0_1:=cell_at X0.out 1;have x0_2:=cell_at X0.out 2
 have B1:Hid (Below w1.heap.size w1 (w1.alloc (.cells #[.int .i64 0,.int .i64 0] 65))):=Lib.hid (by (repeat' (first | with_reducible (first | exact Below.refl _ _ | assumption | refine Below.drew ?_ | refine below_drewN ?_ _ | refine Below.alloc ?_ ?_ _ | refine Below.setCell ?_ ?_ _) | go_size)));have X1:=Lib.hid (al_at w1 (.cells #[.int .i64 0,.int .i64 0] 65) rfl);obtain ⟨w2,hw1⟩:∃ w2,w2 = w1.alloc (.cells #[.int .i64 0,.int .i64 0] 65):=⟨_,rfl⟩;rw[←hw1] at B1 X1;have HW1:=Lib.hid hw1;clear hw1;have z1:=szs (block_lt X1.out);skip
 have s1:w1.heap.size = w.heap.size+1:=by rw[HW0.out];simp
 have HS:=Lib.hid s1
 rw[s1] at X1
 have XB:=Lib.hid ((B1.out.block _ (by omega)).trans X0.out)
 have BB:=Lib.hid (B0.out.trans (B1.out.mono B0.out.size))
 obtain ⟨g1,o1,hco,hg1,c1⟩:=(hX.below BB.out).num1 hi
 obtain ⟨g2,o2,hho,hg2,c2⟩:=(hH.below BB.out).bit hi
 subst hco hho
 have zg1:=szs hg1
 have zg2:=szs hg2
 have HX:=Lib.hid hX
 have HH:=Lib.hid hH
 clear hX hH s1
 have hiI:(i:Int) < (p:Int):=by omega
 rw[hh] at c2
 go_enter Tryz.func63,Tryz.ntmps63
 go_simp
 ((repeat ((fail_if_success (rw[←HW0.out]));go_step));rw[←HW0.out])
 go_simp
 ((repeat ((fail_if_success (rw[←HW1.out]));go_step));rw[←HW1.out])
 rw[HS.out]
 have x0:=cell_at XB.out 0
 have x1:=cell_at XB.out 1
 have x2:=cell_at XB.out 2
 have zx:=szs (block_lt XB.out)
 have r0:=cell_at X1.out 0
 have r1:=cell_at X1.out 1
 have fr:=fun i=>free_at X1.out i
 have zr:=szs (block_lt X1.out)
 clear HW0 HW1 HS
 go_wp2_with fail
 show bodyPost _ _ _ Exit.ret _ _
 have KZ:=put2 X1.out (.int .i64 (X i)) (.int .i64 (X i))
 have OZ:=BB.out.trans ((off_set2 (w:=w2) (g:=w.heap.size+1) (a:=0) (c:=1) (u:=.int .i64 (X i)) (v:=.int .i64 (X i))).toBelow BB.out.size (fun q hq h=>by have h:q = w.heap.size+1:=h;omega))
 clear r0 r1 fr zr
 generalize World.setCell (World.setCell w2 _ _) _ _ = w9 at *
 have k0:=cell_at KZ 0
 have k1:=cell_at KZ 1
 have zk:=szs (block_lt KZ)
 exact bodyPost_ret (v:=.agg #[.int .i64 (X i),.int .i64 (X i)]) (by simp [results,Tryz.results63,go_sem,k0,k1]) rfl ⟨⟨_,_,rfl,Or.inl ⟨hh,rfl,rfl⟩⟩,OZ⟩
set_option maxRecDepth 8000 in
set_option maxHeartbeats 16000000 in
theorem intervalT (co:Option Addr) (cc:Nat) (X:Nat→Int) (ho:Option Addr) (hc:Nat) (H:Nat→Bool) (i:Nat) (w:World) (hX:Sl w 1 co 4 cc (nuR X)) (hH:Sl w 1 ho 4 hc (boR H)) (hi:i < 4) (hh:H i = true) (hX4:∀ k,k < 4→0≤X k∧X k≤65536) :
  Calls Tryz.prog 63 #[.agg #[.int .i64 2,.int .i64 2,.slice co 4 cc],.slice ho 4 hc,.int .i64 i] w fun e w'=>IvlE X H i e∧Below w.heap.size w w':=by
 have hcm:=hX.hm
 have hcc:=hX.hc
 have hhm:=hH.hm
 have hhc:=hH.hc
 have B0:Hid (Below w.heap.size w (w.alloc (.cells #[.int .i64 2,.int .i64 2,.slice co 4 cc] 37))):=Lib.hid (by (repeat' (first | with_reducible (first | exact Below.refl _ _ | assumption | refine Below.drew ?_ | refine below_drewN ?_ _ | refine Below.alloc ?_ ?_ _ | refine Below.setCell ?_ ?_ _) | go_size)));have X0:=Lib.hid (al_at w (.cells #[.int .i64 2,.int .i64 2,.slice co 4 cc] 37) rfl);obtain ⟨w1,hw0⟩:∃ w1,w1 = w.alloc (.cells #[.int .i64 2,.int .i64 2,.slice co 4 cc] 37):=⟨_,rfl⟩;rw[←hw0] at B0 X0;have HW0:=Lib.hid hw0;clear hw0;have z0:=szs (block_lt X0.out);have x0_0:=cell_at X0.out 0;have x0_1:=cell_at X0.out 1;have x0_2:=cell_at X0.out 2
 have B1:Hid (Below w1.heap.size w1 (w1.alloc (.cells #[.int .i64 0,.int .i64 0] 65))):=Lib.hid (by (repeat' (first | with_reducible (first | exact Below.refl _ _ | assumption | refine Below.drew ?_ | refine below_drewN ?_ _ | refine Below.alloc ?_ ?_ _ | refine Below.setCell ?_ ?_ _) | go_size)));have X1:=Lib.hid (al_at w1 (.cells #[.int .i64 0,.int .i64 0] 65) rfl);obtain ⟨w2,hw1⟩:∃ w2,w2 = w1.alloc (.cells #[.int .i64 0,.int .i64 0] 65):=⟨_,rfl⟩;rw[←hw1] at B1 X1;have HW1:=Lib.hid hw1;clear hw1;have z1:=szs (block_lt X1.out);skip
 have s1:w1.heap.size = w.heap.size+1:=by rw[HW0.out];simp
 have HS:=Lib.hid s1
 rw[s1] at X1
 have XB:=Lib.hid ((B1.out.block _ (by omega)).trans X0.out)
 have BB:=Lib.hid (B0.out.trans (B1.out.mono B0.out.size))
 obtain ⟨g1,o1,hco,hg1,c1⟩:=(hX.below BB.out).num1 hi
 obtain ⟨g2,o2,hho,hg2,c2⟩:=(hH.below BB.out).bit hi
 subst hco hho
 have zg1:=szs hg1
 have zg2:=szs hg2
 have HX:=Lib.hid hX
 have HH:=Lib.hid hH
 clear hX hH s1
 have hiI:(i:Int) < 4:=by omega
 rw[hh] at c2
 have HX4:=Lib.hid hX4
 have CN:=Lib.hid (fun w' (b:Below w2.heap.size w2 w')=>network93 (some ⟨g1,o1,none⟩) cc X (some ⟨g2,o2,none⟩) hc H i w' ((HX.out.below BB.out).below b) ((HH.out.below BB.out).below b) hi)
 have OKN:=Lib.hid (arcs_ok (H:=H) (but:=i) hX4)
 have hln:=arcs_len X H i 4
 obtain ⟨hy1,hy2⟩:=hX4 i hi
 obtain ⟨y,hy⟩:∃ y,y = X i:=⟨_,rfl⟩
 rw[←hy] at c1 hy1 hy2
 have HY:=Lib.hid hy
 clear hX4 hy
 go_enter Tryz.func63,Tryz.ntmps63
 go_simp
 ((repeat ((fail_if_success (rw[←HW0.out]));go_step));rw[←HW0.out])
 go_simp
 ((repeat ((fail_if_success (rw[←HW1.out]));go_step));rw[←HW1.out])
 rw[HS.out]
 have x0:=cell_at XB.out 0
 have x1:=cell_at XB.out 1
 have x2:=cell_at XB.out 2
 have zx:=szs (block_lt XB.out)
 clear HW0 HW1 HS
 go_wp2_with fail
 refine (CN.out w2 (Below.refl _ _)).mono ?_
 rintro e w3 ⟨⟨na,nc,rfl,hn⟩,b3⟩
 have XB3:=Lib.hid ((b3.block _ (block_lt XB.out)).trans XB.out)
 have X13:=Lib.hid ((b3.block _ (block_lt X1.out)).trans X1.out)
 have BB3:=Lib.hid (BB.out.trans (b3.mono BB.out.size))
 have HN3:=Lib.hid hn
 have hs3:w.heap.size+1 < w3.heap.size:=block_lt X13.out
 clear b3 hn CN x0 x1 x2 zx c1 c2 zg1 zg2 hg1 hg2 XB X1 BB
 obtain ⟨m,hm⟩:∃ m,m = (arcsOf X H i 4).length:=⟨_,rfl⟩
 obtain ⟨A,hA⟩:∃ A,A = arcAt (arcsOf X H i 4):=⟨_,rfl⟩
 rw[←hm,←hA] at HN3 OKN
 rw[←hm] at hln ⊢
 have HMA:=Lib.hid (And.intro hm hA)
 have hnm:=HN3.out.hm
 have hnc:=HN3.out.hc
 clear hm hA
 have B4:Hid (Below w3.heap.size w3 (w3.alloc (.cells #[.int .i64 4,.slice na m nc] 166))):=Lib.hid (by (repeat' (first | with_reducible (first | exact Below.refl _ _ | assumption | refine Below.drew ?_ | refine below_drewN ?_ _ | refine Below.alloc ?_ ?_ _ | refine Below.setCell ?_ ?_ _) | go_size)));have X4:=Lib.hid (al_at w3 (.cells #[.int .i64 4,.slice na m nc] 166) rfl);obtain ⟨w4,hw4⟩:∃ w4,w4 = w3.alloc (.cells #[.int .i64 4,.slice na m nc] 166):=⟨_,rfl⟩;rw[←hw4] at B4 X4;have HW4:=Lib.hid hw4;clear hw4;have z4:=szs (block_lt X4.out);have x4_0:=cell_at X4.out 0;have x4_1:=cell_at X4.out 1
 go_simp
 ((repeat ((fail_if_success (rw[←HW4.out]));go_step));rw[←HW4.out])
 have XB4:=Lib.hid ((B4.out.block _ (block_lt XB3.out)).trans XB3.out)
 have X14:=Lib.hid ((B4.out.block _ (block_lt X13.out)).trans X13.out)
 have BB4:=Lib.hid (BB3.out.trans (B4.out.mono BB3.out.size))
 have HN4:=Lib.hid (HN3.out.below B4.out)
 have x0:=cell_at XB4.out 0
 have x1:=cell_at XB4.out 1
 have x2:=cell_at XB4.out 2
 have zx:=szs (block_lt XB4.out)
 have q1:((i:Int)).tdiv 2 = ((i / 2:Nat):Int):=by rw[Int.tdiv_eq_ediv_of_nonneg (by omega)];omega
 have q2:((i:Int)).tmod 2 = ((i % 2:Nat):Int):=by rw[Int.tmod_eq_emod_of_nonneg (by omega)];omega
 obtain ⟨ro,hro⟩:∃ ro,ro = i / 2:=⟨_,rfl⟩
 obtain ⟨cl,hcl⟩:∃ cl,cl = i % 2:=⟨_,rfl⟩
 rw[←hro] at q1
 rw[←hcl] at q2
 have hrb:ro < 2:=by omega
 have hcb:cl < 2:=by omega
 have HRO:=Lib.hid (And.intro hro hcl)
 clear hro hcl HW4 XB3 X13 BB3 HN3
 go_wp2_with fail
 (refine region_all (fun i:Nat=>World.drewN _ i) mixed (by kernel_rfl) ⟨1,rfl⟩ ?_;(repeat (any_goals (first | go_big_quiet_step (fail) | quiet_step (fail) | (refine wpQuiet_step (fun K hK=>?_);go_simp;split <;> (refine hK _ ?_;clear hK K)))));(all_goals (refine wpQuiet_nil (fun nq=>?_))))
 have BQ:Hid (Below w4.heap.size w4 (w4.drewN nq)):=Lib.hid (by (repeat' (first | with_reducible (first | exact Below.refl _ _ | assumption | refine Below.drew ?_ | refine below_drewN ?_ _ | refine Below.alloc ?_ ?_ _ | refine Below.setCell ?_ ?_ _) | go_size)))
 obtain ⟨w5,hw5⟩:∃ w5,w5 = w4.drewN nq:=⟨_,rfl⟩
 rw[←hw5] at BQ ⊢
 have X15:=Lib.hid ((BQ.out.block _ (block_lt X14.out)).trans X14.out)
 have BB5:=Lib.hid (BB4.out.trans (BQ.out.mono BB4.out.size))
 have HN5:=Lib.hid (HN4.out.below BQ.out)
 have n0:=cell_kept BQ.out x4_0
 have n1:=cell_kept BQ.out x4_1
 have zn:=szs (Nat.lt_of_lt_of_le z4.1 BQ.out.size)
 clear hw5 x0 x1 x2 zx x4_0 x4_1 z4 XB4 X14 BB4 HN4
 have CM1:=Lib.hid (Most94 4 m (2+cl) ro na nc A w5 HN5.out OKN.out (by omega) (by omega) (by omega))
 have e2:((2+cl:Nat):Int) = 2+(cl:Int):=by omega
 rw[e2] at CM1
 go_wp2_with fail
 refine CM1.out.mono ?_
 rintro e w6 ⟨⟨s,rfl,hs0,hs1,on,hon⟩,b6⟩
 have X16:=Lib.hid ((b6.block _ (block_lt X15.out)).trans X15.out)
 have BB6:=Lib.hid (BB5.out.trans (b6.mono BB5.out.size))
 have HN6:=Lib.hid (HN5.out.below b6)
 have k0:=cell_kept b6 n0
 have k1:=cell_kept b6 n1
 have zn6:=szs (Nat.lt_of_lt_of_le zn.1 b6.size)
 have HON:=Lib.hid hon
 have CM2:=Lib.hid (Most94 4 m ro (2+cl) na nc A w6 HN6.out OKN.out (by omega) (by omega) (by omega))
 rw[e2] at CM2
 clear b6 n0 n1 zn CM1 hon X15 BB5 HN5 e2
 go_wp2_with fail
 refine CM2.out.mono ?_
 rintro e w7 ⟨⟨r,rfl,hr0,hr1,on',hon'⟩,b7⟩
 have X17:=Lib.hid ((b7.block _ (block_lt X16.out)).trans X16.out)
 have BB7:=Lib.hid (BB6.out.trans (b7.mono BB6.out.size))
 have HON':=Lib.hid hon'
 clear b7 k0 k1 zn6 CM2 hon' X16 BB6 HN6
 have hs2:s≤1000000:=by omega
 have hr2:r≤1000000:=by omega
 have PF:Hid (IvlP X H i (y - min y r) (y+s)):=Lib.hid (Or.inr ⟨hh,s,r,on,on',by
  have:=HON.out
  rw[HMA.out.1,HMA.out.2,HRO.out.1,HRO.out.2] at this
  exact this,by
  have:=HON'.out
  rw[HMA.out.1,HMA.out.2,HRO.out.1,HRO.out.2] at this
  exact this,by rw[HY.out],by rw[HY.out],hs0,hs2,hr0,hr2⟩)
 have r0:=cell_at X17.out 0
 have r1:=cell_at X17.out 1
 have fr:=fun i=>free_at X17.out i
 have zr:=szs (block_lt X17.out)
 by_cases hyr:y≤r
 ·have e3:y - min y r = 0:=by omega
  rw[e3] at PF
  go_wp2_with fail
  show bodyPost _ _ _ Exit.ret _ _
  have KZ:=put2 X17.out (.int .i64 (0)) (.int .i64 (y+s))
  have OZ:=BB7.out.trans ((off_set2 (w:=w7) (g:=w.heap.size+1) (a:=0) (c:=1) (u:=.int .i64 (0)) (v:=.int .i64 (y+s))).toBelow BB7.out.size (fun q hq h=>by have h:q = w.heap.size+1:=h;omega))
  clear r0 r1 fr zr
  generalize World.setCell (World.setCell w7 _ _) _ _ = w9 at *
  have k0:=cell_at KZ 0
  have k1:=cell_at KZ 1
  have zk:=szs (block_lt KZ)
  exact bodyPost_ret (v:=.agg #[.int .i64 (0),.int .i64 (y+s)]) (by simp [results,Tryz.results63,go_sem,k0,k1]) rfl ⟨⟨_,_,rfl,PF.out⟩,OZ⟩
 ·have e3:min y r = r:=by omega
  rw[e3] at PF
  go_wp2_with fail
  show bodyPost _ _ _ Exit.ret _ _
  have KZ:=put2 X17.out (.int .i64 (y - r)) (.int .i64 (y+s))
  have OZ:=BB7.out.trans ((off_set2 (w:=w7) (g:=w.heap.size+1) (a:=0) (c:=1) (u:=.int .i64 (y - r)) (v:=.int .i64 (y+s))).toBelow BB7.out.size (fun q hq h=>by have h:q = w.heap.size+1:=h;omega))
  clear r0 r1 fr zr
  generalize World.setCell (World.setCell w7 _ _) _ _ = w9 at *
  have k0:=cell_at KZ 0
  have k1:=cell_at KZ 1
  have zk:=szs (block_lt KZ)
  exact bodyPost_ret (v:=.agg #[.int .i64 (y - r),.int .i64 (y+s)]) (by simp [results,Tryz.results63,go_sem,k0,k1]) rfl ⟨⟨_,_,rfl,PF.out⟩,OZ⟩
theorem interval63 (s p:Nat) (co:Option Addr) (cc:Nat) (X:Nat→Int) (ho:Option Addr) (hc:Nat) (H:Nat→Bool) (i:Nat) (w:World) (hX:Sl w 1 co p cc (nuR X)) (hH:Sl w 1 ho p hc (boR H)) (hi:i < p) (h2:H i = true→s = 2∧p = 4∧∀ k,k < 4→0≤X k∧X k≤65536) :
  Calls Tryz.prog 63 #[.agg #[.int .i64 s,.int .i64 s,.slice co p cc],.slice ho p hc,.int .i64 i] w fun e w'=>IvlE X H i e∧Below w.heap.size w w':=by
 cases hh:H i
 ·exact intervalF s p co cc X ho hc H i w hX hH hi hh
 ·obtain ⟨rfl,rfl,h4⟩:=h2 hh
  exact intervalT co cc X ho hc H i w hX hH hi hh h4
end Go.Proofs.YtdpoppilnokniaaGreatDoor
namespace Go.Proofs.YtdpoppilnokniaaGreatDoor
open Go.RowKit Go.ChangeShapes Go.WideShapes Go.Deep
set_option linter.unusedVariables false
set_option linter.unusedSimpArgs false
set_option linter.unnecessarySimpa false
def Wide (X:Nat→Int) (H:Nat→Bool) (wd:Int) (i:Nat):Prop:=∃ lo hi:Int,IvlP X H i lo hi∧wd≤hi - lo
theorem IvlP.rng {X:Nat→Int}{H:Nat→Bool}{i:Nat}{lo hi:Int}(h:IvlP X H i lo hi) (hH:H i = true) (hX:0≤X i∧X i≤65536):0≤lo∧lo≤65536∧0≤hi∧hi≤2000000:=by
 rcases h with ⟨h1,_⟩ | ⟨h1,s,r,_,_,_,_,h2,h3,h4,h5,h6,h7⟩
 ·rw[h1] at hH;cases hH
 ·omega
def UnsP (X:Nat→Int) (H:Nat→Bool) (wd:Int) (p:Nat) (e:Ending):Prop :=
 (e = .returned (.int .i64 (-1))∧∀ i,i < p→H i = true→Wide X H wd i)∨(∃ i:Nat,e = .returned (.int .i64 i)∧i < p∧H i = true)
set_option maxRecDepth 8000 in
set_option maxHeartbeats 16000000 in
theorem unsafe44 (s p:Nat) (co:Option Addr) (cc:Nat) (X:Nat→Int) (ho:Option Addr) (hc:Nat) (H:Nat→Bool) (wd:Int) (w:World) (hX:Sl w 1 co p cc (nuR X)) (hH:Sl w 1 ho p hc (boR H)) (hp:p≤4) (h2:∀ i,i < p→H i = true→s = 2∧p = 4∧∀ k,k < 4→0≤X k∧X k≤65536) :
  Calls Tryz.prog 44 #[.agg #[.int .i64 s,.int .i64 s,.slice co p cc],.slice ho p hc,.int .i64 wd] w fun e w'=>UnsP X H wd p e∧Below w.heap.size w w':=by
 have hcm:=hX.hm
 have hcc:=hX.hc
 have hhm:=hH.hm
 have hhc:=hH.hc
 have B0:Hid (Below w.heap.size w (w.alloc (.cells #[.int .i64 s,.int .i64 s,.slice co p cc] 37))):=Lib.hid (by (repeat' (first | with_reducible (first | exact Below.refl _ _ | assumption | refine Below.drew ?_ | refine below_drewN ?_ _ | refine Below.alloc ?_ ?_ _ | refine Below.setCell ?_ ?_ _) | go_size)));have X0:=Lib.hid (al_at w (.cells #[.int .i64 s,.int .i64 s,.slice co p cc] 37) rfl);obtain ⟨w1,hw0⟩:∃ w1,w1 = w.alloc (.cells #[.int .i64 s,.int .i64 s,.slice co p cc] 37):=⟨_,rfl⟩;rw[←hw0] at B0 X0;have HW0:=Lib.hid hw0;clear hw0;have z0:=szs (block_lt X0.out);have x0_0:=cell_at X0.out 0;have x0_1:=cell_at X0.out 1;have x0_2:=cell_at X0.out 2
 have HX:=Lib.hid (hX.below B0.out)
 have HH:=Lib.hid (hH.below B0.out)
 have H2:=Lib.hid h2
 clear hX hH h2
 go_enter Tryz.func44,Tryz.ntmps44
 go_simp
 ((repeat ((fail_if_success (rw[←HW0.out]));go_step));rw[←HW0.out])
 go_wp2_with fail
 clear HW0
 go_loopw [11] (fun s wr=>∃ j:Nat,s = .int .i64 j∧j≤p∧Hid (∀ i,i < j→H i = true→Wide X H wd i)∧Hid (Below w1.heap.size w1 wr)) (fun s _=>p - (intOf s).toNat)
 case atStart=>exact ⟨0,rfl,Nat.zero_le _,Lib.hid (fun i hi=>absurd hi (Nat.not_lt_zero _)),Lib.hid (Below.refl _ _)⟩
 case round =>
  obtain ⟨j,rfl,hj,hok,hbel⟩:=hrel
  have HOK:=hok
  have HB:=hbel
  clear hok hbel
  by_cases hlt:j < p
  ·have t3:decide ((j:Int) < (p:Int)) = true:=decide_eq_true (by omega)
   have t3n:decide (j < p) = true:=decide_eq_true (by omega)
   have CI:=Lib.hid (interval63 s p co cc X ho hc H j wr (HX.out.below HB.out) (HH.out.below HB.out) hlt (H2.out j hlt))
   have x0:=cell_kept HB.out x0_0
   have x1:=cell_kept HB.out x0_1
   have x2:=cell_kept HB.out x0_2
   have zx:=szs (Nat.lt_of_lt_of_le z0.1 HB.out.size)
   have hjI:(j:Int) < (p:Int):=by omega
   go_wp2_with fail
   refine CI.out.mono ?_
   rintro e w2 ⟨⟨lo,hi,rfl,hiv⟩,b2⟩
   have HIV:=Lib.hid hiv
   have B2:=Lib.hid (HB.out.trans (b2.mono HB.out.size))
   clear x0 x1 x2 zx b2 hiv CI HB
   have B3:Hid (Below w2.heap.size w2 (w2.alloc (.cells #[.int .i64 lo,.int .i64 hi] 65))):=Lib.hid (by (repeat' (first | with_reducible (first | exact Below.refl _ _ | assumption | refine Below.drew ?_ | refine below_drewN ?_ _ | refine Below.alloc ?_ ?_ _ | refine Below.setCell ?_ ?_ _) | go_size)));have X3:=Lib.hid (al_at w2 (.cells #[.int .i64 lo,.int .i64 hi] 65) rfl);obtain ⟨w3,hw3⟩:∃ w3,w3 = w2.alloc (.cells #[.int .i64 lo,.int .i64 hi] 65):=⟨_,rfl⟩;rw[←hw3] at B3 X3;have HW3:=Lib.hid hw3;clear hw3;have z3:=szs (block_lt X3.out);have x3_0:=cell_at X3.out 0;have x3_1:=cell_at X3.out 1
   go_simp
   ((repeat ((fail_if_success (rw[←HW3.out]));go_step));rw[←HW3.out])
   have B3':=Lib.hid (B2.out.trans (B3.out.mono B2.out.size))
   obtain ⟨g2,o2,rfl,hg2,c2⟩:=(HH.out.below B3'.out).bit hlt
   have zg2:=szs hg2
   clear HW3 hg2
   cases hh:H j
   ·rw[hh] at c2
    have HN:Hid (∀ i,i < j+1→H i = true→Wide X H wd i):=Lib.hid (fun i hi hi2=>by
     by_cases e:i = j
     ·subst e;rw[hh] at hi2;cases hi2
     ·exact HOK.out i (by omega) hi2)
    go_wp2_with fail
    go_roundw
    case rel=>exact ⟨j+1,by go_num,by omega,HN,B3'⟩
    case measure=>simp [intOf] <;> omega
   ·rw[hh] at c2
    obtain ⟨e1,e2,e3⟩:=H2.out j hlt hh
    have hrg:=HIV.out.rng hh (e3 j (by omega))
    have HE:=Lib.hid (And.intro e1 e2)
    clear e1 e2 e3
    by_cases hw:hi - lo < wd
    ·have t4:decide (hi - lo < wd) = true:=decide_eq_true hw
     go_wp2_with fail
     go_returns
     exact ⟨Or.inr ⟨j,rfl,hlt,hh⟩,by have b3:=B3'.out;have b0:=B0.out;exact b0.trans (b3.mono b0.size)⟩
    ·have t4:decide (hi - lo < wd) = false:=decide_eq_false hw
     have HN:Hid (∀ i,i < j+1→H i = true→Wide X H wd i):=Lib.hid (fun i hi hi2=>by
      by_cases e:i = j
      ·subst e;exact ⟨lo,_,HIV.out,by omega⟩
      ·exact HOK.out i (by omega) hi2)
     go_wp2_with fail
     go_roundw
     case rel=>exact ⟨j+1,by go_num,by omega,HN,B3'⟩
     case measure=>simp [intOf] <;> omega
  ·have t3:decide ((j:Int) < (p:Int)) = false:=decide_eq_false (by omega)
   have t3n:decide (j < p) = false:=decide_eq_false (by omega)
   obtain rfl:j = p:=by omega
   go_wp2_with fail
   go_returns
   exact ⟨Or.inl ⟨rfl,HOK.out⟩,B0.out.trans (HB.out.mono B0.out.size)⟩
end Go.Proofs.YtdpoppilnokniaaGreatDoor
