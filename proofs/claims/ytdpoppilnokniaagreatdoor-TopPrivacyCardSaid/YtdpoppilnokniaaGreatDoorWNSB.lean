/- Theorems of this seat. -/
import Derived.Test.YtdpoppilnokniaaGreatDoorWNSA
namespace Go.Proofs.YtdpoppilnokniaaGreatDoor
open Go.RowKit Go.ChangeShapes Go.WideShapes Go.Deep
set_option linter.unusedVariables false
set_option linter.unusedSimpArgs false
set_option linter.unnecessarySimpa false
def totS (W:Nat→Int):Nat→Int
 | 0=>W 0
 | j+1=>totS W j+2 * W (j+1)
theorem totS_bound {n:Nat}{W:Nat→Int}(h:NOK n W):∀ j,j < n→1≤totS W j∧totS W j≤(2 * j+1) * 16777216
 | 0,hj=>by have:=h.2.2 0 hj;show 1≤W 0∧W 0≤_;omega
 | j+1,hj=>by
  have h1:=totS_bound h j (by omega)
  have h2:=h.2.2 (j+1) hj
  show 1≤totS W j+2 * W (j+1)∧totS W j+2 * W (j+1)≤_
  omega
def segW (n:Nat) (W:Nat→Int) (v:Int):Nat→Int
 | 0=>0
 | j+1=>wtE n W v+segW n W (v+1) j
theorem segW_snoc (n:Nat) (W:Nat→Int):∀ (j:Nat) (v:Int),segW n W v (j+1) = segW n W v j+wtE n W (v+j)
 | 0,v=>by show wtE n W v+0 = 0+wtE n W (v+((0:Nat):Int));rw[show v+((0:Nat):Int) = v by omega];omega
 | j+1,v=>by
  show wtE n W v+segW n W (v+1) (j+1) = (wtE n W v+segW n W (v+1) j)+_
  rw[segW_snoc n W j (v+1),show v+1+(j:Int) = v+((j+1:Nat):Int) by omega]
  omega
theorem segW_tot (n:Nat) (W:Nat→Int):∀ k:Nat,k < n→segW n W (-(k:Int)) (2 * k+1) = totS W k
 | 0,hk=>by
  show wtE n W _+0 = W 0
  unfold wtE
  rw[show (-((0:Nat):Int)).natAbs = 0 by omega,if_pos hk]
  omega
 | k+1,hk=>by
  have h1:=segW_tot n W k (by omega)
  show wtE n W _+segW n W _ (2 * k+1+1) = totS W k+2 * W (k+1)
  rw[segW_snoc,show -((k+1:Nat):Int)+1 = -(k:Int) by omega,h1]
  have e1:wtE n W (-((k+1:Nat):Int)) = W (k+1):=by unfold wtE;rw[show (-((k+1:Nat):Int)).natAbs = k+1 by omega,if_pos hk]
  have e2:wtE n W (-(k:Int)+((2 * k+1:Nat):Int)) = W (k+1):=by unfold wtE;rw[show (-(k:Int)+((2 * k+1:Nat):Int)).natAbs = k+1 by omega,if_pos hk]
  rw[e1,e2]
  omega
theorem wtE_bound {n:Nat}{W:Nat→Int}(h:NOK n W) (v:Int):0≤wtE n W v∧wtE n W v≤16777216:=by
 unfold wtE
 split
 ·have:=h.2.2 v.natAbs (by assumption);omega
 ·omega
set_option maxRecDepth 4000 in
set_option maxHeartbeats 4000000 in
theorem Total46 (a:Option Addr) (n c:Nat) (W:Nat→Int) (w:World) (h:Sl w 1 a n c (nuR W)) :
  Calls Tryz.prog 46 #[.agg #[.slice a n c]] w fun e w'=>(∃ t r:Int,e = .returned (.tuple #[.int .i64 t,.int .i64 r])∧(r = 0↔NOK n W)∧(NOK n W→t = totS W (n - 1)))∧Below w.heap.size w w':=by
 have hlm:=h.hm
 have hlc:=h.hc
 have B0:Hid (Below w.heap.size w (w.alloc (.cells #[.slice a n c] 40))):=Lib.hid (by (repeat' (first | with_reducible (first | exact Below.refl _ _ | assumption | refine Below.drew ?_ | refine below_drewN ?_ _ | refine Below.alloc ?_ ?_ _ | refine Below.setCell ?_ ?_ _) | go_size)));have X0:=Lib.hid (al_at w (.cells #[.slice a n c] 40) rfl);obtain ⟨w1,hw0⟩:∃ w1,w1 = w.alloc (.cells #[.slice a n c] 40):=⟨_,rfl⟩;rw[←hw0] at B0 X0;have HW0:=Lib.hid hw0;clear hw0;have z0:=szs (block_lt X0.out);have x0_0:=cell_at X0.out 0
 have C1:=Lib.hid (check32 a n c W w1 (h.below B0.out))
 have H:=Lib.hid (h.below B0.out)
 clear h
 go_enter Tryz.func46,Tryz.ntmps46
 go_simp
 ((repeat ((fail_if_success (rw[←HW0.out]));go_step));rw[←HW0.out])
 go_wp2_with fail
 refine C1.out.mono ?_
 rintro e w2 ⟨⟨r,rfl,hr⟩,b2⟩
 have B2:=Lib.hid b2
 have x2:=cell_kept b2 x0_0
 have z2:=szs (Nat.lt_of_lt_of_le z0.1 b2.size)
 try dsimp only at x2
 have BB:=Lib.hid (B0.out.trans (b2.mono B0.out.size))
 clear b2 x0_0 z0
 by_cases h0:r = 0
 ·subst h0
  have hok:=hr.1 rfl
  have HOK:=Lib.hid hok
  have hn1:=hok.1
  have hn2:=hok.2.1
  obtain ⟨g,o,rfl,hg,hcs⟩:=(H.out.below B2.out).ints hn1
  have HCS:=Lib.hid hcs
  have u0:=hcs 0 hn1
  try rw[Nat.add_zero] at u0
  obtain ⟨m,rfl⟩:∃ m,n = m+1:=⟨n - 1,by omega⟩
  have tL:decide (1≤((m+1:Nat):Int)) = true:=decide_eq_true (by omega)
  have eL:((m+1:Nat):Int) - 1 = (m:Int):=by omega
  clear hok hcs hr
  by_cases hc1:c = 1
  ·subst hc1
   obtain rfl:m = 0:=by omega
   go_wp2_with fail
   go_loopw [5,21] (fun s5 s21 wr=>s5 = .int .i64 (W 0)∧s21 = .int .i64 0∧wr = w2) (fun _ s _=>0)
   case atStart=>exact ⟨rfl,rfl,rfl⟩
   case round =>
    obtain ⟨rfl,rfl,rfl⟩:=hrel
    go_wp2_with fail
    go_returns
    exact ⟨⟨_,_,rfl,⟨fun _=>HOK.out,fun _=>rfl⟩,fun _=>rfl⟩,BB.out⟩
  go_wp2_with fail
  go_loopw [5,21] (fun s5 s21 wr=>∃ j:Nat,s5 = .int .i64 (totS W j)∧s21 = .int .i64 j∧j≤m∧wr = w2) (fun _ s _=>m - (intOf s).toNat)
  case atStart=>exact ⟨0,rfl,rfl,Nat.zero_le _,rfl⟩
  case round =>
   obtain ⟨j,rfl,rfl,hj,rfl⟩:=hrel
   by_cases hlt:j < m
   ·have t3:decide ((j:Int) < (m:Int)) = true:=decide_eq_true (by omega)
    have t3n:decide (j < m) = true:=decide_eq_true (by omega)
    have u1:=HCS.out (j+1) (by omega)
    have eo:o+(j+1) = o+1+j:=by omega
    rw[eo] at u1
    have hb:=totS_bound HOK.out j (by omega)
    have hb2:=HOK.out.2.2 (j+1) (by omega)
    obtain ⟨tj,htj⟩:∃ tj,tj = totS W j:=⟨_,rfl⟩
    rw[←htj] at hb
    have HTJ:=Lib.hid htj
    rw[←htj]
    have HE:Hid (totS W (j+1) = tj+2 * W (j+1)):=Lib.hid (by rw[htj];rfl)
    clear htj
    go_wp2_with fail
    go_roundw
    case rel=>exact ⟨j+1,by rw[HE.out],by go_num,by omega,trivial⟩
    case measure=>simp [intOf] <;> omega
   ·have t3:decide ((j:Int) < (m:Int)) = false:=decide_eq_false (by omega)
    have t3n:decide (j < m) = false:=decide_eq_false (by omega)
    obtain rfl:j = m:=by omega
    go_wp2_with fail
    go_returns
    exact ⟨⟨_,_,rfl,⟨fun _=>HOK.out,fun _=>rfl⟩,fun _=>rfl⟩,BB.out⟩
 ·have t0:(r != 0) = true:=by simp [h0]
  have HR:=Lib.hid hr
  have H0:=Lib.hid h0
  clear hr h0
  go_wp2_with fail
  go_returns
  exact ⟨⟨0,r,rfl,HR.out,fun q=>absurd (HR.out.2 q) H0.out⟩,BB.out⟩
end Go.Proofs.YtdpoppilnokniaaGreatDoor
namespace Go.Proofs.YtdpoppilnokniaaGreatDoor
open Go.RowKit Go.ChangeShapes Go.WideShapes Go.Deep
set_option linter.unusedVariables false
set_option linter.unusedSimpArgs false
set_option linter.unnecessarySimpa false
set_option maxRecDepth 4000 in
set_option maxHeartbeats 4000000 in
theorem At48 (a:Option Addr) (n c:Nat) (W:Nat→Int) (x:Int) (w:World) (h:Sl w 1 a n c (nuR W)) (hs:Sgn w) (hok:NOK n W) (hx:0≤x∧x < totS W (n - 1)) :
  Calls Tryz.prog 48 #[.agg #[.slice a n c],.int .i64 x] w fun e w'=>(∃ v:Int,e = .returned (.tuple #[.int .i64 v,.int .i64 0])∧-(n:Int) < v∧v < n)∧Below w.heap.size w w':=by
 have hlm:=h.hm
 have hlc:=h.hc
 have hn1:=hok.1
 have hn2:=hok.2.1
 have htb:=totS_bound hok (n - 1) (by omega)
 have B0:Hid (Below w.heap.size w (w.alloc (.cells #[.slice a n c] 40))):=Lib.hid (by (repeat' (first | with_reducible (first | exact Below.refl _ _ | assumption | refine Below.drew ?_ | refine below_drewN ?_ _ | refine Below.alloc ?_ ?_ _ | refine Below.setCell ?_ ?_ _) | go_size)));have X0:=Lib.hid (al_at w (.cells #[.slice a n c] 40) rfl);obtain ⟨w1,hw0⟩:∃ w1,w1 = w.alloc (.cells #[.slice a n c] 40):=⟨_,rfl⟩;rw[←hw0] at B0 X0;have HW0:=Lib.hid hw0;clear hw0;have z0:=szs (block_lt X0.out);have x0_0:=cell_at X0.out 0
 have C1:=Lib.hid (Total46 a n c W w1 (h.below B0.out))
 have H:=Lib.hid (h.below B0.out)
 have CW:=Lib.hid (fun (v:Int) (hv:-4000000≤v∧v≤4000000) (w':World) (b:Below w1.heap.size w1 w')=>weight54 a n c W v w' ((h.below B0.out).below b) ((hs.below B0.out).below b) hv)
 have HOK:=Lib.hid hok
 obtain ⟨t,ht⟩:∃ t,t = totS W (n - 1):=⟨_,rfl⟩
 rw[←ht] at hx htb
 have HT:=Lib.hid ht
 have d0:decide (x < 0) = false:=decide_eq_false (by omega)
 have d1:decide (x≥t) = false:=decide_eq_false (by omega)
 have d1o:decide (t≤x) = false:=decide_eq_false (by omega)
 clear h hs hok ht
 go_enter Tryz.func48,Tryz.ntmps48
 go_simp
 ((repeat ((fail_if_success (rw[←HW0.out]));go_step));rw[←HW0.out])
 go_wp2_with fail
 refine C1.out.mono ?_
 rintro e w2 ⟨⟨t',r,rfl,hr,hr2⟩,b2⟩
 obtain rfl:r = 0:=hr.2 HOK.out
 obtain rfl:t' = t:=(hr2 HOK.out).trans HT.out.symm
 have B2:=Lib.hid b2
 have x2:=cell_kept b2 x0_0
 have z2:=szs (Nat.lt_of_lt_of_le z0.1 b2.size)
 try dsimp only at x2
 have BB:=Lib.hid (B0.out.trans (b2.mono B0.out.size))
 clear b2 x0_0 z0 hr hr2 C1
 have HX:Hid (x < segW n W (1 - (n:Int)) (2 * (n - 1)+1)):=Lib.hid (by
  have:=segW_tot n W (n - 1) (by omega)
  rw[show -((n - 1:Nat):Int) = 1 - (n:Int) by omega] at this
  rw[this,←HT.out];exact hx.2)
 have hx0:=hx.1
 have hxb:x≤2000000000:=by omega
 clear hx htb HT
 go_wp2_with fail
 clear d0 d1 d1o
 go_loopw [1,8] (fun s1 s8 wr=>∃ (x v:Int) (j:Nat),s1 = .int .i64 x∧s8 = .int .i64 v∧0≤x∧x≤2000000000∧-(n:Int) < v∧v+j = n∧Hid (x < segW n W v j)∧Hid (Below w2.heap.size w2 wr)) (fun _ s _=>(n - intOf s).toNat)
 case atStart=>exact ⟨x,1 - (n:Int),2 * (n - 1)+1,rfl,rfl,hx0,hxb,by omega,by omega,HX,Lib.hid (Below.refl _ _)⟩
 case round =>
  obtain ⟨x,v,j,rfl,rfl,hx0,hxb,hv,hj,hseg,hbel⟩:=hrel
  have HS:=hseg
  have HB:=hbel
  clear hseg hbel HX
  have x3:=cell_kept HB.out x2
  have z3:=szs (Nat.lt_of_lt_of_le z2.1 HB.out.size)
  try dsimp only at x3
  have hwb:=wtE_bound HOK.out v
  have hvr:-4000000≤v∧v≤4000000:=by omega
  go_wp2_with fail
  refine (CW.out v hvr _ (B2.out.trans (HB.out.mono B2.out.size))).mono ?_
  rintro e w4 ⟨rfl,b4⟩
  have B4:=Lib.hid (HB.out.trans (b4.mono HB.out.size))
  have x4:=cell_kept b4 x3
  have z4:=szs (Nat.lt_of_lt_of_le z3.1 b4.size)
  try dsimp only at x4
  obtain ⟨y,hy⟩:∃ y,y = wtE n W v:=⟨_,rfl⟩
  rw[←hy] at hwb ⊢
  have HY:=Lib.hid hy
  clear b4 x3 z3 HB hy
  by_cases hge:x≥y
  ·have d0:decide (x≥y) = true:=decide_eq_true hge
   have d0o:decide (y≤x) = true:=decide_eq_true hge
   have hj0:0 < j:=by
    rcases Nat.eq_zero_or_pos j with e | e
    ·exfalso;have h1:=HS.out;rw[e] at h1;have h2:x < 0:=h1;omega
    ·exact e
   obtain ⟨i,rfl⟩:∃ i,j = i+1:=⟨j - 1,by omega⟩
   have HS2:Hid (x - y < segW n W (v+1) i):=Lib.hid (by
    have h1:=HS.out
    have h2:segW n W v (i+1) = wtE n W v+segW n W (v+1) i:=rfl
    rw[h2,←HY.out] at h1
    omega)
   go_wp2_with fail
   refine (CW.out v hvr _ (B2.out.trans (B4.out.mono B2.out.size))).mono ?_
   rintro e w5 ⟨rfl,b5⟩
   have B5:=Lib.hid (B4.out.trans (b5.mono B4.out.size))
   rw[←HY.out]
   clear b5 x4 z4 B4 HY HS
   go_wp2_with fail
   go_roundw
   case rel=>exact ⟨x - y,v+1,i,by go_num,by go_num,by omega,by omega,by omega,by omega,HS2,B5⟩
   case measure=>simp [intOf] <;> omega
  ·have d0:decide (x≥y) = false:=decide_eq_false hge
   have d0o:decide (y≤x) = false:=decide_eq_false hge
   have hj0:0 < j:=by
    rcases Nat.eq_zero_or_pos j with e | e
    ·exfalso;have h1:=HS.out;rw[e] at h1;have h2:x < 0:=h1;omega
    ·exact e
   have HV:Hid (-(n:Int) < v∧v < n):=Lib.hid ⟨by omega,by omega⟩
   go_wp2_with fail
   go_returns
   exact ⟨⟨v,rfl,HV.out⟩,BB.out.trans (B4.out.mono BB.out.size)⟩
end Go.Proofs.YtdpoppilnokniaaGreatDoor
