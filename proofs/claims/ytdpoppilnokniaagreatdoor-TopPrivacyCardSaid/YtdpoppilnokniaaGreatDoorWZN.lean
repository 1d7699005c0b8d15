/- Theorems of this seat. -/
import Derived.Test.YtdpoppilnokniaaGreatDoorWNSA
import Derived.Test.YtdpoppilnokniaaGreatDoorWLYP
namespace Go.Proofs.YtdpoppilnokniaaGreatDoor
open Go.RowKit Go.ChangeShapes Go.WideShapes Go.Deep
set_option linter.unusedVariables false
set_option linter.unusedSimpArgs false
set_option linter.unnecessarySimpa false
def zbad1 (z:Int):Bool:=decide (z < 0) || decide (z≥8)
theorem zone74 (z:Int) (w:World):Calls Tryz.prog 74 #[.int .i64 z] w fun e w'=>e = .returned (.bool (zbad1 z))∧w' = w:=by
 unfold zbad1
 by_cases h0:z < 0
 ·have t0:decide (z < 0) = true:=decide_eq_true h0
  go_enter Tryz.func74,Tryz.ntmps74
  go_wp2_with fail
  go_returns
  first | exact ⟨rfl,rfl⟩ | exact ⟨by rw[t0];rfl,rfl⟩ | exact ⟨by simp [t0],rfl⟩
 ·have t0:decide (z < 0) = false:=decide_eq_false h0
  go_enter Tryz.func74,Tryz.ntmps74
  go_wp2_with fail
  go_returns
  first | exact ⟨rfl,rfl⟩ | exact ⟨by rw[t0];rfl,rfl⟩ | exact ⟨by simp [t0],rfl⟩
def zbadB (Z:Nat→Int) (n:Nat):Bool:=(ents Z n).any zbad1
theorem zbad_false {Z:Nat→Int}{n i:Nat}(h:zbadB Z n = false) (hi:i < n):0≤Z i∧Z i < 8:=by
 have h1:zbad1 (Z i) = false:=by
  cases hb:zbad1 (Z i) with
  | false=>rfl
  | true =>
   have:zbadB Z n = true:=List.any_eq_true.2 ⟨Z i,mem_ents.2 ⟨i,hi,rfl⟩,hb⟩
   rw[h] at this
   cases this
 unfold zbad1 at h1
 simp only[Bool.or_eq_false_iff,decide_eq_false_iff_not] at h1
 omega
theorem has73c (zo:Option Addr) (n c:Nat) (Z:Nat→Int) (w:World) (h:Sl w 1 zo n c (nuR Z)) :
  Calls Tryz.prog 73 #[.slice zo n c,.func (.func 74) #[] #[]] w fun e w'=>e = .returned (.bool (zbadB Z n))∧Below w.heap.size w w':=by
 have hlm:=h.hm
 have hlc:=h.hc
 rcases Nat.eq_zero_or_pos n with e | e
 ·subst e
  refine (AnyE.slices_ContainsFunc_empty has73 zo c _ w).mono ?_
  rintro e w' ⟨rfl,rfl⟩
  exact ⟨rfl,Below.refl _ _⟩
 ·obtain ⟨g,o,rfl,hg,hcs⟩:=h.ints e
  refine (AnyE.slices_ContainsFunc has73 (fun z:Int=>.int .i64 z) zbad1 74 #[] (enters_of Tryz.func74 (by kernel_rfl) rfl) g o n c (ents Z n) w (fun W x _=>(zone74 x W).mono ?_) (by rw[ents_len];omega) (by omega) (fun j hj=>?_)).mono ?_
  ·rintro e w' ⟨rfl,rfl⟩
   exact ⟨rfl,0,by first | rfl | simp⟩
  ·rw[ents_len] at hj
   rw[hcs j hj]
   have:(ents Z n)[j]! = Z j:=by rw[List.getElem!_eq_getElem?_getD,ents_get hj];rfl
   rw[this]
  ·rintro e w' ⟨rfl,q,rfl⟩
   refine ⟨by rw[List.take_of_length_le (by rw[ents_len];omega)];rfl,below_drewN (Below.refl _ _) q⟩
def zoneE (Z:Nat→Int) (n:Nat) (wh pl:Int):Int×Int :=
 if n < 64∨96 < n then (0,3) else if zbadB Z n = true then (0,3)
 else if wh = 2 then (if 0≤pl∧pl < 64 then (Z pl.toNat,0) else (0,7))
 else if wh = 1 then (if 0≤pl∧pl / 32 < (n:Int) - 64 then (Z (64+pl / 32).toNat,0) else (0,7))
 else (0,14)
theorem zoneE_in {Z:Nat→Int}{n:Nat}{wh pl:Int}(h:(zoneE Z n wh pl).2 = 0):0≤(zoneE Z n wh pl).1∧(zoneE Z n wh pl).1 < 8:=by
 unfold zoneE at *
 split at h
 ·cases h
 ·rename_i h1
  rw[if_neg h1]
  split at h
  ·cases h
  ·rename_i h2
   rw[if_neg h2]
   have h2:zbadB Z n = false:=by simpa using h2
   split at h
   ·rename_i h3
    rw[if_pos h3]
    split at h
    ·rename_i h4;rw[if_pos h4];exact zbad_false h2 (by omega)
    ·cases h
   ·rename_i h3
    rw[if_neg h3]
    split at h
    ·rename_i h4
     rw[if_pos h4]
     split at h
     ·rename_i h5
      rw[if_pos h5]
      refine zbad_false h2 ?_
      have:=Int.ediv_nonneg h5.1 (show (0:Int)≤32 by omega)
      omega
     ·cases h
    ·cases h
set_option maxRecDepth 4000 in
set_option maxHeartbeats 8000000 in
theorem Zone53 (zo:Option Addr) (n c:Nat) (Z:Nat→Int) (wh pl:Int) (w:World) (h:Sl w 1 zo n c (nuR Z)) (hp:inI pl) :
  Calls Tryz.prog 53 #[.slice zo n c,.int .i64 wh,.int .i64 pl] w fun e w'=>e = .returned (.tuple #[.int .i64 (zoneE Z n wh pl).1,.int .i64 (zoneE Z n wh pl).2])∧Below w.heap.size w w':=by
 have hlm:=h.hm
 have hlc:=h.hc
 unfold inI at hp
 have H:=Lib.hid h
 have HC:=Lib.hid (has73c zo n c Z w h)
 clear h
 by_cases h0:(n:Int) < 64
 ·have t0:decide ((n:Int) < 64) = true:=decide_eq_true h0
  have t0n:decide (n < 64) = true:=decide_eq_true (by omega)
  go_enter Tryz.func53,Tryz.ntmps53
  go_wp2_with fail
  go_returns
  exact ⟨by unfold zoneE;rw[if_pos (by omega)];rfl,Below.refl _ _⟩
 have t0:decide ((n:Int) < 64) = false:=decide_eq_false h0
 have t0n:decide (n < 64) = false:=decide_eq_false (by omega)
 by_cases h1:(n:Int) > 96
 ·have t1:decide ((n:Int) > 96) = true:=decide_eq_true h1
  have t1o:decide (96 < (n:Int)) = true:=decide_eq_true h1
  have t1n:decide (96 < n) = true:=decide_eq_true (by omega)
  go_enter Tryz.func53,Tryz.ntmps53
  go_wp2_with fail
  go_returns
  exact ⟨by unfold zoneE;rw[if_pos (by omega)];rfl,Below.refl _ _⟩
 have t1:decide ((n:Int) > 96) = false:=decide_eq_false h1
 have t1o:decide (96 < (n:Int)) = false:=decide_eq_false h1
 have t1n:decide (96 < n) = false:=decide_eq_false (by omega)
 obtain ⟨b,hb⟩:∃ b,b = zbadB Z n:=⟨_,rfl⟩
 rw[←hb] at HC
 have HB:=Lib.hid hb
 clear hb
 have HZ:Hid (zoneE Z n wh pl = if b = true then (0,3) else if wh = 2 then (if 0≤pl∧pl < 64 then (Z pl.toNat,0) else (0,7)) else if wh = 1 then (if 0≤pl∧pl / 32 < (n:Int) - 64 then (Z (64+pl / 32).toNat,0) else (0,7)) else (0,14)):=Lib.hid (by
  unfold zoneE;rw[if_neg (by omega),HB.out])
 obtain ⟨y,hy⟩:∃ y,y = zoneE Z n wh pl:=⟨_,rfl⟩
 rw[←hy] at HZ ⊢
 clear hy
 go_enter Tryz.func53,Tryz.ntmps53
 go_wp2_with fail
 refine HC.out.mono ?_
 rintro e w2 ⟨rfl,b2⟩
 have B2:=Lib.hid b2
 clear b2 HC t0 t0n t1 t1o t1n
 cases b
 ·obtain ⟨g,o,rfl,hg,hcs⟩:=(H.out.below B2.out).ints (show 0 < n by omega)
  have HCS:=Lib.hid hcs
  clear hcs
  by_cases hw2:wh = 2
  ·subst hw2
   by_cases hp0:pl≥0
   ·have t0:decide (pl≥0) = true:=decide_eq_true hp0
    have t0o:decide (0≤pl) = true:=decide_eq_true hp0
    by_cases hp1:pl < 64
    ·have t1:decide (pl < 64) = true:=decide_eq_true hp1
     obtain ⟨p,rfl⟩:∃ p:Nat,pl = p:=⟨pl.toNat,by omega⟩
     have u0:=HCS.out p (by omega)
     have t2:decide ((p:Int) < (n:Int)) = true:=decide_eq_true (by omega)
     have HV:Hid (y = (Z p,0)):=Lib.hid (by rw[HZ.out,if_neg (by decide),if_pos rfl,if_pos ⟨by omega,by omega⟩,Int.toNat_natCast])
     go_wp2_with fail
     go_returns
     exact ⟨by rw[HV.out];rfl,B2.out⟩
    ·have t1:decide (pl < 64) = false:=decide_eq_false hp1
     have HV:Hid (y = (0,7)):=Lib.hid (by rw[HZ.out,if_neg (by decide),if_pos rfl,if_neg (by omega)])
     go_wp2_with fail
     go_returns
     exact ⟨by rw[HV.out];rfl,B2.out⟩
   ·have t0:decide (pl≥0) = false:=decide_eq_false hp0
    have t0o:decide (0≤pl) = false:=decide_eq_false hp0
    have HV:Hid (y = (0,7)):=Lib.hid (by rw[HZ.out,if_neg (by decide),if_pos rfl,if_neg (by omega)])
    go_wp2_with fail
    go_returns
    exact ⟨by rw[HV.out];rfl,B2.out⟩
  ·have s2:(wh == 2) = false:=by simp [hw2]
   by_cases hw1:wh = 1
   ·subst hw1
    by_cases hp0:pl≥0
    ·have t0:decide (pl≥0) = true:=decide_eq_true hp0
     have t0o:decide (0≤pl) = true:=decide_eq_true hp0
     obtain ⟨q,hq⟩:∃ q,q = pl / 32:=⟨_,rfl⟩
     have hq0:0≤q:=by rw[hq];exact Int.ediv_nonneg hp0 (by omega)
     have hqb:q≤9223372036854775807:=by rw[hq];omega
     have hd:pl.tdiv 32 = q:=by rw[hq];exact Int.tdiv_eq_ediv_of_nonneg (by omega)
     have hd2:pl / 32 = q:=hq.symm
     obtain ⟨p,rfl⟩:∃ p:Nat,q = p:=⟨q.toNat,by omega⟩
     have HD:=Lib.hid hd2
     clear hq
     by_cases hp1:(p:Int) < (n:Int) - 64
     ·have t1:decide ((p:Int) < (n:Int) - 64) = true:=decide_eq_true hp1
      have u0:=HCS.out (64+p) (by omega)
      have tn:((64:Int)+(p:Int)).toNat = 64+p:=by omega
      have t2:decide ((64:Int)+(p:Int) < (n:Int)) = true:=decide_eq_true (by omega)
      have HV:Hid (y = (Z (64+p),0)):=Lib.hid (by rw[HZ.out,if_neg (by decide),if_neg (by decide),if_pos rfl,HD.out,if_pos ⟨by omega,by omega⟩,tn])
      go_wp2_with fail
      go_returns
      exact ⟨by rw[HV.out];rfl,B2.out⟩
     ·have t1:decide ((p:Int) < (n:Int) - 64) = false:=decide_eq_false hp1
      have HV:Hid (y = (0,7)):=Lib.hid (by rw[HZ.out,if_neg (by decide),if_neg (by decide),if_pos rfl,HD.out,if_neg (by omega)])
      go_wp2_with fail
      go_returns
      exact ⟨by rw[HV.out];rfl,B2.out⟩
    ·have t0:decide (pl≥0) = false:=decide_eq_false hp0
     have t0o:decide (0≤pl) = false:=decide_eq_false hp0
     have HV:Hid (y = (0,7)):=Lib.hid (by rw[HZ.out,if_neg (by decide),if_neg (by decide),if_pos rfl,if_neg (by omega)])
     go_wp2_with fail
     go_returns
     exact ⟨by rw[HV.out];rfl,B2.out⟩
   ·have s1:(wh == 1) = false:=by simp [hw1]
    have HV:Hid (y = (0,14)):=Lib.hid (by rw[HZ.out,if_neg (by decide),if_neg hw2,if_neg hw1])
    go_wp2_with fail
    go_returns
    exact ⟨by rw[HV.out];rfl,B2.out⟩
 ·have HV:Hid (y = (0,3)):=Lib.hid (by rw[HZ.out,if_pos rfl])
  go_wp2_with fail
  go_returns
  exact ⟨by rw[HV.out];rfl,B2.out⟩
def zendE (Z:Nat→Int) (n:Nat) (x:Rid):Int×Int×Int :=
 if (zoneE Z n x.fw x.fp).2 = 0 then ((zoneE Z n x.fw x.fp).1,(zoneE Z n x.wh x.pl).1,(zoneE Z n x.wh x.pl).2) else (0,0,(zoneE Z n x.fw x.fp).2)
set_option maxRecDepth 4000 in
set_option maxHeartbeats 8000000 in
theorem ends30 (zo:Option Addr) (n c:Nat) (Z:Nat→Int) (size:Int) (x:Rid) (w:World) (h:Sl w 1 zo n c (nuR Z)) (hp:inI x.fp∧inI x.pl) :
  Calls Tryz.prog 30 #[.slice zo n c,.int .i64 size,.agg (rds x).toArray] w fun e w'=>e = .returned (.tuple #[.int .i64 (zendE Z n x).1,.int .i64 (zendE Z n x).2.1,.int .i64 (zendE Z n x).2.2])∧Below w.heap.size w w':=by
 obtain ⟨a1,a2,a3,a4,a5,a6,a7,a8,a9,a10,a11,a12,a13,a14,a15,a16,a17⟩:=x
 obtain ⟨y,hy⟩:∃ y,y = zendE Z n ⟨a1,a2,a3,a4,a5,a6,a7,a8,a9,a10,a11,a12,a13,a14,a15,a16,a17⟩:=⟨_,rfl⟩
 rw[←hy]
 unfold zendE at hy
 dsimp only at hy hp
 unfold rds
 dsimp only
 have B0:Hid (Below w.heap.size w (w.alloc (.cells #[.int .i64 a1,.int .i64 a2,.int .i64 a3,.int .i64 a4,.int .i64 a5,.int .i64 a6,.bool a7,.slice a8 a9 a10,.slice a11 a12 a13,.int .i64 a14,.int .i64 a15,.int .i64 a16,.int .i64 a17] 71))):=Lib.hid (by (repeat' (first | with_reducible (first | exact Below.refl _ _ | assumption | refine Below.drew ?_ | refine below_drewN ?_ _ | refine Below.alloc ?_ ?_ _ | refine Below.setCell ?_ ?_ _) | go_size)));have X0:=Lib.hid (al_at w (.cells #[.int .i64 a1,.int .i64 a2,.int .i64 a3,.int .i64 a4,.int .i64 a5,.int .i64 a6,.bool a7,.slice a8 a9 a10,.slice a11 a12 a13,.int .i64 a14,.int .i64 a15,.int .i64 a16,.int .i64 a17] 71) rfl);obtain ⟨w1,hw0⟩:∃ w1,w1 = w.alloc (.cells #[.int .i64 a1,.int .i64 a2,.int .i64 a3,.int .i64 a4,.int .i64 a5,.int .i64 a6,.bool a7,.slice a8 a9 a10,.slice a11 a12 a13,.int .i64 a14,.int .i64 a15,.int .i64 a16,.int .i64 a17] 71):=⟨_,rfl⟩;rw[←hw0] at B0 X0;have HW0:=Lib.hid hw0;clear hw0;have z0:=szs (block_lt X0.out);skip
 have x9:=cell_at X0.out 9
 have x10:=cell_at X0.out 10
 have C1:=Lib.hid (Zone53 zo n c Z a14 a15 w1 (h.below B0.out) hp.1)
 have C2:=Lib.hid (fun w' (b:Below w1.heap.size w1 w')=>Zone53 zo n c Z a16 a17 w' ((h.below B0.out).below b) hp.2)
 obtain ⟨r1,e1⟩:∃ r1,r1 = zoneE Z n a14 a15:=⟨_,rfl⟩
 obtain ⟨r2,e2⟩:∃ r2,r2 = zoneE Z n a16 a17:=⟨_,rfl⟩
 rw[←e1] at C1 hy
 rw[←e2] at C2 hy
 obtain ⟨z1,s1⟩:=r1
 obtain ⟨z2,s2⟩:=r2
 dsimp only at C1 C2 hy
 have HY:=Lib.hid hy
 clear hy h hp e1 e2
 go_enter Tryz.func30,Tryz.ntmps30
 go_simp
 ((repeat ((fail_if_success (rw[←HW0.out]));go_step));rw[←HW0.out])
 go_wp2_with fail
 refine C1.out.mono ?_
 rintro e w2 ⟨rfl,b2⟩
 have B2:=Lib.hid b2
 have X2:=Lib.hid ((b2.block _ (block_lt X0.out)).trans X0.out)
 clear b2 x9 x10 z0 C1 HW0
 by_cases hs:s1 = 0
 ·subst hs
  have HV:Hid (y = (z1,z2,s2)):=Lib.hid (by rw[HY.out,if_pos rfl])
  have x11:=cell_at X2.out 11
  have x12:=cell_at X2.out 12
  have zx:=szs (block_lt X2.out)
  go_wp2_with fail
  refine (C2.out _ B2.out).mono ?_
  rintro e w3 ⟨rfl,b3⟩
  have B3:=Lib.hid (B0.out.trans ((B2.out.trans (b3.mono B2.out.size)).mono B0.out.size))
  clear b3 x11 x12 zx
  go_wp2_with fail
  go_returns
  exact ⟨by rw[HV.out];rfl,B3.out⟩
 ·have t0:(s1 != 0) = true:=by simp [hs]
  have HV:Hid (y = (0,0,s1)):=Lib.hid (by rw[HY.out,if_neg hs])
  clear hs
  go_wp2_with fail
  go_returns
  exact ⟨by rw[HV.out];rfl,B0.out.trans (B2.out.mono B0.out.size)⟩
end Go.Proofs.YtdpoppilnokniaaGreatDoor
