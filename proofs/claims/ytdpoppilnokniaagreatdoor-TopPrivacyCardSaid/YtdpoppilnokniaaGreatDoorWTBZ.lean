/- Theorems of this seat. -/
import Derived.Test.YtdpoppilnokniaaGreatDoorWA
import Derived.Test.YtdpoppilnokniaaGreatDoorWBB
import Derived.Test.YtdpoppilnokniaaGreatDoorWTB5
import Derived.Test.YtdpoppilnokniaaGreatDoorWNSC
namespace Go.Proofs.YtdpoppilnokniaaGreatDoor
open Go.RowKit Go.ChangeShapes Go.WideShapes Go.Deep
set_option linter.unusedVariables false
set_option linter.unusedSimpArgs false
theorem clnInfo27:(Tryz.prog.info? 3).map (fun i=>(i.zero,i.size,i.bytes)) = some (some (.int .i64 0),1,8):=by kernel_rfl
set_option maxRecDepth 4000 in
set_option maxHeartbeats 4000000 in
theorem clone27 (ao:Option Addr) (n c:Nat) (f:Nat→List Value) (w:World) (h:Sl w 1 ao n c f) (h1:∀ i,∀ u∈f i,u.oneCell' = true) (hn:n≤1000000):Calls Tryz.prog 27 #[.slice ao n c] w fun e w'=>∃ v,e = .returned v∧Row w' w.heap.size 3 1 v n f∧Below w.heap.size w w':=by
 obtain ⟨i0,hi,hz0,hz1,hz2⟩:=info_parts clnInfo27
 cases ao with
 | none =>
  obtain ⟨rfl,rfl⟩:=h.hno rfl
  have q34:∀ w,(binOp .eql 22 (.slice none 0 0) (.slice none 0 0)).run Tryz.prog w = .ok (.bool true) w:=fun w=>Lib.run_eql_slice_nil w _ _ none 0 0 0 0 Tryz.underlying22
  clear h
  go_enter Tryz.func27,Tryz.ntmps27
  go_wp2_with fail
  go_returns
  exact ⟨_,rfl,⟨by simp [flat],.inl ⟨rfl,rfl⟩⟩,Below.refl _ _⟩
 | some a =>
  have HS:=Lib.hid h
  have q34:∀ w,(binOp .eql 22 (.slice (some a) n c) (.slice none 0 0)).run Tryz.prog w = .ok (.bool false) w:=fun w=>Lib.run_eql_slice_nil w _ _ (some a) n c 0 0 Tryz.underlying22
  have B0:Hid (Below w.heap.size w (w.alloc (.cells #[] 3))):=Lib.hid (by (repeat' (first | with_reducible (first | exact Below.refl _ _ | assumption | refine Below.drew ?_ | refine below_drewN ?_ _ | refine Below.alloc ?_ ?_ _ | refine Below.setCell ?_ ?_ _) | go_size)))
  clear h
  go_enter Tryz.func27,Tryz.ntmps27
  go_wp2_with (at_builtin;refine wpList_append_sl _ rfl (.tmp 5) (.tmp 6) 22 rfl w.heap.size 3 i0 _ 1 8 Tryz.underlying22 hi hz0 hz1 hz2 rfl (by decide) _ 0 f rfl (World.ownsRow_made w #[] 0 (Nat.le_refl _) (Nat.zero_le _) (by simp)) HS.out.len (some a) n c f rfl HS.out.len (fun h=>by cases h) (HS.out.sl.below HS.out.len B0.out) h1 (by omega) (by unfold maxLen;omega) (by simp) ?_)
  intro v' w' hr hg hf
  have B1:Hid (Below w.heap.size w w'):=Lib.hid ((Below.refl _ w).alloc (Nat.le_refl _) _ |>.grown hg (by simp) (by intro k hk;simp [Value.ownBlock] at hk;omega))
  have HR:Hid (Row w' w.heap.size 3 1 v' n f):=Lib.hid (by
   exact Row.congr hr fun i hi=>by simp [cat])
  clear hr hg hf
  go_wp2_with fail
  go_returns
  exact ⟨_,rfl,HR.out,B1.out⟩
set_option linter.unnecessarySimpa false
def NsR (f t each size:Int) (p:Nat) (X:Nat→Int) (n:Nat) (W:Nat→Int) (base:Nat) (v:Value) (w':World):Prop :=
 ∃ (zv wv:Value) (Y:Nat→Int),v = .agg #[.int .i64 f,.int .i64 t,.int .i64 each,.int .i64 size,.int .i64 size,zv,.slice none 0 0,.slice none 0 0,.slice none 0 0,wv] ∧
  Row w' base 3 1 zv p (nuR Y)∧Row w' base 3 1 wv n (nuR W)∧NOK n W∧∀ i,i < p→X i - n < Y i∧Y i < X i+n
def NsQ (Z:Nat→Int) (zn:Nat) (size f t each:Int) (nr:Nat) (F:Nat→Rid) (L:Nat→Nat→Leg) (Q:Nat→Nat→Pau) (n:Nat) (W:Nat→Int) (k:Nat) (U:Nat→Int) (base:Nat) (c:Array Value) (r:Int) (w':World):Prop :=
 (r ≠ 0→c = zero10)∧(r = 0→TabOk Z zn size f t each nr F L Q∧NsR f t each size (size.toNat * size.toNat) (celX Z zn size f t each nr F) n W base (.agg c) w')∧(TabOk Z zn size f t each nr F L Q→each ≠ 0→size = 1→NOK n W→0 < k→U 0 < totS W (n - 1)→r = 0)
def NsP (Z:Nat→Int) (zn:Nat) (size f t each:Int) (nr:Nat) (F:Nat→Rid) (L:Nat→Nat→Leg) (Q:Nat→Nat→Pau) (n:Nat) (W:Nat→Int) (k:Nat) (U:Nat→Int) (base:Nat) (e:Ending) (w':World):Prop :=
 ∃ (c:Array Value) (r:Int),e = .returned (.tuple #[.agg c,.int .i64 r])∧NsQ Z zn size f t each nr F L Q n W k U base c r w'
set_option maxRecDepth 8000 in
set_option maxHeartbeats 32000000 in
theorem Noisy11 (zo:Option Addr) (zn zc:Nat) (Z:Nat→Int) (size:Int) (ro:Option Addr) (nr c:Nat) (F:Nat→Rid) (L:Nat→Nat→Leg) (Q:Nat→Nat→Pau) (f t each:Int) (wo:Option Addr) (n wc:Nat) (W:Nat→Int) (uo:Option Addr) (k kc:Nat) (U:Nat→Int) (w:World) (hz:Sl w 1 zo zn zc (nuR Z)) (h:RdsIn w ro nr c F L Q) (hn:nr≤1000) (hp:∀ i,i < nr→inI (F i).fp∧inI (F i).pl) (hao:∀ a,ro = some a→a.block < w.heap.size) (hW:Sl w 1 wo n wc (nuR W)) (hg:Sgn w) (hu:Sl w 1 uo k kc (u6R U)) (hU:∀ i,i < k→0≤U i∧U i≤18446744073709551615) :
  Calls Tryz.prog 11 #[.slice zo zn zc,.int .i64 size,.slice ro nr c,.agg #[.int .i64 f,.int .i64 t],.int .i64 each,.agg #[.slice wo n wc],.slice uo k kc] w fun e w'=>NsP Z zn size f t each nr F L Q n W k U w.heap.size e w'∧Below w.heap.size w w':=by
 have B0:Hid (Below w.heap.size w (w.alloc (.cells #[.int .i64 f,.int .i64 t] 27))):=Lib.hid (by (repeat' (first | with_reducible (first | exact Below.refl _ _ | assumption | refine Below.drew ?_ | refine below_drewN ?_ _ | refine Below.alloc ?_ ?_ _ | refine Below.setCell ?_ ?_ _) | go_size)));have X0:=Lib.hid (al_at w (.cells #[.int .i64 f,.int .i64 t] 27) rfl);obtain ⟨w1,hw0⟩:∃ w1,w1 = w.alloc (.cells #[.int .i64 f,.int .i64 t] 27):=⟨_,rfl⟩;rw[←hw0] at B0 X0;have HW0:=Lib.hid hw0;clear hw0;have z0:=szs (block_lt X0.out);skip
 have B1:Hid (Below w1.heap.size w1 (w1.alloc (.cells #[.slice wo n wc] 40))):=Lib.hid (by (repeat' (first | with_reducible (first | exact Below.refl _ _ | assumption | refine Below.drew ?_ | refine below_drewN ?_ _ | refine Below.alloc ?_ ?_ _ | refine Below.setCell ?_ ?_ _) | go_size)));have X1:=Lib.hid (al_at w1 (.cells #[.slice wo n wc] 40) rfl);obtain ⟨w2,hw1⟩:∃ w2,w2 = w1.alloc (.cells #[.slice wo n wc] 40):=⟨_,rfl⟩;rw[←hw1] at B1 X1;have HW1:=Lib.hid hw1;clear hw1;have z1:=szs (block_lt X1.out);skip
 have B2:Hid (Below w2.heap.size w2 (w2.alloc (.cells #[.int .i64 0,.int .i64 0,.int .i64 0,.int .i64 0,.int .i64 0,.slice none 0 0,.slice none 0 0,.slice none 0 0,.slice none 0 0,.slice none 0 0] 42))):=Lib.hid (by (repeat' (first | with_reducible (first | exact Below.refl _ _ | assumption | refine Below.drew ?_ | refine below_drewN ?_ _ | refine Below.alloc ?_ ?_ _ | refine Below.setCell ?_ ?_ _) | go_size)));have X2:=Lib.hid (al_at w2 (.cells #[.int .i64 0,.int .i64 0,.int .i64 0,.int .i64 0,.int .i64 0,.slice none 0 0,.slice none 0 0,.slice none 0 0,.slice none 0 0,.slice none 0 0] 42) rfl);obtain ⟨wb,hw2⟩:∃ wb,wb = w2.alloc (.cells #[.int .i64 0,.int .i64 0,.int .i64 0,.int .i64 0,.int .i64 0,.slice none 0 0,.slice none 0 0,.slice none 0 0,.slice none 0 0,.slice none 0 0] 42):=⟨_,rfl⟩;rw[←hw2] at B2 X2;have HW2:=Lib.hid hw2;clear hw2;have z2:=szs (block_lt X2.out);skip
 have s1:w1.heap.size = w.heap.size+1:=by rw[HW0.out];simp
 have s2:w2.heap.size = w.heap.size+2:=by rw[HW1.out];simp [s1]
 rw[s1] at X1
 rw[s2] at X2
 have HS:=Lib.hid (And.intro s1 s2)
 have B12:=B1.out.trans (B2.out.mono B1.out.size)
 have BB:=Lib.hid (B0.out.trans (B12.mono B0.out.size))
 have X0':=Lib.hid ((B12.block _ (by omega)).trans X0.out)
 have X1':=Lib.hid ((B2.out.block _ (by omega)).trans X1.out)
 have CT:=Lib.hid (table22 zo zn zc Z size ro nr c F L Q f t each wb (hz.below BB.out) (h.below BB.out) hn hp (fun a ha=>Nat.lt_of_lt_of_le (hao a ha) BB.out.size))
 have HW':=Lib.hid hW
 have HG:=Lib.hid hg
 have HU:=Lib.hid hu
 have HUB:=Lib.hid hU
 have lw1:=hW.hm
 have lw2:=hW.hc
 clear hz h hp hao s1 s2 hW hg hu hU B12
 have x0:=cell_at X0'.out 0
 have x1:=cell_at X0'.out 1
 have zx:=szs (block_lt X0'.out)
 go_enter Tryz.func11,Tryz.ntmps11
 go_simp
 ((repeat ((fail_if_success (rw[←HW0.out]));go_step));rw[←HW0.out])
 go_simp
 ((repeat ((fail_if_success (rw[←HW1.out]));go_step));rw[←HW1.out])
 rw[HS.out.1]
 go_simp
 ((repeat ((fail_if_success (rw[←HW2.out]));go_step));rw[←HW2.out])
 rw[HS.out.2]
 clear HW0 HW1 HW2 HS z0 z1 z2 B0 B1 B2 X0 X1
 go_wp2_with fail
 refine CT.out.mono ?_
 rintro e w3 ⟨⟨a,b,v,r,rfl,hr1,hr2,hr3⟩,b3⟩
 have X13:=Lib.hid ((b3.block _ (block_lt X2.out)).trans X2.out)
 have X03:=Lib.hid ((b3.block _ (block_lt X0'.out)).trans X0'.out)
 have XN3:=Lib.hid ((b3.block _ (block_lt X1'.out)).trans X1'.out)
 have BB3:=Lib.hid (BB.out.trans (b3.mono BB.out.size))
 have HR:=Lib.hid hr1
 have X1S:=Lib.hid X2.out
 clear x0 x1 zx CT X2 X0' X1' b3 BB
 by_cases h0:r = 0
 case neg =>
  obtain ⟨rfl,rfl,rfl⟩:=hr3 h0
  have t0:(r != 0) = true:=by simp [h0]
  have HR0:=Lib.hid h0
  clear hr1 hr2 hr3 h0
  have B4:Hid (Below w3.heap.size w3 (w3.alloc (.cells #[.int .i64 0,.int .i64 0,.slice none 0 0] 37))):=Lib.hid (by (repeat' (first | with_reducible (first | exact Below.refl _ _ | assumption | refine Below.drew ?_ | refine below_drewN ?_ _ | refine Below.alloc ?_ ?_ _ | refine Below.setCell ?_ ?_ _) | go_size)));have X4:=Lib.hid (al_at w3 (.cells #[.int .i64 0,.int .i64 0,.slice none 0 0] 37) rfl);obtain ⟨w4,hw4⟩:∃ w4,w4 = w3.alloc (.cells #[.int .i64 0,.int .i64 0,.slice none 0 0] 37):=⟨_,rfl⟩;rw[←hw4] at B4 X4;have HW4:=Lib.hid hw4;clear hw4;have z4:=szs (block_lt X4.out);have x4_0:=cell_at X4.out 0;have x4_1:=cell_at X4.out 1;have x4_2:=cell_at X4.out 2
  have X14:Hid ((w3.alloc (.cells #[.int .i64 0,.int .i64 0,.slice none 0 0] 37)).heap[w.heap.size+2]? = some (.cells #[.int .i64 0,.int .i64 0,.int .i64 0,.int .i64 0,.int .i64 0,.slice none 0 0,.slice none 0 0,.slice none 0 0,.slice none 0 0,.slice none 0 0] 42 (0,0))):=Lib.hid (by rw[←HW4.out];exact (B4.out.block _ (block_lt X13.out)).trans X13.out)
  have BB4:Hid (Below w.heap.size w (w3.alloc (.cells #[.int .i64 0,.int .i64 0,.slice none 0 0] 37))):=Lib.hid (by rw[←HW4.out];exact BB3.out.trans (B4.out.mono BB3.out.size))
  clear HW4 x4_0 x4_1 x4_2 z4 X4 B4
  have fr:=fun j=>free_at X14.out j
  have zy:=szs (block_lt X14.out)
  have y0:=cell_at X14.out 0
  have y1:=cell_at X14.out 1
  have y2:=cell_at X14.out 2
  have y3:=cell_at X14.out 3
  have y4:=cell_at X14.out 4
  have y5:=cell_at X14.out 5
  have y6:=cell_at X14.out 6
  have y7:=cell_at X14.out 7
  have y8:=cell_at X14.out 8
  have y9:=cell_at X14.out 9
  go_wp2_with fail
  show bodyPost _ _ _ Exit.ret _ _
  have KZ:=put10 X14.out (.int .i64 0) (.int .i64 0) (.int .i64 0) (.int .i64 0) (.int .i64 0) (.slice none 0 0) (.slice none 0 0) (.slice none 0 0) (.slice none 0 0) (.slice none 0 0)
  have OZ:=BB4.out.trans ((off10 (World.alloc w3 (.cells #[.int .i64 0,.int .i64 0,.slice none 0 0] 37)) (w.heap.size+2) (.int .i64 0) (.int .i64 0) (.int .i64 0) (.int .i64 0) (.int .i64 0) (.slice none 0 0) (.slice none 0 0) (.slice none 0 0) (.slice none 0 0) (.slice none 0 0)).toBelow BB4.out.size (fun q hq h=>by have h:q = w.heap.size+2:=h;omega))
  unfold st10 at KZ OZ
  clear y0 y1 y2 y3 y4 y5 y6 y7 y8 y9 fr zy
  obtain ⟨w9,hw9⟩:∃ w9,w9 = ((((((((((World.alloc w3 (.cells #[.int .i64 0,.int .i64 0,.slice none 0 0] 37)).setCell ⟨w.heap.size+2,0,none⟩ (.int .i64 0)).setCell ⟨w.heap.size+2,1,none⟩ (.int .i64 0)).setCell ⟨w.heap.size+2,2,none⟩ (.int .i64 0)).setCell ⟨w.heap.size+2,3,none⟩ (.int .i64 0)).setCell ⟨w.heap.size+2,4,none⟩ (.int .i64 0)).setCell ⟨w.heap.size+2,5,none⟩ (.slice none 0 0)).setCell ⟨w.heap.size+2,6,none⟩ (.slice none 0 0)).setCell ⟨w.heap.size+2,7,none⟩ (.slice none 0 0)).setCell ⟨w.heap.size+2,8,none⟩ (.slice none 0 0)).setCell ⟨w.heap.size+2,9,none⟩ (.slice none 0 0):=⟨_,rfl⟩
  rw[←hw9] at KZ OZ ⊢
  clear hw9
  have k0:=cell_at KZ 0
  have k1:=cell_at KZ 1
  have k2:=cell_at KZ 2
  have k3:=cell_at KZ 3
  have k4:=cell_at KZ 4
  have k5:=cell_at KZ 5
  have k6:=cell_at KZ 6
  have k7:=cell_at KZ 7
  have k8:=cell_at KZ 8
  have k9:=cell_at KZ 9
  have zk:=szs (block_lt KZ)
  exact bodyPost_ret (v:=.tuple #[.agg zero10,.int .i64 r]) (by simp [results,Tryz.results11,go_sem,k0,k1,k2,k3,k4,k5,k6,k7,k8,k9,zero10]) rfl ⟨⟨_,_,rfl,⟨fun _=>rfl,fun e=>absurd e HR0.out,fun e1 e2 _ _ _ _=>HR.out.2 ⟨e1,e2⟩⟩⟩,OZ⟩
 subst h0
 obtain ⟨ha,hb,hrow⟩:=hr2 rfl
 rw[ha,hb]
 clear ha hb
 have HTO:=Lib.hid (hr1.1 rfl)
 obtain ⟨p,hpp⟩:∃ p,p = size.toNat * size.toNat:=⟨_,rfl⟩
 rw[←hpp] at hrow
 have hs8:=HTO.out.1.sz
 have hp0:1≤p:=by rw[hpp];exact Nat.mul_le_mul (show 1≤size.toNat by omega) (show 1≤size.toNat by omega)
 obtain ⟨X,hX⟩:∃ X,X = celX Z zn size f t each nr F:=⟨_,rfl⟩
 have hrow2:Row w3 wb.heap.size 3 1 v p (nuR X):=by rw[hX];exact hrow
 have SC:=Lib.hid (show ∀ i,i < p→0≤X i∧X i≤256 from fun i _=>by
  rw[hX]
  have:=cellN_le Z zn size each f t F nr nr i
  have h2:=HTO.out.1.rides.few
  unfold celX
  omega)
 obtain ⟨qc,pc,rfl⟩:∃ qc pc,v = .slice (some ⟨qc,0,none⟩) p pc:=by
  rcases Row.shape hrow2 with ⟨_,e⟩ | ⟨g,cap,e,_⟩
  ·omega
  ·exact ⟨g,cap,e⟩
 have hlm:=(show p≤pc∧pc≤9223372036854775807 by
  obtain ⟨ao',c',e,hh⟩:=Row.toSl hrow2 (fun _=>rfl)
  cases e
  exact ⟨hh.hm,hh.hc⟩)
 have HPP:=Lib.hid (And.intro hpp hX)
 have RC3:=Lib.hid hrow2
 obtain ⟨hl1,hl2⟩:=hlm
 clear hr1 hr2 hr3 hrow hrow2 hpp hX
 have B4:Hid (Below w3.heap.size w3 (w3.alloc (.cells #[.int .i64 size,.int .i64 size,.slice (some ⟨qc,0,none⟩) p pc] 37))):=Lib.hid (by (repeat' (first | with_reducible (first | exact Below.refl _ _ | assumption | refine Below.drew ?_ | refine below_drewN ?_ _ | refine Below.alloc ?_ ?_ _ | refine Below.setCell ?_ ?_ _) | go_size)));have X4:=Lib.hid (al_at w3 (.cells #[.int .i64 size,.int .i64 size,.slice (some ⟨qc,0,none⟩) p pc] 37) rfl);obtain ⟨w4,hw4⟩:∃ w4,w4 = w3.alloc (.cells #[.int .i64 size,.int .i64 size,.slice (some ⟨qc,0,none⟩) p pc] 37):=⟨_,rfl⟩;rw[←hw4] at B4 X4;have HW4:=Lib.hid hw4;clear hw4;have z4:=szs (block_lt X4.out);have x4_0:=cell_at X4.out 0;have x4_1:=cell_at X4.out 1;have x4_2:=cell_at X4.out 2
 obtain ⟨qt,hqt⟩:∃ qt,qt = w3.heap.size:=⟨_,rfl⟩
 rw[←hqt] at X4 x4_0 x4_1 x4_2 z4
 have hqt2:w.heap.size+2 < qt:=by rw[hqt];exact block_lt X13.out
 have HQT:=Lib.hid hqt
 have X14:=Lib.hid ((B4.out.block _ (block_lt X13.out)).trans X13.out)
 have X04:=Lib.hid ((B4.out.block _ (block_lt X03.out)).trans X03.out)
 have XN4:=Lib.hid ((B4.out.block _ (block_lt XN3.out)).trans XN3.out)
 have BB4:=Lib.hid (BB3.out.trans (B4.out.mono BB3.out.size))
 have hsl:Sl w4 1 (some ⟨qc,0,none⟩) p pc (nuR X):=by
  obtain ⟨ao',c',e,h⟩:=Row.toSl (Row.off (X:=fun _=>False) RC3.out (Off.of_below B4.out) (fun _ _ h=>h)) (fun _=>rfl)
  cases e
  exact h
 have CA:=Lib.hid (Add26 wo n wc W (some ⟨qc,0,none⟩) p pc X uo k kc U w4 (HW'.out.below BB4.out) (HG.out.below BB4.out) hsl (HU.out.below BB4.out) HUB.out)
 go_simp
 ((repeat ((fail_if_success (rw[←HW4.out]));go_step));rw[←HW4.out])
 rw[←HQT.out]
 clear HW4 HQT hqt hsl X13 X03 XN3 BB3 RC3 B4
 have n0:=cell_at XN4.out 0
 have zn':=szs (block_lt XN4.out)
 go_wp2_with fail
 refine CA.out.mono ?_
 rintro e w5 ⟨⟨av,al,r,rfl,ha1,ha2⟩,b5⟩
 have X15:=Lib.hid ((b5.block _ (block_lt X14.out)).trans X14.out)
 have X05:=Lib.hid ((b5.block _ (block_lt X04.out)).trans X04.out)
 have XN5:=Lib.hid ((b5.block _ (block_lt XN4.out)).trans XN4.out)
 have XT5:=Lib.hid ((b5.block _ (block_lt X4.out)).trans X4.out)
 have BB5:=Lib.hid (BB4.out.trans (b5.mono BB4.out.size))
 have HA2:=Lib.hid ha2
 have hqt4:=block_lt X4.out
 have B5S:=Lib.hid b5.size
 clear x4_0 x4_1 x4_2 z4 b5 CA X14 X04 XN4 X4 BB4 ha2 n0 zn'
 by_cases h0:r = 0
 case neg =>
  have t0:(r != 0) = true:=by simp [h0]
  have HR0:=Lib.hid h0
  clear h0 ha1
  have fr:=fun j=>free_at X15.out j
  have zy:=szs (block_lt X15.out)
  have y0:=cell_at X15.out 0
  have y1:=cell_at X15.out 1
  have y2:=cell_at X15.out 2
  have y3:=cell_at X15.out 3
  have y4:=cell_at X15.out 4
  have y5:=cell_at X15.out 5
  have y6:=cell_at X15.out 6
  have y7:=cell_at X15.out 7
  have y8:=cell_at X15.out 8
  have y9:=cell_at X15.out 9
  go_wp2_with fail
  show bodyPost _ _ _ Exit.ret _ _
  have KZ:=put10 X15.out (.int .i64 0) (.int .i64 0) (.int .i64 0) (.int .i64 0) (.int .i64 0) (.slice none 0 0) (.slice none 0 0) (.slice none 0 0) (.slice none 0 0) (.slice none 0 0)
  have OZ:=BB5.out.trans ((off10 w5 (w.heap.size+2) (.int .i64 0) (.int .i64 0) (.int .i64 0) (.int .i64 0) (.int .i64 0) (.slice none 0 0) (.slice none 0 0) (.slice none 0 0) (.slice none 0 0) (.slice none 0 0)).toBelow BB5.out.size (fun q hq h=>by have h:q = w.heap.size+2:=h;omega))
  unfold st10 at KZ OZ
  clear y0 y1 y2 y3 y4 y5 y6 y7 y8 y9 fr zy
  obtain ⟨w9,hw9⟩:∃ w9,w9 = (((((((((w5.setCell ⟨w.heap.size+2,0,none⟩ (.int .i64 0)).setCell ⟨w.heap.size+2,1,none⟩ (.int .i64 0)).setCell ⟨w.heap.size+2,2,none⟩ (.int .i64 0)).setCell ⟨w.heap.size+2,3,none⟩ (.int .i64 0)).setCell ⟨w.heap.size+2,4,none⟩ (.int .i64 0)).setCell ⟨w.heap.size+2,5,none⟩ (.slice none 0 0)).setCell ⟨w.heap.size+2,6,none⟩ (.slice none 0 0)).setCell ⟨w.heap.size+2,7,none⟩ (.slice none 0 0)).setCell ⟨w.heap.size+2,8,none⟩ (.slice none 0 0)).setCell ⟨w.heap.size+2,9,none⟩ (.slice none 0 0):=⟨_,rfl⟩
  rw[←hw9] at KZ OZ ⊢
  clear hw9
  have k0:=cell_at KZ 0
  have k1:=cell_at KZ 1
  have k2:=cell_at KZ 2
  have k3:=cell_at KZ 3
  have k4:=cell_at KZ 4
  have k5:=cell_at KZ 5
  have k6:=cell_at KZ 6
  have k7:=cell_at KZ 7
  have k8:=cell_at KZ 8
  have k9:=cell_at KZ 9
  have zk:=szs (block_lt KZ)
  exact bodyPost_ret (v:=.tuple #[.agg zero10,.int .i64 r]) (by simp [results,Tryz.results11,go_sem,k0,k1,k2,k3,k4,k5,k6,k7,k8,k9,zero10]) rfl ⟨⟨_,_,rfl,⟨fun _=>rfl,fun e=>absurd e HR0.out,fun e1 e2 e3 e4 e5 e6=>absurd (HA2.out e4 (by rw[HPP.out.1,e3];rfl) e5 e6 (by have:=SC.out 0 (by omega);omega) (by have:=SC.out 0 (by omega);omega)) HR0.out⟩⟩,OZ⟩
 subst h0
 obtain ⟨hnok,_,Y,hrow,hY⟩:=ha1 rfl
 obtain ⟨yo,yc,rfl,hys⟩:=Row.toSl hrow (fun _=>rfl)
 have ly1:=hys.hm
 have ly2:=hys.hc
 have HNK:=Lib.hid (And.intro hnok hY)
 have RY5:=Lib.hid hrow
 clear hnok hY hrow hys ha1
 -- the new cells in the table
 have O6:Off (fun q=>q = qt) w5 (w5.setCell ⟨qt,2,none⟩ (.slice yo p yc)):=off_set
 have hqt5:qt < w5.heap.size:=by have:=B5S.out;omega
 have XT6:Hid ((w5.setCell ⟨qt,2,none⟩ (.slice yo p yc)).heap[qt]? = some (.cells #[.int .i64 size,.int .i64 size,.slice yo p yc] 37 (0,0))):=Lib.hid (by rw[setCell_at XT5.out,setAt_same (block_lt XT5.out)];rfl)
 have X16:=Lib.hid ((O6.block _ (block_lt X15.out) (fun e=>by have e:w.heap.size+2 = qt:=e;omega)).trans X15.out)
 have X06:=Lib.hid ((O6.block _ (block_lt X05.out) (fun e=>by have e:w.heap.size = qt:=e;omega)).trans X05.out)
 have XN6:=Lib.hid ((O6.block _ (block_lt XN5.out) (fun e=>by have e:w.heap.size+1 = qt:=e;omega)).trans XN5.out)
 have RY6:=Lib.hid (Row.off RY5.out O6 (fun q hq e=>by have e:q = qt:=e;have:=(World.ownsRow.lt RY5.out q hq).1;omega))
 have BB6:=Lib.hid (BB5.out.trans (O6.toBelow BB5.out.size (fun q hq e=>by have e:q = qt:=e;omega)))
 have t0:=cell_at XT5.out 0
 have t1:=cell_at XT5.out 1
 have t2:=cell_at XT5.out 2
 have ft:=fun j=>free_at XT5.out j
 have zt:=szs (block_lt XT5.out)
 obtain ⟨w6,hw6⟩:∃ w6,w6 = w5.setCell ⟨qt,2,none⟩ (.slice yo p yc):=⟨_,rfl⟩
 rw[←hw6] at XT6 X16 X06 XN6 RY6 BB6
 have HW6:=Lib.hid hw6
 clear hw6 O6
 have CC:=Lib.hid (fun w' (bb:Below w6.heap.size w6 w')=>clone27 wo n wc (nuR W) w' ((HW'.out.below BB6.out).below bb) (fun i u hu=>by obtain rfl:=List.mem_singleton.1 hu;rfl) (by have:=HNK.out.1.2.1;omega))
 go_wp2_with (rw[←HW6.out])
 clear t0 t1 t2 ft zt HW6 X15 X05 XN5 XT5 BB5 RY5
 have x0:=cell_at X06.out 0
 have x1:=cell_at X06.out 1
 have n0:=cell_at XN6.out 0
 have t0:=cell_at XT6.out 0
 have t1:=cell_at XT6.out 1
 have t2:=cell_at XT6.out 2
 have hx16:w.heap.size+2 < w6.heap.size:=block_lt X16.out
 have zx:=szs (block_lt X06.out)
 have zn':=szs (block_lt XN6.out)
 have zt:=szs (block_lt XT6.out)
 (obtain ⟨ι,hne,Fw,fb,hF⟩:=grow_family w6);have hF:∀ w',(vPlan w6 (fun s w'=>∀ v,s = [v]→Row w' w6.heap.size 3 1 v n (nuR W)) (fun s=>∃ a c,s = [.slice a n c]) [5] [] (fun _=>[])).D [] w'→∃ i,w' = Fw i:=hF
 have fx0:=fun i=>cell_kept (fb i) x0
 have fx1:=fun i=>cell_kept (fb i) x1
 have fn0:=fun i=>cell_kept (fb i) n0
 have ft0:=fun i=>cell_kept (fb i) t0
 have ft1:=fun i=>cell_kept (fb i) t1
 have ft2:=fun i=>cell_kept (fb i) t2
 clear x0 x1 n0 t0 t1 t2 zx zn' zt
 (refine region_chainO (vPlan w6 (fun s w'=>∀ v,s = [v]→Row w' w6.heap.size 3 1 v n (nuR W)) (fun s=>∃ a c,s = [.slice a n c]) [5] [] (fun _=>[])) [] [] [0,1,2,3,4,5,6,7] [8,9] mixed (by kernel_rfl) (by kernel_rfl) (fun _ _ h=>nomatch h) (vPlan_ok (fun s w1 w2 h hb v hv=>Row.off (X:=fun _=>False) (h v hv) (Off.of_below hb) (fun _ _ h=>h)) (by simp)) (vPlan_start (fun v h=>nomatch h)) ?_;refine wpPure_nil ?_;simp only[List.map_cons,List.map_nil,Array.getD_eq_getD_getElem?,List.getElem?_toArray,List.getElem?_cons_zero,List.getElem?_cons_succ,Option.getD_some])
 (repeat (first | (refine wpChainO_skip rfl ?_;simp only[Act.put,List.setIfInBounds_toArray,List.set_cons_succ,List.set_cons_zero]) | (refine wpChainO_quiet hF rfl rfl rfl ?_;intro K hK;go_big_quiet_op;go_big_quiet_on) | (refine wpChainO_pure _ rfl rfl (fun w' _=>by go_simp;try rfl) ?_;simp only[Act.put,List.setIfInBounds_toArray,List.set_cons_succ,List.set_cons_zero])))
 refine wpChainO_vcall 27 #[.slice wo n wc] rfl rfl (fun w'=>by go_simp) (fun w' hb _ _=>?_) ?_
 ·refine (CC.out w' hb).mono ?_
  rintro e w7 ⟨v7,rfl,r7,b7⟩
  obtain ⟨a7,c7,rfl,_⟩:=Row.toSl r7 (fun _=>rfl)
  exact ⟨_,rfl,⟨a7,c7,rfl⟩,fun v hv=>by cases hv;exact Row.base_mono r7 hb.size,b7⟩
 rintro u1 ⟨ca,cc,hu⟩
 cases hu
 simp only[Act.put,List.setIfInBounds_toArray,List.set_cons_succ,List.set_cons_zero]
 (repeat (first | (refine wpChainO_skip rfl ?_;simp only[Act.put,List.setIfInBounds_toArray,List.set_cons_succ,List.set_cons_zero]) | (refine wpChainO_quiet hF rfl rfl rfl ?_;intro K hK;go_big_quiet_op;go_big_quiet_on) | (refine wpChainO_pure _ rfl rfl (fun w' _=>by go_simp;try rfl) ?_;simp only[Act.put,List.setIfInBounds_toArray,List.set_cons_succ,List.set_cons_zero])))
 refine wpChainO_nil (fun w7 hb7 hl7=>?_)
 have b7:Below w6.heap.size w6 w7:=hb7.1
 have R7:=Lib.hid (hb7.2 _ rfl)
 have X17:=Lib.hid ((b7.block _ (block_lt X16.out)).trans X16.out)
 have RY7:=Lib.hid (Row.off (X:=fun _=>False) RY6.out (Off.of_below b7) (fun _ _ h=>h))
 have BB7:=Lib.hid (BB6.out.trans (b7.mono BB6.out.size))
 clear hb7 hl7 hF fb hne b7 fx0 fx1 fn0 ft0 ft1 ft2 CC X06 XN6 XT6 X16 RY6 BB6
 have fr:=fun j=>free_at X17.out j
 have zy:=szs (block_lt X17.out)
 have y0:=cell_at X17.out 0
 have y1:=cell_at X17.out 1
 have y2:=cell_at X17.out 2
 have y3:=cell_at X17.out 3
 have y4:=cell_at X17.out 4
 have y5:=cell_at X17.out 5
 have y6:=cell_at X17.out 6
 have y7:=cell_at X17.out 7
 have y8:=cell_at X17.out 8
 have y9:=cell_at X17.out 9
 go_wp2_with fail
 try (refine onlyN_intro ?_;go_wp2_with fail)
 show bodyPost _ _ _ Exit.ret _ _
 have KZ:=put10 X17.out (.int .i64 f) (.int .i64 t) (.int .i64 each) (.int .i64 size) (.int .i64 size) (.slice yo p yc) (.slice none 0 0) (.slice none 0 0) (.slice none 0 0) (.slice ca n cc)
 have O9:=off10 w7 (w.heap.size+2) (.int .i64 f) (.int .i64 t) (.int .i64 each) (.int .i64 size) (.int .i64 size) (.slice yo p yc) (.slice none 0 0) (.slice none 0 0) (.slice none 0 0) (.slice ca n cc)
 have OZ:=BB7.out.trans (O9.toBelow BB7.out.size (fun q hq h=>by have h:q = w.heap.size+2:=h;omega))
 have hs4:w.heap.size+2 < w4.heap.size:=by omega
 have RZ1:=Lib.hid (Row.base_mono (Row.off RY7.out O9 (fun q hq e=>by have e:q = w.heap.size+2:=e;have:=(World.ownsRow.lt RY7.out q hq).1;omega)) (show w.heap.size≤w4.heap.size by omega))
 have hw7:Hid (¬ (Value.slice ca n cc).ownBlock = some (w.heap.size+2)):=Lib.hid (fun e=>by have:=(World.ownsRow.lt R7.out _ e).1;omega)
 have RZ2:=Lib.hid (Row.base_mono (Row.off R7.out O9 (fun q hq e=>by have e:q = w.heap.size+2:=e;subst e;exact hw7.out hq)) (show w.heap.size≤w6.heap.size by omega))
 unfold st10 at KZ OZ RZ1 RZ2
 clear y0 y1 y2 y3 y4 y5 y6 y7 y8 y9 fr zy O9
 obtain ⟨w9,hw9⟩:∃ w9,w9 = (((((((((w7.setCell ⟨w.heap.size+2,0,none⟩ (.int .i64 f)).setCell ⟨w.heap.size+2,1,none⟩ (.int .i64 t)).setCell ⟨w.heap.size+2,2,none⟩ (.int .i64 each)).setCell ⟨w.heap.size+2,3,none⟩ (.int .i64 size)).setCell ⟨w.heap.size+2,4,none⟩ (.int .i64 size)).setCell ⟨w.heap.size+2,5,none⟩ (.slice yo p yc)).setCell ⟨w.heap.size+2,6,none⟩ (.slice none 0 0)).setCell ⟨w.heap.size+2,7,none⟩ (.slice none 0 0)).setCell ⟨w.heap.size+2,8,none⟩ (.slice none 0 0)).setCell ⟨w.heap.size+2,9,none⟩ (.slice ca n cc):=⟨_,rfl⟩
 rw[←hw9] at KZ OZ RZ1 RZ2 ⊢
 clear hw9
 have k0:=cell_at KZ 0
 have k1:=cell_at KZ 1
 have k2:=cell_at KZ 2
 have k3:=cell_at KZ 3
 have k4:=cell_at KZ 4
 have k5:=cell_at KZ 5
 have k6:=cell_at KZ 6
 have k7:=cell_at KZ 7
 have k8:=cell_at KZ 8
 have k9:=cell_at KZ 9
 have zk:=szs (block_lt KZ)
 refine bodyPost_ret (v:=.tuple #[.agg #[.int .i64 f,.int .i64 t,.int .i64 each,.int .i64 size,.int .i64 size,.slice yo p yc,.slice none 0 0,.slice none 0 0,.slice none 0 0,.slice ca n cc],.int .i64 0]) (by simp [results,Tryz.results11,go_sem,k0,k1,k2,k3,k4,k5,k6,k7,k8,k9]) rfl ⟨⟨_,_,rfl,fun e=>absurd rfl e,fun _=>⟨HTO.out.1,?_⟩,fun _ _ _ _ _ _=>rfl⟩,OZ⟩
 obtain ⟨hpe,hxe⟩:=HPP.out
 subst hxe
 subst hpe
 exact ⟨.slice yo _ yc,.slice ca n cc,Y,rfl,RZ1.out,RZ2.out,HNK.out.1,HNK.out.2⟩
end Go.Proofs.YtdpoppilnokniaaGreatDoor
