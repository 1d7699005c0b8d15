/- Theorems of this seat. -/
import Derived.Test.YtdpoppilnokniaaGreatDoorWTBX
import Derived.Test.YtdpoppilnokniaaGreatDoorWKB
namespace Go.Proofs.YtdpoppilnokniaaGreatDoor
open Go.RowKit Go.ChangeShapes Go.WideShapes Go.Deep
set_option linter.unusedVariables false
set_option linter.unusedSimpArgs false
set_option linter.unnecessarySimpa false
def celX (Z:Nat→Int) (zn:Nat) (size f t each:Int) (n:Nat) (F:Nat→Rid):Nat→Int:=fun q=>(cellN Z zn size each f t F n n q:Int)
theorem celX_sum {Z:Nat→Int}{zn:Nat}{size f t each:Int}{n:Nat}{F:Nat→Rid}:∀ p,sumI (celX Z zn size f t each n F) p = (sumTo (fun q=>cellN Z zn size each f t F n n q) p:Int)
 | 0=>rfl
 | p+1=>by
  show sumI _ p+_ = ((sumTo _ p+_:Nat):Int)
  rw[celX_sum p]
  rfl
theorem clo_le (F:Nat→Rid):∀ n,clo F n≤n
 | 0=>Nat.le_refl _
 | n+1=>by
  have:=clo_le F n
  unfold clo
  split <;> omega
theorem celX_ok {Z:Nat→Int}{zn:Nat}{size f t each:Int}{n:Nat}{F:Nat→Rid}{L:Nat→Nat→Leg}{Q:Nat→Nat→Pau}(ok:TabOk Z zn size f t each n F L Q) {s:Nat}(hs:size = (s:Int)):SCk (s:Int) (s * s) (celX Z zn size f t each n F):=by
 have h1:=ok.sz
 have hb:∀ q,0≤celX Z zn size f t each n F q∧celX Z zn size f t each n F q≤256:=fun q=>by
  have:=cellN_le Z zn size each f t F n n q
  have h2:=ok.rides.few
  unfold celX
  omega
 refine ⟨⟨by omega,by omega,by rw[Int.natCast_mul],fun i _=>by have:=hb i;omega⟩,fun i _=>(hb i).1,?_⟩
 rw[celX_sum]
 have h2:=cells_sum ok (s * s)
 have h3:=clo_le F n
 have h4:=ok.rides.few
 omega
theorem st10_at {w:World}{r:Nat}{a0 a1 a2 a3 a4 a5 a6 a7 a8 a9:Value}{T:TypeId}(h:w.heap[r]? = some (.cells #[a0,a1,a2,a3,a4,a5,a6,a7,a8,a9] T (0,0))) (v0 v1 v2 v3 v4 v5 v6 v7 v8 v9:Value):st10 w r v0 v1 v2 v3 v4 v5 v6 v7 v8 v9 = setAt w r (.cells #[v0,v1,v2,v3,v4,v5,v6,v7,v8,v9] T):=by
 have hl:=block_lt h
 unfold st10
 rw[setCell_at h,setAt_setCell hl,setAt_setCell hl,setAt_setCell hl,setAt_setCell hl,setAt_setCell hl,setAt_setCell hl,setAt_setCell hl,setAt_setCell hl,setAt_setCell hl]
 simp
theorem ExM.congrT {w wr:World}{f t each:Int}{s p pc hc:Nat}{H:Nat→Bool}{qr qt qc qh qa qb qe base:Nat}{T T' RS RS' CS CS':Nat→Int}(h:ExM w f t each s p pc hc H qr qt qc qh qa qb qe base T RS CS wr) (h1:∀ i,i < p→T i = T' i) (h2:RS = RS') (h3:CS = CS'):ExM w f t each s p pc hc H qr qt qc qh qa qb qe base T' RS' CS' wr:=by
 subst h2 h3
 exact { h with cel:=Row.congr h.cel (fun i hi=>by show [Value.int .i64 (T i)] = [Value.int .i64 (T' i)];rw[h1 i hi]) }
def ExL (w:World) (f t each:Int) (s p pc hc:Nat) (H:Nat→Bool) (X:Nat→Int) (qr qt qc qh qa qb:Nat) (s61:Value) (wr:World):Prop :=
 ∃ j:Nat,s61 = .int .i64 j∧j≤p∧ExM w f t each s p pc hc H qr qt qc qh qa qb (w.heap.size+1) (w.heap.size+2) (pubU X H j) (rsE X s j) (csE X s j) wr
def zero10:Array Value:=#[.int .i64 0,.int .i64 0,.int .i64 0,.int .i64 0,.int .i64 0,.slice none 0 0,.slice none 0 0,.slice none 0 0,.slice none 0 0,.slice none 0 0]
def ExR (f t each:Int) (s:Nat) (X:Nat→Int) (least wd:Int) (base:Nat) (v:Value) (w':World):Prop :=
 ∃ (pc hc qc qh qa qb:Nat) (H:Nat→Bool),v = .agg #[.int .i64 f,.int .i64 t,.int .i64 each,.int .i64 s,.int .i64 s,.slice (some ⟨qc,0,none⟩) (s * s) pc,.slice (some ⟨qh,0,none⟩) (s * s) hc,.slice (some ⟨qa,0,none⟩) s s,.slice (some ⟨qb,0,none⟩) s s,.slice none 0 0] ∧
  Row w' base 3 1 (.slice (some ⟨qc,0,none⟩) (s * s) pc) (s * s) (nuR (pubU X H (s * s)))∧Row w' base 4 1 (.slice (some ⟨qh,0,none⟩) (s * s) hc) (s * s) (boR H)∧Row w' base 3 1 (.slice (some ⟨qa,0,none⟩) s s) s (nuR (rsE X s (s * s)))∧Row w' base 3 1 (.slice (some ⟨qb,0,none⟩) s s) s (nuR (csE X s (s * s))) ∧
  (∀ i,i < s * s→H i = true→Wide X H wd i)∧(least = 1→∀ i,i < s * s→H i = false)
def ExQ (Z:Nat→Int) (zn:Nat) (s:Nat) (f t each:Int) (n:Nat) (F:Nat→Rid) (L:Nat→Nat→Leg) (Q:Nat→Nat→Pau) (least wd:Int) (base:Nat) (c:Array Value) (r:Int) (w':World):Prop :=
 (c.size = 10)∧(r ≠ 0→c = zero10)∧(r = 0→TabOk Z zn s f t each n F L Q∧ExR f t each s (celX Z zn s f t each n F) least wd base (.agg c) w')∧(TabOk Z zn s f t each n F L Q→each ≠ 0→least = 1→0≤wd→wd≤65536→r = 0)
def ExP (Z:Nat→Int) (zn:Nat) (s:Nat) (f t each:Int) (n:Nat) (F:Nat→Rid) (L:Nat→Nat→Leg) (Q:Nat→Nat→Pau) (least wd:Int) (base:Nat) (e:Ending) (w':World):Prop :=
 ∃ (c:Array Value) (r:Int),e = .returned (.tuple #[.agg c,.int .i64 r])∧ExQ Z zn s f t each n F L Q least wd base c r w'
set_option maxRecDepth 8000 in
set_option maxHeartbeats 32000000 in
theorem Exact8 (zo:Option Addr) (zn zc:Nat) (Z:Nat→Int) (s:Nat) (ro:Option Addr) (n c:Nat) (F:Nat→Rid) (L:Nat→Nat→Leg) (Q:Nat→Nat→Pau) (f t each least wd:Int) (w:World) (hz:Sl w 1 zo zn zc (nuR Z)) (h:RdsIn w ro n c F L Q) (hn:n≤1000) (hp:∀ i,i < n→inI (F i).fp∧inI (F i).pl) (hao:∀ a,ro = some a→a.block < w.heap.size) (hq:s = 2∨s = 1∧least = 1) :
  Calls Tryz.prog 8 #[.slice zo zn zc,.int .i64 s,.slice ro n c,.agg #[.int .i64 f,.int .i64 t],.int .i64 each,.int .i64 least,.int .i64 wd] w fun e w'=>ExP Z zn s f t each n F L Q least wd w.heap.size e w'∧Below w.heap.size w w':=by
 have B0:Hid (Below w.heap.size w (w.alloc (.cells #[.int .i64 f,.int .i64 t] 27))):=Lib.hid (by (repeat' (first | with_reducible (first | exact Below.refl _ _ | assumption | refine Below.drew ?_ | refine below_drewN ?_ _ | refine Below.alloc ?_ ?_ _ | refine Below.setCell ?_ ?_ _) | go_size)));have X0:=Lib.hid (al_at w (.cells #[.int .i64 f,.int .i64 t] 27) rfl);obtain ⟨w1,hw0⟩:∃ w1,w1 = w.alloc (.cells #[.int .i64 f,.int .i64 t] 27):=⟨_,rfl⟩;rw[←hw0] at B0 X0;have HW0:=Lib.hid hw0;clear hw0;have z0:=szs (block_lt X0.out);skip
 have B1:Hid (Below w1.heap.size w1 (w1.alloc (.cells #[.int .i64 0,.int .i64 0,.int .i64 0,.int .i64 0,.int .i64 0,.slice none 0 0,.slice none 0 0,.slice none 0 0,.slice none 0 0,.slice none 0 0] 42))):=Lib.hid (by (repeat' (first | with_reducible (first | exact Below.refl _ _ | assumption | refine Below.drew ?_ | refine below_drewN ?_ _ | refine Below.alloc ?_ ?_ _ | refine Below.setCell ?_ ?_ _) | go_size)));have X1:=Lib.hid (al_at w1 (.cells #[.int .i64 0,.int .i64 0,.int .i64 0,.int .i64 0,.int .i64 0,.slice none 0 0,.slice none 0 0,.slice none 0 0,.slice none 0 0,.slice none 0 0] 42) rfl);obtain ⟨w2,hw1⟩:∃ w2,w2 = w1.alloc (.cells #[.int .i64 0,.int .i64 0,.int .i64 0,.int .i64 0,.int .i64 0,.slice none 0 0,.slice none 0 0,.slice none 0 0,.slice none 0 0,.slice none 0 0] 42):=⟨_,rfl⟩;rw[←hw1] at B1 X1;have HW1:=Lib.hid hw1;clear hw1;have z1:=szs (block_lt X1.out);skip
 have s1:w1.heap.size = w.heap.size+1:=by rw[HW0.out];simp
 rw[s1] at X1
 have HS:=Lib.hid s1
 have BB:=Lib.hid (B0.out.trans (B1.out.mono B0.out.size))
 have X0':=Lib.hid ((B1.out.block _ (by omega)).trans X0.out)
 have CT:=Lib.hid (table22 zo zn zc Z s ro n c F L Q f t each w2 (hz.below BB.out) (h.below BB.out) hn hp (fun a ha=>Nat.lt_of_lt_of_le (hao a ha) BB.out.size))
 clear hz h hp hao s1
 have x0:=cell_at X0'.out 0
 have x1:=cell_at X0'.out 1
 have zx:=szs (block_lt X0'.out)
 go_enter Tryz.func8,Tryz.ntmps8
 go_simp
 ((repeat ((fail_if_success (rw[←HW0.out]));go_step));rw[←HW0.out])
 go_simp
 ((repeat ((fail_if_success (rw[←HW1.out]));go_step));rw[←HW1.out])
 rw[HS.out]
 clear HW0 HW1 HS z0 z1 B0 B1 X0
 go_wp2_with fail
 refine CT.out.mono ?_
 rintro e w3 ⟨⟨a,b,v,r,rfl,hr1,hr2,hr3⟩,b3⟩
 have X13:=Lib.hid ((b3.block _ (block_lt X1.out)).trans X1.out)
 have X03:=Lib.hid ((b3.block _ (block_lt X0'.out)).trans X0'.out)
 have BB3:=Lib.hid (BB.out.trans (b3.mono BB.out.size))
 have HR:=Lib.hid hr1
 have X1S:=Lib.hid X1.out
 clear x0 x1 zx CT X1 X0' b3
 by_cases h0:r = 0
 case neg =>
  obtain ⟨rfl,rfl,rfl⟩:=hr3 h0
  have t0:(r != 0) = true:=by simp [h0]
  have HR0:=Lib.hid h0
  clear hr1 hr2 hr3 h0
  have B4:Hid (Below w3.heap.size w3 (w3.alloc (.cells #[.int .i64 0,.int .i64 0,.slice none 0 0] 37))):=Lib.hid (by (repeat' (first | with_reducible (first | exact Below.refl _ _ | assumption | refine Below.drew ?_ | refine below_drewN ?_ _ | refine Below.alloc ?_ ?_ _ | refine Below.setCell ?_ ?_ _) | go_size)));have X4:=Lib.hid (al_at w3 (.cells #[.int .i64 0,.int .i64 0,.slice none 0 0] 37) rfl);obtain ⟨w4,hw4⟩:∃ w4,w4 = w3.alloc (.cells #[.int .i64 0,.int .i64 0,.slice none 0 0] 37):=⟨_,rfl⟩;rw[←hw4] at B4 X4;have HW4:=Lib.hid hw4;clear hw4;have z4:=szs (block_lt X4.out);have x4_0:=cell_at X4.out 0;have x4_1:=cell_at X4.out 1;have x4_2:=cell_at X4.out 2
  have X14:Hid ((w3.alloc (.cells #[.int .i64 0,.int .i64 0,.slice none 0 0] 37)).heap[w.heap.size+1]? = some (.cells #[.int .i64 0,.int .i64 0,.int .i64 0,.int .i64 0,.int .i64 0,.slice none 0 0,.slice none 0 0,.slice none 0 0,.slice none 0 0,.slice none 0 0] 42 (0,0))):=Lib.hid (by rw[←HW4.out];exact (B4.out.block _ (block_lt X13.out)).trans X13.out)
  have BB4:Hid (Below w.heap.size w (w3.alloc (.cells #[.int .i64 0,.int .i64 0,.slice none 0 0] 37))):=Lib.hid (by rw[←HW4.out];exact BB3.out.trans (B4.out.mono BB3.out.size))
  clear HW4 x4_0 x4_1 x4_2 z4 X4 B4
  have fr:=fun j=>free_at X14.out j
  have zy:=szs (block_lt X14.out)
  have y0:=cell_at X14.out 0
  have y1:=cell_at X14.out 1
  have y2:=cell_at X14.out 2
  have y3:=cell_at X14.out 3
  have y4:=cell_at X14.out 4
  have y5:=cell_at X14.out 5
  have y6:=cell_at X14.out 6
  have y7:=cell_at X14.out 7
  have y8:=cell_at X14.out 8
  have y9:=cell_at X14.out 9
  go_wp2_with fail
  show bodyPost _ _ _ Exit.ret _ _
  have KZ:=put10 X14.out (.int .i64 0) (.int .i64 0) (.int .i64 0) (.int .i64 0) (.int .i64 0) (.slice none 0 0) (.slice none 0 0) (.slice none 0 0) (.slice none 0 0) (.slice none 0 0)
  have OZ:=BB4.out.trans ((off10 (World.alloc w3 (.cells #[.int .i64 0,.int .i64 0,.slice none 0 0] 37)) (w.heap.size+1) (.int .i64 0) (.int .i64 0) (.int .i64 0) (.int .i64 0) (.int .i64 0) (.slice none 0 0) (.slice none 0 0) (.slice none 0 0) (.slice none 0 0) (.slice none 0 0)).toBelow BB4.out.size (fun q hq h=>by have h:q = w.heap.size+1:=h;omega))
  unfold st10 at KZ OZ
  clear y0 y1 y2 y3 y4 y5 y6 y7 y8 y9 fr zy
  obtain ⟨w9,hw9⟩:∃ w9,w9 = ((((((((((World.alloc w3 (.cells #[.int .i64 0,.int .i64 0,.slice none 0 0] 37)).setCell ⟨w.heap.size+1,0,none⟩ (.int .i64 0)).setCell ⟨w.heap.size+1,1,none⟩ (.int .i64 0)).setCell ⟨w.heap.size+1,2,none⟩ (.int .i64 0)).setCell ⟨w.heap.size+1,3,none⟩ (.int .i64 0)).setCell ⟨w.heap.size+1,4,none⟩ (.int .i64 0)).setCell ⟨w.heap.size+1,5,none⟩ (.slice none 0 0)).setCell ⟨w.heap.size+1,6,none⟩ (.slice none 0 0)).setCell ⟨w.heap.size+1,7,none⟩ (.slice none 0 0)).setCell ⟨w.heap.size+1,8,none⟩ (.slice none 0 0)).setCell ⟨w.heap.size+1,9,none⟩ (.slice none 0 0):=⟨_,rfl⟩
  rw[←hw9] at KZ OZ ⊢
  clear hw9
  have k0:=cell_at KZ 0
  have k1:=cell_at KZ 1
  have k2:=cell_at KZ 2
  have k3:=cell_at KZ 3
  have k4:=cell_at KZ 4
  have k5:=cell_at KZ 5
  have k6:=cell_at KZ 6
  have k7:=cell_at KZ 7
  have k8:=cell_at KZ 8
  have k9:=cell_at KZ 9
  have zk:=szs (block_lt KZ)
  exact bodyPost_ret (v:=.tuple #[.agg zero10,.int .i64 r]) (by simp [results,Tryz.results8,go_sem,k0,k1,k2,k3,k4,k5,k6,k7,k8,k9,zero10]) rfl ⟨⟨_,_,rfl,⟨rfl,fun _=>rfl,fun e=>absurd e HR0.out,fun e1 e2 _ _ _=>HR.out.2 ⟨e1,e2⟩⟩⟩,OZ⟩
 subst h0
 obtain ⟨ha,hb,hrow⟩:=hr2 rfl
 rw[ha,hb]
 clear ha hb
 have HTO:=Lib.hid (hr1.1 rfl)
 obtain ⟨p,hpp⟩:∃ p,p = s * s:=⟨_,rfl⟩
 rw[Int.toNat_natCast,←hpp] at hrow
 have hs8:=HTO.out.1.sz
 have hp0:1≤p∧p≤4:=by rcases hq with e | ⟨e,_⟩ <;> subst e <;> omega
 obtain ⟨X,hX⟩:∃ X,X = celX Z zn s f t each n F:=⟨_,rfl⟩
 have hrow2:Row w3 w2.heap.size 3 1 v p (nuR X):=by rw[hX];exact hrow
 have SC:=Lib.hid (show SCk (s:Int) p X by rw[hX,hpp];exact celX_ok HTO.out.1 rfl)
 obtain ⟨qc,pc,rfl⟩:∃ qc pc,v = .slice (some ⟨qc,0,none⟩) p pc:=by
  rcases Row.shape hrow2 with ⟨_,e⟩ | ⟨g,cap,e,_⟩
  ·omega
  ·exact ⟨g,cap,e⟩
 have hqcb:=World.ownsRow.lt hrow2 qc rfl
 have hlm:=(show p≤pc∧pc≤9223372036854775807 by
  obtain ⟨ao',c',e,hh⟩:=Row.toSl hrow2 (fun _=>rfl)
  cases e
  exact ⟨hh.hm,hh.hc⟩)
 have HPP:=Lib.hid (And.intro hpp hX)
 have RC3:=Lib.hid (Row.base_mono hrow2 (show w.heap.size+2≤w2.heap.size from block_lt X1S.out))
 have HQ:=Lib.hid hq
 obtain ⟨hl1,hl2⟩:=hlm
 clear hr1 hr2 hr3 hrow hrow2 hpp hX hq
 have B4:Hid (Below w3.heap.size w3 (w3.alloc (.cells #[.int .i64 s,.int .i64 s,.slice (some ⟨qc,0,none⟩) p pc] 37))):=Lib.hid (by (repeat' (first | with_reducible (first | exact Below.refl _ _ | assumption | refine Below.drew ?_ | refine below_drewN ?_ _ | refine Below.alloc ?_ ?_ _ | refine Below.setCell ?_ ?_ _) | go_size)));have X4:=Lib.hid (al_at w3 (.cells #[.int .i64 s,.int .i64 s,.slice (some ⟨qc,0,none⟩) p pc] 37) rfl);obtain ⟨w4,hw4⟩:∃ w4,w4 = w3.alloc (.cells #[.int .i64 s,.int .i64 s,.slice (some ⟨qc,0,none⟩) p pc] 37):=⟨_,rfl⟩;rw[←hw4] at B4 X4;have HW4:=Lib.hid hw4;clear hw4;have z4:=szs (block_lt X4.out);have x4_0:=cell_at X4.out 0;have x4_1:=cell_at X4.out 1;have x4_2:=cell_at X4.out 2
 obtain ⟨qt,hqt⟩:∃ qt,qt = w3.heap.size:=⟨_,rfl⟩
 rw[←hqt] at X4 x4_0 x4_1 x4_2 z4
 have hqct:qc < qt:=by rw[hqt];exact hqcb.2
 have hqt2:w.heap.size+1 < qt:=by rw[hqt];exact block_lt X13.out
 have HQT:=Lib.hid hqt
 have X14:=Lib.hid ((B4.out.block _ (block_lt X13.out)).trans X13.out)
 have X04:=Lib.hid ((B4.out.block _ (block_lt X03.out)).trans X03.out)
 have BB4:=Lib.hid (BB3.out.trans (B4.out.mono BB3.out.size))
 have RC4:=Lib.hid (Row.off (X:=fun _=>False) RC3.out (Off.of_below B4.out) (fun _ _ h=>h))
 have hsl:Sl w4 1 (some ⟨qc,0,none⟩) p pc (nuR X):=by
  obtain ⟨ao',c',e,h⟩:=Row.toSl RC4.out (fun _=>rfl)
  cases e
  exact h
 have CH:=Lib.hid (Hide23 s p (some ⟨qc,0,none⟩) pc X least wd w4 hsl (by
  rcases HQ.out with e | ⟨_,e⟩
  ·exact Or.inl ⟨e,by rw[HPP.out.1,e]⟩
  ·exact Or.inr e) hp0.2)
 go_simp
 ((repeat ((fail_if_success (rw[←HW4.out]));go_step));rw[←HW4.out])
 rw[←HQT.out]
 clear HW4 HQT hqt hsl X13 X03 BB3 RC3 B4
 go_wp2_with fail
 refine CH.out.mono ?_
 rintro e w5 ⟨⟨hv,r,rfl,hh1,hh2⟩,b5⟩
 have X15:=Lib.hid ((b5.block _ (block_lt X14.out)).trans X14.out)
 have X05:=Lib.hid ((b5.block _ (block_lt X04.out)).trans X04.out)
 have XT5:=Lib.hid ((b5.block _ (block_lt X4.out)).trans X4.out)
 have BB5:=Lib.hid (BB4.out.trans (b5.mono BB4.out.size))
 have RC5:=Lib.hid (Row.off (X:=fun _=>False) RC4.out (Off.of_below b5) (fun _ _ h=>h))
 have HH2:=Lib.hid hh2
 have hqt4:=block_lt X4.out
 have B5S:=Lib.hid b5.size
 clear x4_0 x4_1 x4_2 z4 b5 CH X14 X04 X4 BB4 RC4 hh2
 by_cases h0:r = 0
 case neg =>
  have t0:(r != 0) = true:=by simp [h0]
  have HR0:=Lib.hid h0
  clear h0 hh1
  have fr:=fun j=>free_at X15.out j
  have zy:=szs (block_lt X15.out)
  have y0:=cell_at X15.out 0
  have y1:=cell_at X15.out 1
  have y2:=cell_at X15.out 2
  have y3:=cell_at X15.out 3
  have y4:=cell_at X15.out 4
  have y5:=cell_at X15.out 5
  have y6:=cell_at X15.out 6
  have y7:=cell_at X15.out 7
  have y8:=cell_at X15.out 8
  have y9:=cell_at X15.out 9
  go_wp2_with fail
  show bodyPost _ _ _ Exit.ret _ _
  have KZ:=put10 X15.out (.int .i64 0) (.int .i64 0) (.int .i64 0) (.int .i64 0) (.int .i64 0) (.slice none 0 0) (.slice none 0 0) (.slice none 0 0) (.slice none 0 0) (.slice none 0 0)
  have OZ:=BB5.out.trans ((off10 w5 (w.heap.size+1) (.int .i64 0) (.int .i64 0) (.int .i64 0) (.int .i64 0) (.int .i64 0) (.slice none 0 0) (.slice none 0 0) (.slice none 0 0) (.slice none 0 0) (.slice none 0 0)).toBelow BB5.out.size (fun q hq h=>by have h:q = w.heap.size+1:=h;omega))
  unfold st10 at KZ OZ
  clear y0 y1 y2 y3 y4 y5 y6 y7 y8 y9 fr zy
  obtain ⟨w9,hw9⟩:∃ w9,w9 = (((((((((w5.setCell ⟨w.heap.size+1,0,none⟩ (.int .i64 0)).setCell ⟨w.heap.size+1,1,none⟩ (.int .i64 0)).setCell ⟨w.heap.size+1,2,none⟩ (.int .i64 0)).setCell ⟨w.heap.size+1,3,none⟩ (.int .i64 0)).setCell ⟨w.heap.size+1,4,none⟩ (.int .i64 0)).setCell ⟨w.heap.size+1,5,none⟩ (.slice none 0 0)).setCell ⟨w.heap.size+1,6,none⟩ (.slice none 0 0)).setCell ⟨w.heap.size+1,7,none⟩ (.slice none 0 0)).setCell ⟨w.heap.size+1,8,none⟩ (.slice none 0 0)).setCell ⟨w.heap.size+1,9,none⟩ (.slice none 0 0):=⟨_,rfl⟩
  rw[←hw9] at KZ OZ ⊢
  clear hw9
  have k0:=cell_at KZ 0
  have k1:=cell_at KZ 1
  have k2:=cell_at KZ 2
  have k3:=cell_at KZ 3
  have k4:=cell_at KZ 4
  have k5:=cell_at KZ 5
  have k6:=cell_at KZ 6
  have k7:=cell_at KZ 7
  have k8:=cell_at KZ 8
  have k9:=cell_at KZ 9
  have zk:=szs (block_lt KZ)
  exact bodyPost_ret (v:=.tuple #[.agg zero10,.int .i64 r]) (by simp [results,Tryz.results8,go_sem,k0,k1,k2,k3,k4,k5,k6,k7,k8,k9,zero10]) rfl ⟨⟨_,_,rfl,⟨rfl,fun _=>rfl,fun e=>absurd e HR0.out,fun e1 e2 e3 e4 e5=>absurd (HH2.out SC.out e3 e4 e5) HR0.out⟩⟩,OZ⟩
 subst h0
 obtain ⟨_,H,hrh,hwide,hone⟩:=hh1 rfl
 obtain ⟨qh,hc,rfl⟩:∃ qh hc,hv = .slice (some ⟨qh,0,none⟩) p hc:=by
  rcases Row.shape hrh with ⟨_,e⟩ | ⟨g,cap,e,_⟩
  ·omega
  ·exact ⟨g,cap,e⟩
 have hqh:=World.ownsRow.lt hrh qh rfl
 have hlh:=(show p≤hc∧hc≤9223372036854775807 by
  obtain ⟨ao',c',e,hh⟩:=Row.toSl hrh (fun _=>rfl)
  cases e
  exact ⟨hh.hm,hh.hc⟩)
 obtain ⟨hl3,hl4⟩:=hlh
 have HWD:=Lib.hid (And.intro hwide hone)
 have RH5:=Lib.hid (Row.base_mono hrh (show w.heap.size+2≤w4.heap.size by omega))
 clear hrh hwide hone
 have x0:=cell_at X05.out 0
 have x1:=cell_at X05.out 1
 have t0:=cell_at XT5.out 0
 have t1:=cell_at XT5.out 1
 have t2:=cell_at XT5.out 2
 have zx:=szs (block_lt X05.out)
 have zt:=szs (block_lt XT5.out)
 have hmk:=fun w'=>mkIn s (by omega) w'
 obtain ⟨MC,hmc⟩:∃ MC,MC = madeCells #[.int .i64 0] (s * 1):=⟨_,rfl⟩
 rw[←hmc] at hmk
 have HMC:=Lib.hid hmc
 clear hmc
 go_wp2_with fail
 (obtain ⟨ι,hne,Fw,fb,hF⟩:=grow_family w5);have hF:∀ w',(sPlan w5 (fun _=>False) [] [(6,fun b=>.slice (some ⟨b,0,none⟩) s s,.cells MC 3),(9,fun b=>.slice (some ⟨b,0,none⟩) s s,.cells MC 3),(11,fun b=>.pointer (some ⟨b,0,none⟩),.cells #[.int .i64 0,.int .i64 0,.int .i64 0,.int .i64 0,.int .i64 0,.slice none 0 0,.slice none 0 0,.slice none 0 0,.slice none 0 0,.slice none 0 0] 42)] [(12,11)]).D [] w'→∃ i,w' = Fw i:=hF
 have fx0:=fun i=>cell_kept (fb i) x0
 have fx1:=fun i=>cell_kept (fb i) x1
 have ft0:=fun i=>cell_kept (fb i) t0
 have ft1:=fun i=>cell_kept (fb i) t1
 have ft2:=fun i=>cell_kept (fb i) t2
 clear x0 x1 t0 t1 t2 zx zt
 (refine region_chainO (sPlan w5 (fun _=>False) [] [(6,fun b=>.slice (some ⟨b,0,none⟩) s s,.cells MC 3),(9,fun b=>.slice (some ⟨b,0,none⟩) s s,.cells MC 3),(11,fun b=>.pointer (some ⟨b,0,none⟩),.cells #[.int .i64 0,.int .i64 0,.int .i64 0,.int .i64 0,.int .i64 0,.slice none 0 0,.slice none 0 0,.slice none 0 0,.slice none 0 0,.slice none 0 0] 42)] [(12,11)]) [] [] [0,1,2,3,4,5,6,7,8,9,10,11,12] [] mixed (by kernel_rfl) (by kernel_rfl) (fun _ _ h=>nomatch h) (sPlan_ok (by simp) (by simp)) sPlan_start ?_;refine wpPure_nil ?_;simp only[List.map_cons,List.map_nil,Array.getD_eq_getD_getElem?,List.getElem?_toArray,List.getElem?_cons_zero,List.getElem?_cons_succ,Option.getD_some])
 (repeat (first | (refine wpChainO_skip rfl ?_;simp only[Act.put,List.setIfInBounds_toArray,List.set_cons_succ,List.set_cons_zero]) | (refine wpChainO_quiet hF rfl rfl rfl ?_;intro K hK;go_big_quiet_op;go_big_quiet_on) | (refine wpChainO_pure _ rfl rfl (fun w' _=>by go_simp;try rfl) ?_;simp only[Act.put,List.setIfInBounds_toArray,List.set_cons_succ,List.set_cons_zero])))
 (refine wpChainO_alloc _ _ rfl (List.mem_cons_self ..) rfl (fun w'=>by go_simp) (fun qa hqa=>?_);simp only[Act.put,List.setIfInBounds_toArray,List.set_cons_succ,List.set_cons_zero])
 (repeat (first | (refine wpChainO_skip rfl ?_;simp only[Act.put,List.setIfInBounds_toArray,List.set_cons_succ,List.set_cons_zero]) | (refine wpChainO_quiet hF rfl rfl rfl ?_;intro K hK;go_big_quiet_op;go_big_quiet_on) | (refine wpChainO_pure _ rfl rfl (fun w' _=>by go_simp;try rfl) ?_;simp only[Act.put,List.setIfInBounds_toArray,List.set_cons_succ,List.set_cons_zero])))
 (refine wpChainO_alloc _ _ rfl (List.mem_cons_of_mem _ (List.mem_cons_self ..)) rfl (fun w'=>by go_simp) (fun qb hqb=>?_);simp only[Act.put,List.setIfInBounds_toArray,List.set_cons_succ,List.set_cons_zero])
 (repeat (first | (refine wpChainO_skip rfl ?_;simp only[Act.put,List.setIfInBounds_toArray,List.set_cons_succ,List.set_cons_zero]) | (refine wpChainO_quiet hF rfl rfl rfl ?_;intro K hK;go_big_quiet_op;go_big_quiet_on) | (refine wpChainO_pure _ rfl rfl (fun w' _=>by go_simp;try rfl) ?_;simp only[Act.put,List.setIfInBounds_toArray,List.set_cons_succ,List.set_cons_zero])))
 (refine wpChainO_alloc _ _ rfl (List.mem_cons_of_mem _ (List.mem_cons_of_mem _ (List.mem_cons_self ..))) rfl (fun w'=>by go_simp) (fun qr hqr=>?_);simp only[Act.put,List.setIfInBounds_toArray,List.set_cons_succ,List.set_cons_zero])
 refine wpChainO_store 11 qr (.cells #[.int .i64 0,.int .i64 0,.int .i64 0,.int .i64 0,.int .i64 0,.slice none 0 0,.slice none 0 0,.slice none 0 0,.slice none 0 0,.slice none 0 0] 42) (.cells #[.int .i64 f,.int .i64 t,.int .i64 each,.int .i64 s,.int .i64 s,.slice (some ⟨qc,0,none⟩) p pc,.slice (some ⟨qh,0,none⟩) p hc,.slice (some ⟨qa,0,none⟩) s s,.slice (some ⟨qb,0,none⟩) s s,.slice none 0 0] 42) rfl (by simp [sPlan]) (by simp [setB]) (by simp [setB]) rfl (fun w' hw'=>?_) ?_
 ·have c0:=cell_at hw' 0;have c1:=cell_at hw' 1;have c2:=cell_at hw' 2;have c3:=cell_at hw' 3;have c4:=cell_at hw' 4;have c5:=cell_at hw' 5;have c6:=cell_at hw' 6;have c7:=cell_at hw' 7;have c8:=cell_at hw' 8;have c9:=cell_at hw' 9;have g0:=free_at hw';have hlt:=block_lt hw'
  have est:=st10_at hw' (.int .i64 f) (.int .i64 t) (.int .i64 each) (.int .i64 s) (.int .i64 s) (.slice (some ⟨qc,0,none⟩) p pc) (.slice (some ⟨qh,0,none⟩) p hc) (.slice (some ⟨qa,0,none⟩) s s) (.slice (some ⟨qb,0,none⟩) s s) (.slice none 0 0)
  unfold st10 at est
  go_simp
  try rfl
 simp only[Act.put,List.setIfInBounds_toArray,List.set_cons_succ,List.set_cons_zero]
 (repeat (first | (refine wpChainO_skip rfl ?_;simp only[Act.put,List.setIfInBounds_toArray,List.set_cons_succ,List.set_cons_zero]) | (refine wpChainO_quiet hF rfl rfl rfl ?_;intro K hK;go_big_quiet_op;go_big_quiet_on) | (refine wpChainO_pure _ rfl rfl (fun w' _=>by go_simp;try rfl) ?_;simp only[Act.put,List.setIfInBounds_toArray,List.set_cons_succ,List.set_cons_zero])))
 refine wpChainO_nil (fun w6 hb6 hl6=>?_)
 have b6:Below w5.heap.size w5 w6:=hb6
 have XA:=hl6.1.2 (6,qa,.cells MC 3) (by simp [setB])
 have XBb:=hl6.1.2 (9,qb,.cells MC 3) (by simp [setB])
 have XQ:=hl6.1.2 (11,qr,.cells #[.int .i64 f,.int .i64 t,.int .i64 each,.int .i64 s,.int .i64 s,.slice (some ⟨qc,0,none⟩) p pc,.slice (some ⟨qh,0,none⟩) p hc,.slice (some ⟨qa,0,none⟩) s s,.slice (some ⟨qb,0,none⟩) s s,.slice none 0 0] 42) (by simp [setB])
 have hnd:=hl6.1.1
 simp [setB] at hnd
 have g1:w5.heap.size≤qa:=XA.1
 have g2:w5.heap.size≤qb:=XBb.1
 have g3:w5.heap.size≤qr:=XQ.1
 have hqtw5:qt < w5.heap.size:=by have:=B5S.out;omega
 have hqcw5:qc < w5.heap.size:=by omega
 have hqtw4:qt < w4.heap.size:=hqt4
 have hqhc:qt < qh:=by omega
 have hx15:=block_lt X15.out
 have RA:=XA.2
 have RB:=XBb.2
 rw[HMC.out] at RA RB
 have M6:Hid (ExL w f t each s p pc hc H X qr qt qc qh qa qb (.int .i64 0) w6):=Lib.hid ⟨0,rfl,Nat.zero_le _,
  {rel:=XQ.2
   tab:=(b6.block _ hqtw5).trans XT5.out
   res:=(b6.block _ hx15).trans X15.out
   cel:=Row.congr (Row.off (X:=fun _=>False) RC5.out (Off.of_below b6) (fun _ _ h=>h)) (fun i hi=>by show [Value.int .i64 (X i)] = [Value.int .i64 (pubU X H 0 i)];unfold pubU;rw[if_neg (fun e=>absurd e.1 (Nat.not_lt_zero _))])
   hid:=Row.off (X:=fun _=>False) RH5.out (Off.of_below b6) (fun _ _ h=>h)
   rsm:=Row.congr (Row.of_made rfl (by decide) RA (by omega) (by unfold maxLen;omega)) (fun j _=>rfl)
   csm:=Row.congr (Row.of_made rfl (by decide) RB (by omega) (by unfold maxLen;omega)) (fun j _=>rfl)
   bel:=BB5.out.trans (b6.mono BB5.out.size)
   sep:=⟨⟨by omega,by omega,by omega,by omega,by omega,by omega⟩,⟨by omega,by omega,by omega⟩,⟨by omega,by omega,by omega⟩,by omega,by omega⟩ }⟩
 have XT6:=Lib.hid ((b6.block _ hqtw5).trans XT5.out)
 clear hb6 hl6 hF fb hne b6 fx0 fx1 ft0 ft1 ft2 XA XBb XQ RA RB hnd hqa hqb hqr RC5 RH5 XT5 X15 X05 BB5 hmk
 refine onlyN_intro ?_
 have t2:=cell_at XT6.out 2
 have zt:=szs (block_lt XT6.out)
 have HX16:=Lib.hid (show ∀ i,i < p→0≤X i∧X i≤65536 from fun i hi=>⟨SC.out.2.1 i hi,sumI_mono SC.out.2.1 hi SC.out.2.2⟩)
 go_wp2_with fail
 clear t2 zt
 go_loopw [61] (fun t61 wr=>ExL w f t each s p pc hc H X qr qt qc qh qa qb t61 wr) (fun t61 _=>p - (intOf t61).toNat)
 case atStart=>exact M6.out
 case round =>
  obtain ⟨j,rfl,hj,hm⟩:=hrel
  have HM:=Lib.hid hm
  clear hm M6
  by_cases hlt:j < p
  ·have t3:decide ((j:Int) < (p:Int)) = true:=decide_eq_true (by omega)
   have t3n:decide (j < p) = true:=decide_eq_true (by omega)
   have hpj:pubU X H j j = X j:=by unfold pubU;rw[if_neg (fun e=>absurd e.1 (Nat.lt_irrefl _))]
   have hrb:=fun a=>rsE_bound (s:=s) HX16.out j hj a
   have hcb:=fun a=>csE_bound (s:=s) HX16.out j hj a
   have CC:=Lib.hid (count24 w f t each s p pc hc H qr qt qc qh qa qb (w.heap.size+1) (w.heap.size+2) (pubU X H j) (rsE X s j) (csE X s j) j wr HM.out (by omega) hlt HPP.out.1 (by rw[hpj];exact HX16.out j hlt) (fun a=>by have:=hrb a;omega) (fun a=>by have:=hcb a;omega))
   clear hrb hcb
   rw[hpj] at CC
   have HPJ:=Lib.hid hpj
   have hjI:(j:Int) < (p:Int):=by omega
   clear hpj
   go_wp2_with fail
   refine CC.out.mono ?_
   rintro e w7 ⟨rfl,h7⟩
   have M7:=Lib.hid h7
   clear h7 CC HM
   have h0:w7.cell? ⟨qh,j * 1+0,none⟩ = some (.bool (H j)):=Row.cell M7.out.hid (fun i=>rfl) hlt (j:=0) (by decide)
   rw[Nat.mul_one,Nat.add_zero] at h0
   have zh:=szs (World.ownsRow.lt M7.out.hid qh rfl).2
   cases hh:H j
   ·rw[hh] at h0
    have HN:=Lib.hid (show ExL w f t each s p pc hc H X qr qt qc qh qa qb (.int .i64 ((j:Int)+1)) w7 from ⟨j+1,by go_num,by omega,M7.out.congrT (fun i hi=>by
     unfold pubU
     by_cases e:i = j
     ·subst e;rw[if_neg (fun q=>by omega),if_neg (fun q=>by rw[hh] at q;exact absurd q.2 (by decide))]
     ·by_cases e2:i < j∧H i = true
      ·rw[if_pos e2,if_pos ⟨by omega,e2.2⟩]
      ·rw[if_neg e2,if_neg (fun q=>e2 ⟨by omega,q.2⟩)]) rfl rfl⟩)
    clear M7
    go_wp2_with fail
    go_roundw
    case rel=>(first | exact HN.out | (repeat (first | exact rfl | refine And.intro (HN.out) ?_ | apply Exists.intro)))
    case measure=>simp [intOf] <;> omega
   ·rw[hh] at h0
    have r5:=cell_at M7.out.rel 5
    have zr:=szs (block_lt M7.out.rel)
    have c0:w7.cell? ⟨qc,j * 1+0,none⟩ = some (.int .i64 (pubU X H j j)):=Row.cell M7.out.cel (fun i=>rfl) hlt (j:=0) (by decide)
    rw[Nat.mul_one,Nat.add_zero,HPJ.out] at c0
    have fc:=fun i=>Row.free M7.out.cel i
    have zc:=szs (World.ownsRow.lt M7.out.cel qc rfl).2
    have HN:=Lib.hid (show ExL w f t each s p pc hc H X qr qt qc qh qa qb (.int .i64 ((j:Int)+1)) (w7.setCell ⟨qc,j,none⟩ (.int .i64 0)) from ⟨j+1,by go_num,by omega,(M7.out.setC hlt 0).congrT (fun i hi=>by
     by_cases e:i = j
     ·subst e;rw[upd_same];unfold pubU;rw[if_pos ⟨by omega,hh⟩]
     ·rw[upd_ne e];unfold pubU
      by_cases e2:i < j∧H i = true
      ·rw[if_pos e2,if_pos ⟨by omega,e2.2⟩]
      ·rw[if_neg e2,if_neg (fun q=>e2 ⟨by omega,q.2⟩)]) rfl rfl⟩)
    clear M7
    go_wp2_with fail
    go_roundw
    case rel=>(first | exact HN.out | (repeat (first | exact rfl | refine And.intro (HN.out) ?_ | apply Exists.intro)))
    case measure=>simp [intOf] <;> omega
  ·have t3:decide ((j:Int) < (p:Int)) = false:=decide_eq_false (by omega)
   have t3n:decide (j < p) = false:=decide_eq_false (by omega)
   obtain rfl:j = p:=by omega
   have fr:=fun j=>free_at HM.out.res j
   have zy:=szs (block_lt HM.out.res)
   have y0:=cell_at HM.out.res 0
   have y1:=cell_at HM.out.res 1
   have y2:=cell_at HM.out.res 2
   have y3:=cell_at HM.out.res 3
   have y4:=cell_at HM.out.res 4
   have y5:=cell_at HM.out.res 5
   have y6:=cell_at HM.out.res 6
   have y7:=cell_at HM.out.res 7
   have y8:=cell_at HM.out.res 8
   have y9:=cell_at HM.out.res 9
   have r0:=cell_at HM.out.rel 0
   have r1:=cell_at HM.out.rel 1
   have r2:=cell_at HM.out.rel 2
   have r3:=cell_at HM.out.rel 3
   have r4:=cell_at HM.out.rel 4
   have r5:=cell_at HM.out.rel 5
   have r6:=cell_at HM.out.rel 6
   have r7:=cell_at HM.out.rel 7
   have r8:=cell_at HM.out.rel 8
   have r9:=cell_at HM.out.rel 9
   have zr:=szs (block_lt HM.out.rel)
   go_wp2_with fail
   show bodyPost _ _ _ Exit.ret _ _
   have KZ:=put10 HM.out.res (.int .i64 f) (.int .i64 t) (.int .i64 each) (.int .i64 s) (.int .i64 s) (.slice (some ⟨qc,0,none⟩) j pc) (.slice (some ⟨qh,0,none⟩) j hc) (.slice (some ⟨qa,0,none⟩) s s) (.slice (some ⟨qb,0,none⟩) s s) (.slice none 0 0)
   have O9:=off10 wr (w.heap.size+1) (.int .i64 f) (.int .i64 t) (.int .i64 each) (.int .i64 s) (.int .i64 s) (.slice (some ⟨qc,0,none⟩) j pc) (.slice (some ⟨qh,0,none⟩) j hc) (.slice (some ⟨qa,0,none⟩) s s) (.slice (some ⟨qb,0,none⟩) s s) (.slice none 0 0)
   have OZ:=HM.out.bel.trans (O9.toBelow HM.out.bel.size (fun q hq h=>by have h:q = w.heap.size+1:=h;omega))
   have RZ1:=Lib.hid (Row.base_mono (Row.off HM.out.cel O9 (fun q hq e=>by have e:q = w.heap.size+1:=e;have:=(World.ownsRow.lt HM.out.cel q hq).1;omega)) (show w.heap.size≤w.heap.size+2 by omega))
   have RZ2:=Lib.hid (Row.base_mono (Row.off HM.out.hid O9 (fun q hq e=>by have e:q = w.heap.size+1:=e;have:=(World.ownsRow.lt HM.out.hid q hq).1;omega)) (show w.heap.size≤w.heap.size+2 by omega))
   have RZ3:=Lib.hid (Row.base_mono (Row.off HM.out.rsm O9 (fun q hq e=>by have e:q = w.heap.size+1:=e;have:=(World.ownsRow.lt HM.out.rsm q hq).1;omega)) (show w.heap.size≤w.heap.size+2 by omega))
   have RZ4:=Lib.hid (Row.base_mono (Row.off HM.out.csm O9 (fun q hq e=>by have e:q = w.heap.size+1:=e;have:=(World.ownsRow.lt HM.out.csm q hq).1;omega)) (show w.heap.size≤w.heap.size+2 by omega))
   unfold st10 at KZ OZ RZ1 RZ2 RZ3 RZ4
   clear y0 y1 y2 y3 y4 y5 y6 y7 y8 y9 fr zy r0 r1 r2 r3 r4 r5 r6 r7 r8 r9 zr O9
   obtain ⟨w9,hw9⟩:∃ w9,w9 = (((((((((wr.setCell ⟨w.heap.size+1,0,none⟩ (.int .i64 f)).setCell ⟨w.heap.size+1,1,none⟩ (.int .i64 t)).setCell ⟨w.heap.size+1,2,none⟩ (.int .i64 each)).setCell ⟨w.heap.size+1,3,none⟩ (.int .i64 s)).setCell ⟨w.heap.size+1,4,none⟩ (.int .i64 s)).setCell ⟨w.heap.size+1,5,none⟩ (.slice (some ⟨qc,0,none⟩) j pc)).setCell ⟨w.heap.size+1,6,none⟩ (.slice (some ⟨qh,0,none⟩) j hc)).setCell ⟨w.heap.size+1,7,none⟩ (.slice (some ⟨qa,0,none⟩) s s)).setCell ⟨w.heap.size+1,8,none⟩ (.slice (some ⟨qb,0,none⟩) s s)).setCell ⟨w.heap.size+1,9,none⟩ (.slice none 0 0):=⟨_,rfl⟩
   rw[←hw9] at KZ OZ RZ1 RZ2 RZ3 RZ4 ⊢
   clear hw9
   have k0:=cell_at KZ 0
   have k1:=cell_at KZ 1
   have k2:=cell_at KZ 2
   have k3:=cell_at KZ 3
   have k4:=cell_at KZ 4
   have k5:=cell_at KZ 5
   have k6:=cell_at KZ 6
   have k7:=cell_at KZ 7
   have k8:=cell_at KZ 8
   have k9:=cell_at KZ 9
   have zk:=szs (block_lt KZ)
   refine bodyPost_ret (v:=.tuple #[.agg #[.int .i64 f,.int .i64 t,.int .i64 each,.int .i64 s,.int .i64 s,.slice (some ⟨qc,0,none⟩) j pc,.slice (some ⟨qh,0,none⟩) j hc,.slice (some ⟨qa,0,none⟩) s s,.slice (some ⟨qb,0,none⟩) s s,.slice none 0 0],.int .i64 0]) (by simp [results,Tryz.results8,go_sem,k0,k1,k2,k3,k4,k5,k6,k7,k8,k9]) rfl ⟨⟨_,_,rfl,rfl,fun e=>absurd rfl e,fun _=>⟨HTO.out.1,?_⟩,fun _ _ _ _ _=>rfl⟩,OZ⟩
   obtain ⟨hpe,hxe⟩:=HPP.out
   subst hxe
   subst hpe
   exact ⟨pc,hc,qc,qh,qa,qb,H,rfl,RZ1.out,RZ2.out,RZ3.out,RZ4.out,HWD.out.1,HWD.out.2⟩
end Go.Proofs.YtdpoppilnokniaaGreatDoor
