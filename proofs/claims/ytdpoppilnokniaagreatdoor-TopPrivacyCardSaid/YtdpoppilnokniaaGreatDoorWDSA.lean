/- Theorems of this seat. -/
import Derived.Test.YtdpoppilnokniaaGreatDoorWEV0
import Derived.BigQuiet
import Derived.WalkLawsBesides
import Derived.BigRegion
namespace Go.Proofs.YtdpoppilnokniaaGreatDoor
open Go.RowKit Go.ChangeShapes Go.WideShapes Go.Deep
set_option linter.unusedVariables false
set_option linter.unusedSimpArgs false
structure Rid where
 id:Int
 rid:Int
 s0:Int
 s1:Int
 e0:Int
 e1:Int
 op:Bool
 la:Option Addr
 ln:Nat
 lc:Nat
 pa:Option Addr
 pn:Nat
 pc:Nat
 fw:Int
 fp:Int
 wh:Int
 pl:Int
def rds (x:Rid):List Value:=[.int .i64 x.id,.int .i64 x.rid,.int .i64 x.s0,.int .i64 x.s1,.int .i64 x.e0,.int .i64 x.e1,.bool x.op,.slice x.la x.ln x.lc,.slice x.pa x.pn x.pc,.int .i64 x.fw,.int .i64 x.fp,.int .i64 x.wh,.int .i64 x.pl]
theorem rds_len (x:Rid):(rds x).length = 13:=rfl
structure RdAt (w:World) (b o:Nat) (x:Rid):Prop where
 c0:w.cell? ⟨b,o,none⟩ = some (.int .i64 x.id)
 c1:w.cell? ⟨b,o+1,none⟩ = some (.int .i64 x.rid)
 c2:w.cell? ⟨b,o+2,none⟩ = some (.int .i64 x.s0)
 c3:w.cell? ⟨b,o+3,none⟩ = some (.int .i64 x.s1)
 c4:w.cell? ⟨b,o+4,none⟩ = some (.int .i64 x.e0)
 c5:w.cell? ⟨b,o+5,none⟩ = some (.int .i64 x.e1)
 c6:w.cell? ⟨b,o+6,none⟩ = some (.bool x.op)
 c7:w.cell? ⟨b,o+7,none⟩ = some (.slice x.la x.ln x.lc)
 c8:w.cell? ⟨b,o+8,none⟩ = some (.slice x.pa x.pn x.pc)
 c9:w.cell? ⟨b,o+9,none⟩ = some (.int .i64 x.fw)
 c10:w.cell? ⟨b,o+10,none⟩ = some (.int .i64 x.fp)
 c11:w.cell? ⟨b,o+11,none⟩ = some (.int .i64 x.wh)
 c12:w.cell? ⟨b,o+12,none⟩ = some (.int .i64 x.pl)
theorem RdAt.of {w:World}{b o:Nat}{x:Rid}(h:∀ j,j < 13→w.cell? ⟨b,o+j,none⟩ = (rds x)[j]?):RdAt w b o x :=
 ⟨h 0 (by decide),h 1 (by decide),h 2 (by decide),h 3 (by decide),h 4 (by decide),h 5 (by decide),h 6 (by decide),h 7 (by decide),h 8 (by decide),h 9 (by decide),h 10 (by decide),h 11 (by decide),h 12 (by decide)⟩
def RdR (w:World) (base:Nat) (v:Value) (n:Nat) (F:Nat→Rid):Prop:=Row w base 71 13 v n (fun i=>rds (F i))
theorem RdR.at {w:World}{base b n c:Nat}{F:Nat→Rid}(h:RdR w base (.slice (some ⟨b,0,none⟩) n c) n F) {i:Nat}(hi:i < n):RdAt w b (i * 13) (F i) :=
 RdAt.of (fun j hj=>Row.cell h (fun i=>rds_len (F i)) hi (j:=j) hj)
theorem RdR.put {w:World}{base b n c:Nat}{F:Nat→Rid}(h:RdR w base (.slice (some ⟨b,0,none⟩) n c) n F) {i:Nat}(hi:i < n) (x:Rid):RdR (putCells w b (i * 13) (rds x)) base (.slice (some ⟨b,0,none⟩) n c) n (upd F i x) :=
 Row.congr (Row.put h (fun i=>rds_len (F i)) hi (rds x) (rds_len x)) fun j _=>by
  by_cases hj:j = i
  ·subst hj;rw[upd_same,upd_same]
  ·rw[upd_ne hj,upd_ne hj]
theorem RdR.off {X:Nat→Prop}{w w':World}{base:Nat}{v:Value}{n:Nat}{F:Nat→Rid}(h:RdR w base v n F) (ho:Off X w w') (hX:∀ b,v.ownBlock = some b→¬ X b):RdR w' base v n F:=Row.off h ho hX
def From (n:Nat) (F F':Nat→Rid):Prop:=∀ i,i < n→∃ j,j < n∧F' i = F j
theorem From.refl (n:Nat) (F:Nat→Rid):From n F F:=fun i hi=>⟨i,hi,rfl⟩
theorem From.trans {n:Nat}{F G H:Nat→Rid}(h:From n F G) (h':From n G H):From n F H:=fun i hi=>by
 obtain ⟨j,hj,e⟩:=h' i hi
 obtain ⟨k,hk,e2⟩:=h j hj
 exact ⟨k,hk,e.trans e2⟩
theorem From.put {n:Nat}{F G:Nat→Rid}(h:From n F G) (i:Nat) {k:Nat}(hk:k < n) {x:Rid}(hx:x = F k):From n F (upd G i x):=fun j hj=>by
 by_cases e:j = i
 ·subst e;rw[upd_same];exact ⟨k,hk,hx⟩
 ·rw[upd_ne e];exact h j hj
def swapR (F:Nat→Rid) (i k:Nat):Nat→Rid:=upd (upd F i (F k)) k (F i)
theorem From.swap {n:Nat}{F G:Nat→Rid}(h:From n F G) {i k:Nat}(hi:i < n) (hk:k < n):From n F (swapR G i k):=fun j hj=>by
 unfold swapR
 by_cases e:j = k
 ·subst e;rw[upd_same];exact h i hi
 ·rw[upd_ne e]
  by_cases e2:j = i
  ·subst e2;rw[upd_same];exact h k hk
  ·rw[upd_ne e2];exact h j hj
def MovW (base b n c:Nat) (F:Nat→Rid) (w:World) (e:Ending) (w':World):Prop :=
 e = .returned (.tuple #[])∧∃ F',From n F F'∧RdR w' base (.slice (some ⟨b,0,none⟩) n c) n F'∧Off (fun k=>k = b) w w'
set_option maxRecDepth 8000 in
set_option maxHeartbeats 4000000 in
theorem cmp20 (x y:Rid) (w:World):Calls Tryz.prog 20 #[.agg (rds x).toArray,.agg (rds y).toArray] w fun e w'=>(∃ r:Int,e = .returned (.int .i64 r))∧Below w.heap.size w w':=by
 obtain ⟨a1,a2,a3,a4,a5,a6,a7,a8,a9,a10,a11,a12,a13,a14,a15,a16,a17⟩:=x
 obtain ⟨b1,b2,b3,b4,b5,b6,b7,b8,b9,b10,b11,b12,b13,b14,b15,b16,b17⟩:=y
 unfold rds
 dsimp only
 have BB:Hid (Below w.heap.size w ((w.alloc (.cells #[.int .i64 a1,.int .i64 a2,.int .i64 a3,.int .i64 a4,.int .i64 a5,.int .i64 a6,.bool a7,.slice a8 a9 a10,.slice a11 a12 a13,.int .i64 a14,.int .i64 a15,.int .i64 a16,.int .i64 a17] 71)).alloc (.cells #[.int .i64 b1,.int .i64 b2,.int .i64 b3,.int .i64 b4,.int .i64 b5,.int .i64 b6,.bool b7,.slice b8 b9 b10,.slice b11 b12 b13,.int .i64 b14,.int .i64 b15,.int .i64 b16,.int .i64 b17] 71))):=Lib.hid (by (repeat' (first | with_reducible (first | exact Below.refl _ _ | assumption | refine Below.drew ?_ | refine below_drewN ?_ _ | refine Below.alloc ?_ ?_ _ | refine Below.setCell ?_ ?_ _) | go_size)))
 go_enter Tryz.func20,Tryz.ntmps20
 go_wp2_with fail
 refine (cmp21 a1 b1 _).mono ?_
 rintro e w1 ⟨rfl,rfl⟩
 go_wp2_with fail
 go_returns
 exact ⟨⟨_,rfl⟩,BB.out⟩
end Go.Proofs.YtdpoppilnokniaaGreatDoor
namespace Go.Proofs.YtdpoppilnokniaaGreatDoor
open Go.RowKit Go.ChangeShapes Go.WideShapes Go.Deep
set_option linter.unusedVariables false
set_option linter.unusedSimpArgs false
set_option maxRecDepth 8000 in
set_option maxHeartbeats 8000000 in
theorem swapRange107 (base b n c a q k:Nat) (F:Nat→Rid) (f:Value) (w:World) (hR:RdR w base (.slice (some ⟨b,0,none⟩) n c) n F) (ha:a+k≤n) (hq:q+k≤n) (hne:a ≠ q) :
  Calls Tryz.prog 107 #[.slice (some ⟨b,0,none⟩) n c,.int .i64 a,.int .i64 q,.int .i64 k,f] w (MovW base b n c F w):=by
 obtain ⟨hb,hn,hc⟩:b < w.heap.size∧n≤c∧c≤9223372036854775807:=by
  rcases Row.shape hR with ⟨h,_⟩ | ⟨g',cap',he,_,h1,h2,h3⟩
  ·cases h
  ·cases he;exact ⟨h1,h2,h3⟩
 have HR:=Lib.hid hR
 clear hR
 go_enter Tryz.func107,Tryz.ntmps107
 go_wp2_with fail
 go_loopw [10] (fun s10 wr=>∃ (i:Nat) (F':Nat→Rid),s10 = .int .i64 i∧i≤k∧Hid (From n F F'∧RdR wr base (.slice (some ⟨b,0,none⟩) n c) n F'∧Off (fun k=>k = b) w wr)) (fun s10 _=>k - (intOf s10).toNat)
 case atStart=>exact ⟨0,F,rfl,by omega,Lib.hid ⟨From.refl _ _,HR.out,Off.refl _ _⟩⟩
 case round =>
  obtain ⟨i,F',rfl,hi,hrel⟩:=hrel
  have HREL:=hrel
  clear hrel
  by_cases hlt:i < k
  ·have ti:(i:Int) < (k:Int):=by omega
   have ti2:decide ((i:Int) < (k:Int)) = true:=decide_eq_true ti
   have hai:a+i < n:=by omega
   have hqi:q+i < n:=by omega
   have A0:=HREL.out.2.1.at hai
   have A1:=HREL.out.2.1.at hqi
   have fr:∀ o,wr.frozen? ⟨b,o,none⟩ = false:=fun o=>Row.free HREL.out.2.1 o
   have zr:=szs (Nat.lt_of_lt_of_le hb HREL.out.2.2.size)
   have i0:((a:Int)+(i:Int)) < (n:Int):=by omega
   have k0:((q:Int)+(i:Int)) < (n:Int):=by omega
   obtain ⟨x,hx⟩:∃ x,x = F' (a+i):=⟨_,rfl⟩
   obtain ⟨y,hy⟩:∃ y,y = F' (q+i):=⟨_,rfl⟩
   rw[←hx] at A0
   rw[←hy] at A1
   have HX:=Lib.hid hx
   have HY:=Lib.hid hy
   clear hx hy
   obtain ⟨a1,a2,a3,a4,a5,a6,a7,a8,a9,a10,a11,a12,a13,a14,a15,a16,a17⟩:=x
   obtain ⟨b1,b2,b3,b4,b5,b6,b7,b8,b9,b10,b11,b12,b13,b14,b15,b16,b17⟩:=y
   (have f0:=(A0).c0;have f1:=(A0).c1;have f2:=(A0).c2;have f3:=(A0).c3;have f4:=(A0).c4;have f5:=(A0).c5;have f6:=(A0).c6;have f7:=(A0).c7;have f8:=(A0).c8;have f9:=(A0).c9;have f10:=(A0).c10;have f11:=(A0).c11;have f12:=(A0).c12);(try dsimp only at f0 f1 f2 f3 f4 f5 f6 f7 f8 f9 f10 f11 f12)
   (have h0:=(A1).c0;have h1:=(A1).c1;have h2:=(A1).c2;have h3:=(A1).c3;have h4:=(A1).c4;have h5:=(A1).c5;have h6:=(A1).c6;have h7:=(A1).c7;have h8:=(A1).c8;have h9:=(A1).c9;have h10:=(A1).c10;have h11:=(A1).c11;have h12:=(A1).c12);(try dsimp only at h0 h1 h2 h3 h4 h5 h6 h7 h8 h9 h10 h11 h12)
   clear A0 A1
   go_wp2_with fail
   (refine region_order (fun i:Nat=>World.drewN _ i) [4,5,6,7] [0,1,2,3,8,9,10,11,12,13,14,15,16,17,18,19,20] 21 [22,23] mixed (by kernel_rfl) ⟨1,rfl⟩ ?_;simp only[List.map_cons,List.map_nil,Array.getD_eq_getD_getElem?,List.getElem?_toArray,List.getElem?_cons_zero,List.getElem?_cons_succ,Option.getD_some];(repeat (refine wpPure_cons _ rfl (fun w'=>by go_simp;try rfl) ?_;dsimp only[Act.put]));refine wpPure_nil ?_;(repeat (any_goals (first | go_big_quiet_step (fail) | quiet_step (fail) | (refine wpQuiet_step (fun K hK=>?_);go_simp;split <;> (refine hK _ ?_;clear hK K)))));(all_goals (refine wpQuiet_nil (fun nq=>?_))))
   have HB:Below wr.heap.size wr (wr.drewN nq):=below_drewN (Below.refl _ _) _
   have H0:RdR (wr.drewN nq) base (.slice (some ⟨b,0,none⟩) n c) n F':=RdR.off (X:=fun _=>False) HREL.out.2.1 (Off.of_below HB) (fun _ _ h=>h)
   have H1:=Lib.hid ((H0.put hai ⟨b1,b2,b3,b4,b5,b6,b7,b8,b9,b10,b11,b12,b13,b14,b15,b16,b17⟩).put hqi ⟨a1,a2,a3,a4,a5,a6,a7,a8,a9,a10,a11,a12,a13,a14,a15,a16,a17⟩)
   have O1:=Lib.hid (off_putCells (X:=fun k=>k = b) rfl (rds ⟨a1,a2,a3,a4,a5,a6,a7,a8,a9,a10,a11,a12,a13,a14,a15,a16,a17⟩) ((q+i) * 13) _ (off_putCells (X:=fun k=>k = b) rfl (rds ⟨b1,b2,b3,b4,b5,b6,b7,b8,b9,b10,b11,b12,b13,b14,b15,b16,b17⟩) ((a+i) * 13) _ (HREL.out.2.2.trans (Off.of_below HB) (fun _ _ h=>h))))
   have ES:Hid (swapR F' (a+i) (q+i) = upd (upd F' (a+i) ⟨b1,b2,b3,b4,b5,b6,b7,b8,b9,b10,b11,b12,b13,b14,b15,b16,b17⟩) (q+i) ⟨a1,a2,a3,a4,a5,a6,a7,a8,a9,a10,a11,a12,a13,a14,a15,a16,a17⟩):=Lib.hid (by unfold swapR;rw[←HX.out,←HY.out])
   clear H0 HB
   rcases (show a < q∨q < a by omega) with hik | hik
   ·go_wp2_with fail
    refine onlyN_intro ?_
    go_wp2_with fail
    go_roundw
    case rel=>exact ⟨i+1,swapR F' (a+i) (q+i),by go_num,by omega,Lib.hid ⟨HREL.out.1.swap hai hqi,by rw[ES.out];exact H1.out,O1.out⟩⟩
    case measure=>simp [intOf];omega
   ·go_wp2_with fail
    refine onlyN_intro ?_
    go_wp2_with fail
    go_roundw
    case rel=>exact ⟨i+1,swapR F' (a+i) (q+i),by go_num,by omega,Lib.hid ⟨HREL.out.1.swap hai hqi,by rw[ES.out];exact H1.out,O1.out⟩⟩
    case measure=>simp [intOf];omega
  ·obtain rfl:i = k:=by omega
   have tii:decide ((i:Int) < (i:Int)) = false:=decide_eq_false (by omega)
   go_wp2_with fail
   go_returns
   exact ⟨rfl,F',HREL.out⟩
end Go.Proofs.YtdpoppilnokniaaGreatDoor
namespace Go.Proofs.YtdpoppilnokniaaGreatDoor
open Go.RowKit Go.ChangeShapes Go.WideShapes Go.Deep
set_option linter.unusedVariables false
set_option linter.unusedSimpArgs false
theorem RdR.bnds {w:World}{base b n c:Nat}{F:Nat→Rid}(hR:RdR w base (.slice (some ⟨b,0,none⟩) n c) n F):b < w.heap.size∧n≤c∧c≤9223372036854775807:=by
 rcases Row.shape hR with ⟨h,_⟩ | ⟨g',cap',he,_,h1,h2,h3⟩
 ·cases h
 ·cases he;exact ⟨h1,h2,h3⟩
theorem MovW.trans {base b n c:Nat}{F F':Nat→Rid}{w w1 w2:World}{e:Ending}(h:From n F F') (o:Off (fun k=>k = b) w w1) (k:MovW base b n c F' w1 e w2):MovW base b n c F w e w2:=by
 obtain ⟨h1,F2,h2,h3,h4⟩:=k
 exact ⟨h1,F2,h.trans h2,h3,o.trans h4 (fun _ _ h=>h)⟩
theorem swapRangeZ (base b n c a q k:Nat) (F:Nat→Rid) (f:Value) (w:World) {A Q K:Int}(hA:A = (a:Int)) (hQ:Q = (q:Int)) (hK:K = (k:Int)) (hR:RdR w base (.slice (some ⟨b,0,none⟩) n c) n F) (ha:a+k≤n) (hq:q+k≤n) (hne:a ≠ q) :
  Calls Tryz.prog 107 #[.slice (some ⟨b,0,none⟩) n c,.int .i64 A,.int .i64 Q,.int .i64 K,f] w (MovW base b n c F w):=by
 subst hA hQ hK
 exact swapRange107 base b n c a q k F f w hR ha hq hne
set_option maxRecDepth 8000 in
set_option maxHeartbeats 8000000 in
theorem rotate92 (base b n c a m d:Nat) (F:Nat→Rid) (f:Value) (w:World) (hR:RdR w base (.slice (some ⟨b,0,none⟩) n c) n F) (ha:a < m) (hm:m < d) (hd:d≤n) :
  Calls Tryz.prog 92 #[.slice (some ⟨b,0,none⟩) n c,.int .i64 a,.int .i64 m,.int .i64 d,f] w (MovW base b n c F w):=by
 obtain ⟨hb,hn,hc⟩:=hR.bnds
 have HR:=Lib.hid hR
 clear hR
 go_enter Tryz.func92,Tryz.ntmps92
 go_wp2_with fail
 go_loopw [10,11] (fun s10 s11 wr=>∃ (i j:Nat) (F':Nat→Rid),s10 = .int .i64 i∧s11 = .int .i64 j∧1≤i∧i≤m∧1≤j∧m+j≤n∧Hid (From n F F'∧RdR wr base (.slice (some ⟨b,0,none⟩) n c) n F'∧Off (fun k=>k = b) w wr)) (fun s10 s11 _=>(intOf s10).toNat+(intOf s11).toNat)
 case atStart=>exact ⟨m - a,d - m,F,by rw[Int.ofNat_sub (by omega)],by rw[Int.ofNat_sub (by omega)],by omega,by omega,by omega,by omega,Lib.hid ⟨From.refl _ _,HR.out,Off.refl _ _⟩⟩
 case round =>
  obtain ⟨i,j,F',rfl,rfl,h1,h2,h3,h4,hrel⟩:=hrel
  have HREL:=hrel
  clear hrel
  by_cases hij:i = j
  ·subst hij
   have t0:decide ((i:Int) ≠ (i:Int)) = false:=decide_eq_false (by omega)
   go_wp2_with fail
   refine (swapRangeZ base b n c (m - i) m i F' f wr (by omega) rfl rfl HREL.out.2.1 (by omega) (by omega) (by omega)).mono ?_
   intro e w1 hw
   obtain ⟨rfl,hx⟩:=MovW.trans HREL.out.1 HREL.out.2.2 hw
   clear hw
   go_wp2_with fail
   go_returns
   exact ⟨rfl,hx⟩
  ·have t0:decide ((i:Int) ≠ (j:Int)) = true:=decide_eq_true (by omega)
   by_cases hlt:j < i
   ·have t1:decide ((i:Int) > (j:Int)) = true:=decide_eq_true (by omega)
    have t2:decide ((j:Int) < (i:Int)) = true:=decide_eq_true (by omega)
    go_wp2_with fail
    refine (swapRangeZ base b n c (m - i) m j F' f wr (by omega) rfl rfl HREL.out.2.1 (by omega) (by omega) (by omega)).mono ?_
    rintro e w1 ⟨rfl,F2,hF,hR1,hO⟩
    have HH:=Lib.hid (And.intro (HREL.out.1.trans hF) (And.intro hR1 (HREL.out.2.2.trans hO (fun _ _ h=>h))))
    clear hF hR1 hO
    go_wp2_with fail
    go_roundw
    case rel=>exact ⟨i - j,j,F2,by rw[Int.ofNat_sub (by omega)],rfl,by omega,by omega,by omega,by omega,HH⟩
    case measure=>simp [intOf];omega
   ·have t1:decide ((i:Int) > (j:Int)) = false:=decide_eq_false (by omega)
    have t2:decide ((j:Int) < (i:Int)) = false:=decide_eq_false (by omega)
    go_wp2_with fail
    refine (swapRangeZ base b n c (m - i) (m+j - i) i F' f wr (by omega) (by omega) rfl HREL.out.2.1 (by omega) (by omega) (by omega)).mono ?_
    rintro e w1 ⟨rfl,F2,hF,hR1,hO⟩
    have HH:=Lib.hid (And.intro (HREL.out.1.trans hF) (And.intro hR1 (HREL.out.2.2.trans hO (fun _ _ h=>h))))
    clear hF hR1 hO
    go_wp2_with fail
    go_roundw
    case rel=>exact ⟨i,j - i,F2,rfl,by rw[Int.ofNat_sub (by omega)],by omega,by omega,by omega,by omega,HH⟩
    case measure=>simp [intOf];omega
end Go.Proofs.YtdpoppilnokniaaGreatDoor
namespace Go.Proofs.YtdpoppilnokniaaGreatDoor
open Go.RowKit Go.ChangeShapes Go.WideShapes Go.Deep
set_option linter.unusedVariables false
set_option linter.unusedSimpArgs false
set_option maxRecDepth 8000 in
set_option maxHeartbeats 16000000 in
theorem insertion61 (base b n c a d:Nat) (F:Nat→Rid) (w:World) (hR:RdR w base (.slice (some ⟨b,0,none⟩) n c) n F) (hs:n≤1000) (ha:a≤n) (hd:d≤n) :
  Calls Tryz.prog 61 #[.slice (some ⟨b,0,none⟩) n c,.int .i64 a,.int .i64 d,.func (.func 20) #[] #[]] w (MovW base b n c F w):=by
 obtain ⟨hb,hn,hc⟩:=hR.bnds
 have HR:=Lib.hid hR
 clear hR
 go_enter Tryz.func61,Tryz.ntmps61
 go_wp2_with fail
 go_loopw [8] (fun s8 wr=>∃ (i:Nat) (F':Nat→Rid),s8 = .int .i64 i∧i≤a+1+d∧Hid (From n F F'∧RdR wr base (.slice (some ⟨b,0,none⟩) n c) n F'∧Off (fun k=>k = b) w wr)) (fun s8 _=>a+2+d - (intOf s8).toNat)
 case atStart=>exact ⟨a+1,F,by go_num,by omega,Lib.hid ⟨From.refl _ _,HR.out,Off.refl _ _⟩⟩
 case round =>
  obtain ⟨i,F0,rfl,hi,hrel⟩:=hrel
  have HREL:=hrel
  clear hrel HR
  by_cases hlt:i < d
  ·have t1:decide ((i:Int) < (d:Int)) = true:=decide_eq_true (by omega)
   go_wp2_with fail
   go_loopw [9] (fun s9 ws=>∃ (j:Nat) (F':Nat→Rid),s9 = .int .i64 j∧j≤i∧Hid (From n F F'∧RdR ws base (.slice (some ⟨b,0,none⟩) n c) n F'∧Off (fun k=>k = b) w ws)) (fun s9 _=>(intOf s9).toNat)
   case atStart=>exact ⟨i,F0,rfl,by omega,HREL⟩
   case round =>
    obtain ⟨j,F',rfl,hj,hrel⟩:=hrel
    have HL:=hrel
    clear hrel HREL
    by_cases ha:a < j
    ·obtain ⟨k,rfl⟩:∃ k,j = k+1:=⟨j - 1,by omega⟩
     have t2:decide (((k+1:Nat):Int) > (a:Int)) = true:=decide_eq_true (by omega)
     have t3:decide ((a:Int) < ((k+1:Nat):Int)) = true:=decide_eq_true (by omega)
     have t5:decide ((k:Int)+1 > (a:Int)) = true:=decide_eq_true (by omega)
     have t6:decide ((a:Int) < (k:Int)+1) = true:=decide_eq_true (by omega)
     have hk1:k+1 < n:=by omega
     have hk0:k < n:=by omega
     have zr:=szs (Nat.lt_of_lt_of_le hb HL.out.2.2.size)
     have A0:=(HL.out.2.1).at hk1
     have A1:=(HL.out.2.1).at hk0
     obtain ⟨x,hx⟩:∃ x,x = F' (k+1):=⟨_,rfl⟩
     obtain ⟨y,hy⟩:∃ y,y = F' (k):=⟨_,rfl⟩
     rw[←hx] at A0
     rw[←hy] at A1
     have HX:=Lib.hid hx
     have HY:=Lib.hid hy
     clear hx hy
     obtain ⟨a1,a2,a3,a4,a5,a6,a7,a8,a9,a10,a11,a12,a13,a14,a15,a16,a17⟩:=x
     obtain ⟨b1,b2,b3,b4,b5,b6,b7,b8,b9,b10,b11,b12,b13,b14,b15,b16,b17⟩:=y
     (have f0:=(A0).c0;have f1:=(A0).c1;have f2:=(A0).c2;have f3:=(A0).c3;have f4:=(A0).c4;have f5:=(A0).c5;have f6:=(A0).c6;have f7:=(A0).c7;have f8:=(A0).c8;have f9:=(A0).c9;have f10:=(A0).c10;have f11:=(A0).c11;have f12:=(A0).c12);(try dsimp only at f0 f1 f2 f3 f4 f5 f6 f7 f8 f9 f10 f11 f12)
     (have h0:=(A1).c0;have h1:=(A1).c1;have h2:=(A1).c2;have h3:=(A1).c3;have h4:=(A1).c4;have h5:=(A1).c5;have h6:=(A1).c6;have h7:=(A1).c7;have h8:=(A1).c8;have h9:=(A1).c9;have h10:=(A1).c10;have h11:=(A1).c11;have h12:=(A1).c12);(try dsimp only at h0 h1 h2 h3 h4 h5 h6 h7 h8 h9 h10 h11 h12)
     clear A0 A1
     go_wp2_with fail
     (refine region_order (fun i:Nat=>World.drewN _ i) [] [0,1,2,3,4,5,6,7,8,9,10,11,12,13] 14 [15,16] mixed (by kernel_rfl) ⟨1,rfl⟩ ?_;simp only[List.map_cons,List.map_nil,Array.getD_eq_getD_getElem?,List.getElem?_toArray,List.getElem?_cons_zero,List.getElem?_cons_succ,Option.getD_some];(repeat (refine wpPure_cons _ rfl (fun w'=>by go_simp;try rfl) ?_;dsimp only[Act.put]));refine wpPure_nil ?_;(repeat (any_goals (first | go_big_quiet_step (fail) | quiet_step (fail) | (refine wpQuiet_step (fun K hK=>?_);go_simp;split <;> (refine hK _ ?_;clear hK K)))));(all_goals (refine wpQuiet_nil (fun nq=>?_))))
     have bq1:Below wr.heap.size wr (wr.drewN nq):=below_drewN (Below.refl _ _) _
     go_wp2_with fail
     refine (cmp20 ⟨a1,a2,a3,a4,a5,a6,a7,a8,a9,a10,a11,a12,a13,a14,a15,a16,a17⟩ ⟨b1,b2,b3,b4,b5,b6,b7,b8,b9,b10,b11,b12,b13,b14,b15,b16,b17⟩ _).mono ?_
     rintro e w1 ⟨⟨r,rfl⟩,hB⟩
     have HM:Hid (From n F F'∧RdR w1 base (.slice (some ⟨b,0,none⟩) n c) n F'∧Off (fun k=>k = b) w w1):=Lib.hid ⟨HL.out.1,RdR.off (X:=fun _=>False) HL.out.2.1 (Off.of_below (bq1.trans (hB.mono bq1.size))) (fun _ _ h=>h),HL.out.2.2.trans (Off.of_below (bq1.trans (hB.mono bq1.size))) (fun _ _ h=>h)⟩
     clear bq1 hB zr f0 h0 f1 h1 f2 h2 f3 h3 f4 h4 f5 h5 f6 h6 f7 h7 f8 h8 f9 h9 f10 h10 f11 h11 f12 h12
     by_cases hr:r < 0
     ·have t4:decide (r < 0) = true:=decide_eq_true hr
      have A0:=HM.out.2.1.at hk1
      have A1:=HM.out.2.1.at hk0
      rw[←HX.out] at A0
      rw[←HY.out] at A1
      (have f0:=(A0).c0;have f1:=(A0).c1;have f2:=(A0).c2;have f3:=(A0).c3;have f4:=(A0).c4;have f5:=(A0).c5;have f6:=(A0).c6;have f7:=(A0).c7;have f8:=(A0).c8;have f9:=(A0).c9;have f10:=(A0).c10;have f11:=(A0).c11;have f12:=(A0).c12);(try dsimp only at f0 f1 f2 f3 f4 f5 f6 f7 f8 f9 f10 f11 f12)
      (have h0:=(A1).c0;have h1:=(A1).c1;have h2:=(A1).c2;have h3:=(A1).c3;have h4:=(A1).c4;have h5:=(A1).c5;have h6:=(A1).c6;have h7:=(A1).c7;have h8:=(A1).c8;have h9:=(A1).c9;have h10:=(A1).c10;have h11:=(A1).c11;have h12:=(A1).c12);(try dsimp only at h0 h1 h2 h3 h4 h5 h6 h7 h8 h9 h10 h11 h12)
      clear A0 A1
      have fr:∀ o,w1.frozen? ⟨b,o,none⟩ = false:=fun o=>Row.free HM.out.2.1 o
      have zr:=szs (Nat.lt_of_lt_of_le hb HM.out.2.2.size)
      go_wp2_with fail
      refine onlyN_intro ?_
      go_wp2_with fail
      (refine region_order (fun i:Nat=>World.drewN _ i) [2,3,4] [0,1,5,6,7,8,9,10,11,12,13,14] 15 [16,17] mixed (by kernel_rfl) ⟨1,rfl⟩ ?_;simp only[List.map_cons,List.map_nil,Array.getD_eq_getD_getElem?,List.getElem?_toArray,List.getElem?_cons_zero,List.getElem?_cons_succ,Option.getD_some];(repeat (refine wpPure_cons _ rfl (fun w'=>by go_simp;try rfl) ?_;dsimp only[Act.put]));refine wpPure_nil ?_;(repeat (any_goals (first | go_big_quiet_step (fail) | quiet_step (fail) | (refine wpQuiet_step (fun K hK=>?_);go_simp;split <;> (refine hK _ ?_;clear hK K)))));(all_goals (refine wpQuiet_nil (fun nq=>?_))))
      have HB:Below w1.heap.size w1 (w1.drewN nq):=below_drewN (Below.refl _ _) _
      have H0:RdR (w1.drewN nq) base (.slice (some ⟨b,0,none⟩) n c) n F':=RdR.off (X:=fun _=>False) HM.out.2.1 (Off.of_below HB) (fun _ _ h=>h)
      have H1:=Lib.hid ((H0.put hk1 ⟨b1,b2,b3,b4,b5,b6,b7,b8,b9,b10,b11,b12,b13,b14,b15,b16,b17⟩).put hk0 ⟨a1,a2,a3,a4,a5,a6,a7,a8,a9,a10,a11,a12,a13,a14,a15,a16,a17⟩)
      have O1:=Lib.hid (off_putCells (X:=fun k=>k = b) rfl (rds ⟨a1,a2,a3,a4,a5,a6,a7,a8,a9,a10,a11,a12,a13,a14,a15,a16,a17⟩) ((k) * 13) _ (off_putCells (X:=fun k=>k = b) rfl (rds ⟨b1,b2,b3,b4,b5,b6,b7,b8,b9,b10,b11,b12,b13,b14,b15,b16,b17⟩) ((k+1) * 13) _ (HM.out.2.2.trans (Off.of_below HB) (fun _ _ h=>h))))
      have ES:Hid (swapR F' (k+1) (k) = upd (upd F' (k+1) ⟨b1,b2,b3,b4,b5,b6,b7,b8,b9,b10,b11,b12,b13,b14,b15,b16,b17⟩) (k) ⟨a1,a2,a3,a4,a5,a6,a7,a8,a9,a10,a11,a12,a13,a14,a15,a16,a17⟩):=Lib.hid (by unfold swapR;rw[←HX.out,←HY.out])
      have G1:=Lib.hid (And.intro (HM.out.1.swap hk1 hk0) (And.intro (by rw[ES.out];exact H1.out) O1.out:RdR _ base (.slice (some ⟨b,0,none⟩) n c) n (swapR F' (k+1) (k))∧Off (fun k=>k = b) w _))
      clear H0 HB H1 O1 ES
      go_wp2_with fail
      refine onlyN_intro ?_
      go_wp2_with fail
      go_roundw
      case rel=>exact ⟨k,swapR F' (k+1) k,by go_num,by omega,G1⟩
      case measure=>simp [intOf] <;> omega
     ·have t4:decide (r < 0) = false:=decide_eq_false hr
      go_wp2_with fail
      refine onlyN_intro ?_
      go_wp2_with fail
      go_roundw
      case rel=>exact ⟨i+1,F',by go_num,by omega,HM⟩
      case measure=>simp [intOf] <;> omega
    ·have t2:decide ((j:Int) > (a:Int)) = false:=decide_eq_false (by omega)
     have t3:decide ((a:Int) < (j:Int)) = false:=decide_eq_false (by omega)
     go_wp2_with fail
     (refine region_all (fun i:Nat=>World.drewN _ i) mixed (by kernel_rfl) ⟨1,rfl⟩ ?_;(repeat (any_goals (first | go_big_quiet_step (fail) | quiet_step (fail) | (refine wpQuiet_step (fun K hK=>?_);go_simp;split <;> (refine hK _ ?_;clear hK K)))));(all_goals (refine wpQuiet_nil (fun nq=>?_))))
     have bq1:Below wr.heap.size wr (wr.drewN nq):=below_drewN (Below.refl _ _) _
     have HM:Hid (From n F F'∧RdR (wr.drewN nq) base (.slice (some ⟨b,0,none⟩) n c) n F'∧Off (fun k=>k = b) w (wr.drewN nq)):=Lib.hid ⟨HL.out.1,RdR.off (X:=fun _=>False) HL.out.2.1 (Off.of_below bq1) (fun _ _ h=>h),HL.out.2.2.trans (Off.of_below bq1) (fun _ _ h=>h)⟩
     clear bq1
     go_wp2_with fail
     go_roundw
     case rel=>exact ⟨i+1,F',by go_num,by omega,HM⟩
     case measure=>simp [intOf] <;> omega
  ·have t1:decide ((i:Int) < (d:Int)) = false:=decide_eq_false (by omega)
   go_wp2_with fail
   go_returns
   exact ⟨rfl,F0,HREL.out⟩
end Go.Proofs.YtdpoppilnokniaaGreatDoor
