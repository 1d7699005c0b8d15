/- Theorems of this seat. -/
import Derived.Test.YtdpoppilnokniaaGreatDoorWFLY
namespace Go.Proofs.YtdpoppilnokniaaGreatDoor
open Go.RowKit Go.ChangeShapes Go.WideShapes Go.Deep
set_option linter.unusedVariables false
set_option linter.unusedSimpArgs false
set_option linter.unnecessarySimpa false
theorem infoStp:(Tryz.prog.info? 205).map (fun i=>(i.zero,i.size,i.bytes)) = some (some (.agg #[.int .i64 0,.int .i64 0,.int .i64 0,.bool false,.bool false,.int .i64 0]),6,40):=by kernel_rfl
theorem mkStp (n:Nat) (hn:n≤1000) (w:World):(Instr.makeSlice 202 (.int .i64 n) (.int .i64 n)).run Tryz.prog w = .ok (.slice (some ⟨w.heap.size,0,none⟩) n n) (w.alloc (.cells (madeCells #[.int .i64 0,.int .i64 0,.int .i64 0,.bool false,.bool false,.int .i64 0] (n * 6)) 205)):=by
 obtain ⟨i,hi,h0,h1,h2⟩:=info_parts infoStp
 have:=run_make (P:=Tryz.prog) w 202 205 i _ Tryz.underlying202 hi h0 .i64 .i64 n n (by omega) (by omega) (by rw[h2];omega) (by omega)
 rw[h1,Int.toNat_natCast] at this
 exact this
def ptrInt (w:World):Value→Nat
 | .pointer (some a)=>(intOf ((w.cell? a).getD undef)).toNat
 | _=>0
structure RchI (A:Nat→Arc) (on:Nat→Int) (m N a:Nat) (S:Nat→Stp) (D:Nat) (g:Bool):Prop where
 ok:StpsOk A on m N a S (D:Int)
 le:D≤N
 more:g = true→D+unk S N+1≤N
def RchP (w0:World) (q1 qs gs N m a:Nat) (A:Nat→Arc) (on:Nat→Int) (c1:Array Value) (s6 s7:Value) (wr:World):Prop :=
 ∃ (qd qg:Nat) (S:Nat→Stp) (D:Nat) (g:Bool),s6 = .pointer (some ⟨qd,0,none⟩)∧s7 = .pointer (some ⟨qg,0,none⟩)∧RchM w0 qs gs qd qg N S (D:Int) g wr∧RchI A on m N a S D g∧wr.heap[q1]? = some (.cells c1 186 (0,0))∧q1 ≠ gs∧q1 ≠ qg
def ReaP (A:Nat→Arc) (on:Nat→Int) (m N a base:Nat) (e:Ending) (w':World):Prop :=
 ∃ (gs:Nat) (S:Nat→Stp) (D:Int),e = .returned (.slice (some ⟨gs,0,none⟩) N N)∧Row w' base 205 6 (.slice (some ⟨gs,0,none⟩) N N) N (stR S)∧StpsOk A on m N a S D
def stp0:Stp:=⟨0,0,0,false,false,0⟩
theorem unk_one {S:Nat→Stp}{a:Nat}(ha:∀ i,i ≠ a→(S i).kn = false) (hk:(S a).kn = true):∀ {n:Nat},unk S n+(if a < n then 1 else 0) = n
 | 0=>by simp [unk]
 | n+1=>by
  have ih:=unk_one ha hk (n:=n)
  unfold unk
  by_cases e:n = a
  ·subst e
   rw[hk]
   simp at ih ⊢
   omega
  ·rw[ha n e]
   simp
   split at ih <;> split <;> omega
theorem rch_start {A:Nat→Arc}{on:Nat→Int}{m N a:Nat}(ha:a < N):RchI A on m N a (upd (fun _=>stp0) a ⟨a,-1,0,false,true,0⟩) 0 true:=by
 have k:∀ i,i ≠ a→(upd (fun _=>stp0) a (⟨a,-1,0,false,true,0⟩:Stp) i).kn = false:=fun i hi=>by rw[upd_ne hi];rfl
 have k2:(upd (fun _=>stp0) a (⟨a,-1,0,false,true,0⟩:Stp) a).kn = true:=by rw[upd_same]
 refine ⟨⟨ha,upd_same _ _ _,(fun b hb hba hk=>by rw[k b hba] at hk;cases hk),fun b hb hk=>?_⟩,Nat.zero_le _,fun _=>?_⟩
 ·by_cases e:b = a
  ·subst e;rw[upd_same];exact ⟨Int.le_refl _,Int.le_refl _⟩
  ·rw[k b e] at hk;cases hk
 ·have:=unk_one k k2 (n:=N)
  rw[if_pos ha] at this
  omega
set_option maxRecDepth 8000 in
set_option maxHeartbeats 16000000 in
theorem reach125 (N m a:Nat) (ao:Option Addr) (ac:Nat) (A:Nat→Arc) (oo:Option Addr) (oc:Nat) (on:Nat→Int) (w:World)
  (hA:Sl w 4 ao m ac (arR A)) (hO:Sl w 1 oo m oc (nuR on)) (ok:NetOk N m A) (hc:∀ j,j < m→0≤on j∧on j≤(A j).c) (ha:a < N) :
  Calls Tryz.prog 125 #[.agg #[.int .i64 N,.slice ao m ac,.slice oo m oc],.int .i64 a] w fun e w'=>ReaP A on m N a w.heap.size e w'∧Below w.heap.size w w':=by
 have hN:=ok.nodes.2
 have B0:Hid (Below w.heap.size w (w.alloc (.cells #[.int .i64 N,.slice ao m ac,.slice oo m oc] 186))):=Lib.hid (by (repeat' (first | with_reducible (first | exact Below.refl _ _ | assumption | refine Below.drew ?_ | refine below_drewN ?_ _ | refine Below.alloc ?_ ?_ _ | refine Below.setCell ?_ ?_ _) | go_size)));have X0:=Lib.hid (al_at w (.cells #[.int .i64 N,.slice ao m ac,.slice oo m oc] 186) rfl);obtain ⟨w1,hw0⟩:∃ w1,w1 = w.alloc (.cells #[.int .i64 N,.slice ao m ac,.slice oo m oc] 186):=⟨_,rfl⟩;rw[←hw0] at B0 X0;have HW0:=Lib.hid hw0;clear hw0;have z0:=szs (block_lt X0.out);have x0_0:=cell_at X0.out 0;have x0_1:=cell_at X0.out 1;have x0_2:=cell_at X0.out 2
 have hmk:=mkStp N (by omega) w1
 have B1:Hid (Below w1.heap.size w1 (w1.alloc (.cells (madeCells #[.int .i64 0,.int .i64 0,.int .i64 0,.bool false,.bool false,.int .i64 0] (N * 6)) 205))):=Lib.hid (by (repeat' (first | with_reducible (first | exact Below.refl _ _ | assumption | refine Below.drew ?_ | refine below_drewN ?_ _ | refine Below.alloc ?_ ?_ _ | refine Below.setCell ?_ ?_ _) | go_size)));have X1:=Lib.hid (al_at w1 (.cells (madeCells #[.int .i64 0,.int .i64 0,.int .i64 0,.bool false,.bool false,.int .i64 0] (N * 6)) 205) rfl);obtain ⟨w2,hw1⟩:∃ w2,w2 = w1.alloc (.cells (madeCells #[.int .i64 0,.int .i64 0,.int .i64 0,.bool false,.bool false,.int .i64 0] (N * 6)) 205):=⟨_,rfl⟩;rw[←hw1] at B1 X1;have HW1:=Lib.hid hw1;clear hw1;have z1:=szs (block_lt X1.out);skip
 obtain ⟨MS,hms⟩:∃ MS,MS = madeCells #[.int .i64 0,.int .i64 0,.int .i64 0,.bool false,.bool false,.int .i64 0] (N * 6):=⟨_,rfl⟩
 rw[←hms] at hmk HW1
 obtain ⟨gs,hgs⟩:∃ gs,gs = w1.heap.size:=⟨_,rfl⟩
 rw[←hgs] at X1 z1
 have R2:Row w2 w.heap.size 205 6 (.slice (some ⟨gs,0,none⟩) N N) N (fun _=>sts stp0):=Row.congr (Row.of_made rfl (by decide) X1.out (by have:=B0.out.size;omega) (by unfold maxLen;omega)) (fun j _=>rfl)
 have h1g:w.heap.size < gs:=by rw[hgs];exact z0.1
 have B2:Hid (Below w2.heap.size w2 (w2.alloc (.cells #[.slice (some ⟨gs,0,none⟩) N N] 202))):=Lib.hid (by (repeat' (first | with_reducible (first | exact Below.refl _ _ | assumption | refine Below.drew ?_ | refine below_drewN ?_ _ | refine Below.alloc ?_ ?_ _ | refine Below.setCell ?_ ?_ _) | go_size)));have X2:=Lib.hid (al_at w2 (.cells #[.slice (some ⟨gs,0,none⟩) N N] 202) rfl);obtain ⟨w3,hw2⟩:∃ w3,w3 = w2.alloc (.cells #[.slice (some ⟨gs,0,none⟩) N N] 202):=⟨_,rfl⟩;rw[←hw2] at B2 X2;have HW2:=Lib.hid hw2;clear hw2;have z2:=szs (block_lt X2.out);have x2_0:=cell_at X2.out 0
 obtain ⟨qs,hqs⟩:∃ qs,qs = w2.heap.size:=⟨_,rfl⟩
 rw[←hqs] at X2 x2_0 z2
 have R3:=Lib.hid (Row.off (X:=fun _=>False) R2 (Off.of_below B2.out) (fun _ _ h=>h))
 have h2g:gs < qs:=by rw[hqs];exact z1.1
 have X03:=Lib.hid ((B2.out.block _ (by rw[←hqs];omega)).trans ((B1.out.block _ (block_lt X0.out)).trans X0.out))
 have B03:=Lib.hid (B0.out.trans ((B1.out.trans (B2.out.mono B1.out.size)).mono B0.out.size))
 have HQS:=Lib.hid hqs
 have HGS:=Lib.hid hgs
 have HA:=Lib.hid hA
 have HO:=Lib.hid hO
 have OK:=Lib.hid ok
 have CP:=Lib.hid hc
 clear hA hO ok hc hms hqs hgs R2 B0 B1 B2 X0 X1
 have hai:(a:Int) < (N:Int):=by omega
 go_enter Tryz.func125,Tryz.ntmps125
 go_simp
 ((repeat ((fail_if_success (rw[←HW0.out]));go_step));rw[←HW0.out])
 go_simp
 ((repeat ((fail_if_success (rw[←HW1.out]));go_step));rw[←HW1.out])
 rw[←HGS.out]
 go_simp
 ((repeat ((fail_if_success (rw[←HW2.out]));go_step));rw[←HW2.out])
 rw[←HQS.out]
 clear HW0 HW1 HW2 HGS HQS hmk MS x0_0 x0_1 x0_2 z0
 have fs:=fun i=>Row.free R3.out i
 have b0:w3.cell? ⟨gs,a * 6+0,none⟩ = some (.int .i64 0):=Row.cell R3.out (fun i=>rfl) ha (j:=0) (by decide)
 rw[Nat.add_zero] at b0
 have b1:w3.cell? ⟨gs,a * 6+1,none⟩ = some (.int .i64 0):=Row.cell R3.out (fun i=>rfl) ha (j:=1) (by decide)
 have b2:w3.cell? ⟨gs,a * 6+2,none⟩ = some (.int .i64 0):=Row.cell R3.out (fun i=>rfl) ha (j:=2) (by decide)
 have b3:w3.cell? ⟨gs,a * 6+3,none⟩ = some (.bool false):=Row.cell R3.out (fun i=>rfl) ha (j:=3) (by decide)
 have b4:w3.cell? ⟨gs,a * 6+4,none⟩ = some (.bool false):=Row.cell R3.out (fun i=>rfl) ha (j:=4) (by decide)
 have b5:w3.cell? ⟨gs,a * 6+5,none⟩ = some (.int .i64 0):=Row.cell R3.out (fun i=>rfl) ha (j:=5) (by decide)
 have zr:=szs (World.ownsRow.lt R3.out gs rfl).2
 have R4:=Row.put R3.out (fun i=>rfl) ha (sts ⟨a,-1,0,false,true,0⟩) rfl
 have O4:=off_putCells (X:=fun q=>q = gs) (g:=gs) rfl (sts ⟨a,-1,0,false,true,0⟩) (a * 6) w3 (Off.refl _ _)
 obtain ⟨w4,hw4⟩:∃ w4,w4 = (((((w3.setCell ⟨gs,a * 6,none⟩ (.int .i64 a)).setCell ⟨gs,a * 6+1,none⟩ (.int .i64 (-1))).setCell ⟨gs,a * 6+2,none⟩ (.int .i64 0)).setCell ⟨gs,a * 6+3,none⟩ (.bool false)).setCell ⟨gs,a * 6+4,none⟩ (.bool true)).setCell ⟨gs,a * 6+5,none⟩ (.int .i64 0):=⟨_,rfl⟩
 have R5:Hid (Row w4 w.heap.size 205 6 (.slice (some ⟨gs,0,none⟩) N N) N (stR (upd (fun _=>stp0) a ⟨a,-1,0,false,true,0⟩))):=Lib.hid (by
  rw[hw4]
  refine Row.congr R4 (fun i hi=>?_)
  show _ = sts (upd _ a _ i)
  by_cases e:i = a
  ·subst e;rw[upd_same,upd_same]
  ·rw[upd_ne e,upd_ne e])
 have O5:Hid (Off (fun q=>q = gs) w3 w4):=Lib.hid (by rw[hw4];exact O4)
 have HW4:=Lib.hid hw4
 clear hw4 R4 O4
 have HP0:Hid (RchP w w.heap.size qs gs N m a A on #[.int .i64 N,.slice ao m ac,.slice oo m oc] (.pointer (some ⟨w4.heap.size,0,none⟩)) (.pointer (some ⟨w4.heap.size+1,0,none⟩)) ((w4.alloc (.cells #[.int .i64 0] 3)).alloc (.cells #[.bool true] 4))):=Lib.hid (by
  have hb:Below w4.heap.size w4 ((w4.alloc (.cells #[.int .i64 0] 3)).alloc (.cells #[.bool true] 4)):=by (repeat' (first | with_reducible (first | exact Below.refl _ _ | assumption | refine Below.drew ?_ | refine below_drewN ?_ _ | refine Below.alloc ?_ ?_ _ | refine Below.setCell ?_ ?_ _) | go_size))
  have hg4:gs < w4.heap.size:=(World.ownsRow.lt R5.out gs rfl).2
  have hq4:w4.heap[qs]? = some (.cells #[.slice (some ⟨gs,0,none⟩) N N] 202 (0,0)):=(O5.out.block _ (block_lt X2.out) (fun e=>by have e:qs = gs:=e;omega)).trans X2.out
  have hx4:=(O5.out.block _ (block_lt X03.out) (fun e=>by have e:w.heap.size = gs:=e;omega)).trans X03.out
  have hl4:=block_lt hq4
  refine ⟨w4.heap.size,w4.heap.size+1,_,0,true,rfl,rfl,⟨?_,(hb.block _ hl4).trans hq4,Row.off (X:=fun _=>False) R5.out (Off.of_below hb) (fun _ _ h=>h),al_keep (al_at w4 _ rfl) _,al_at _ _ (by simp),by omega,by omega,by omega,by omega,by omega,by omega⟩,rch_start ha,(hb.block _ (block_lt hx4)).trans hx4,by omega,by omega⟩
  have h1:=O5.out.toBelow B03.out.size (fun q hq e=>by have e:q = gs:=e;omega)
  exact (B03.out.trans h1).trans (hb.mono (Nat.le_trans B03.out.size h1.size)))
 go_wp2_with (rw[←HW4.out])
 clear b0 b1 b2 b3 b4 b5 zr fs HW4 x2_0 R3 R5 O5 X03 B03 X2 z2 z1
 go_loopw [6,7] (fun s6 s7 wr=>Hid (RchP w w.heap.size qs gs N m a A on #[.int .i64 N,.slice ao m ac,.slice oo m oc] s6 s7 wr)) (fun s6 _ wr=>N+1 - ptrInt wr s6)
 case atStart=>exact HP0
 case round =>
  have HP:=hrel
  clear hrel HP0
  obtain ⟨qd,qg,S,D,g,rfl,rfl,hm,hi,hx,hx1,hx2⟩:=HP.out
  clear HP
  have HM:=Lib.hid hm
  have HI:=Lib.hid hi
  have XB:=Lib.hid hx
  clear hm hi hx
  have y0:=cell_at HM.out.hdr 0
  have d0:=cell_at HM.out.dep 0
  have g0:=cell_at HM.out.grw 0
  have x0:=cell_at XB.out 0
  have x1:=cell_at XB.out 1
  have x2:=cell_at XB.out 2
  have fg:=fun i=>free_at HM.out.grw i
  have zs:=szs (block_lt HM.out.hdr)
  have zd:=szs (block_lt HM.out.dep)
  have zg:=szs (block_lt HM.out.grw)
  have zx:=szs (block_lt XB.out)
  have hDN:=HI.out.le
  have HP1:Hid (ptrInt wr (.pointer (some ⟨qd,0,none⟩)) = D):=Lib.hid (by unfold ptrInt;dsimp only;rw[cell_at HM.out.dep 0];simp [intOf])
  cases g
  ·go_wp2_with fail
   go_returns
   exact ⟨⟨gs,S,_,rfl,HM.out.row,HI.out.ok⟩,HM.out.bel⟩
  ·have hmo:=HI.out.more rfl
   have hsp:=HM.out.sep
   have O6:Off (fun q=>q = gs∨q = qg) wr (wr.setCell ⟨qg,0,none⟩ (.bool false)):=(Off.refl _ _).setCell (fun _=>Or.inr rfl) _
   have O7:Off (fun q=>q = qg) wr (wr.setCell ⟨qg,0,none⟩ (.bool false)):=off_set
   have M6:=RchM.put HM.out O6 (Row.off HM.out.row O7 (fun q hq e=>by have e:q = qg:=e;have h1:gs = q:=(by simpa [Value.ownBlock] using hq);omega)) (put1 HM.out.grw (.bool false))
   have X6:=(O6.block _ (block_lt XB.out) (fun e=>e.elim hx1 hx2)).trans XB.out
   obtain ⟨w6,hw6⟩:∃ w6,w6 = wr.setCell ⟨qg,0,none⟩ (.bool false):=⟨_,rfl⟩
   rw[←hw6] at M6 X6
   have HW6:=Lib.hid hw6
   have M6:=Lib.hid M6
   have X6:=Lib.hid X6
   clear hw6 O6 O7
   have CL:=Lib.hid (each131 w qs gs qd qg N m a ao ac A oo oc on S D (unk S N) false w6 HA.out HO.out OK.out CP.out M6.out ⟨HI.out.ok.more (by omega),fun _=>⟨HI.out.ok,Nat.le_refl _⟩,(fun e=>by cases e),hmo⟩)
   have v0:=cell_at X6.out 0
   have v1:=cell_at X6.out 1
   have v2:=cell_at X6.out 2
   have zv:=szs (block_lt X6.out)
   clear HM HI
   go_wp2_with (rw[←HW6.out])
   refine CL.out.mono ?_
   rintro e w7 ⟨rfl,S7,g7,r1,r2,r3⟩
   have M7:=Lib.hid r1
   have V7:=Lib.hid r2
   have X7:=Lib.hid ((r3.block _ (block_lt X6.out) (fun e=>e.elim hx1 hx2)).trans X6.out)
   clear r1 r2 r3 CL X6 M6 HW6 v0 v1 v2 zv zs zd zg zx x0 x1 x2 y0 d0 g0 fg XB
   have d0:=cell_at M7.out.dep 0
   have g0:=cell_at M7.out.grw 0
   have zs:=szs (block_lt M7.out.hdr)
   have zd:=szs (block_lt M7.out.dep)
   have zg:=szs (block_lt M7.out.grw)
   have zx:=szs (block_lt X7.out)
   go_wp2_with fail
   have hb:Below w7.heap.size w7 ((w7.alloc (.cells #[.int .i64 ((D:Int)+1)] 3)).alloc (.cells #[.bool g7] 4)):=by (repeat' (first | with_reducible (first | exact Below.refl _ _ | assumption | refine Below.drew ?_ | refine below_drewN ?_ _ | refine Below.alloc ?_ ?_ _ | refine Below.setCell ?_ ?_ _) | go_size))
   have hdep:((w7.alloc (.cells #[.int .i64 ((D:Int)+1)] 3)).alloc (.cells #[.bool g7] 4)).heap[w7.heap.size]? = some (.cells #[.int .i64 ((D+1:Nat):Int)] 3 (0,0)):=al_keep (al_at w7 _ rfl) _
   go_roundw
   case rel =>
    have hg4:gs < w7.heap.size:=(World.ownsRow.lt M7.out.row gs rfl).2
    have hl4:=block_lt M7.out.hdr
    have hlx:=block_lt X7.out
    refine Lib.hid ⟨w7.heap.size,w7.heap.size+1,S7,D+1,g7,rfl,rfl,⟨M7.out.bel.trans (hb.mono M7.out.bel.size),(hb.block _ hl4).trans M7.out.hdr,Row.off (X:=fun _=>False) M7.out.row (Off.of_below hb) (fun _ _ h=>h),hdep,al_at _ _ (by simp),by omega,by omega,by omega,by omega,by omega,by have:=M7.out.bel.size;omega⟩,⟨V7.out.ok,by omega,fun e=>by have:=V7.out.cnt e;omega⟩,(hb.block _ hlx).trans X7.out,by omega,by omega⟩
   case measure =>
    have hp2:ptrInt ((w7.alloc (.cells #[.int .i64 ((D:Int)+1)] 3)).alloc (.cells #[.bool g7] 4)) (.pointer (some ⟨w7.heap.size,0,none⟩)) = D+1:=by unfold ptrInt;dsimp only;rw[cell_at hdep 0];simp [intOf]
    rw[hp2,HP1.out]
    omega
end Go.Proofs.YtdpoppilnokniaaGreatDoor
namespace Go.Proofs.YtdpoppilnokniaaGreatDoor
open Go.RowKit Go.ChangeShapes Go.WideShapes Go.Deep
set_option linter.unusedVariables false
set_option linter.unusedSimpArgs false
set_option linter.unnecessarySimpa false
theorem StpsOk.up {A:Nat→Arc}{on:Nat→Int}{m N a:Nat}{S:Nat→Stp}{D:Int}(h:StpsOk A on m N a S D) {k:Nat}(hk:k < N) (hka:k ≠ a) (hkk:(S k).kn = true):∃ p j:Nat,(S k).fr = (p:Int)∧p < N∧(S p).kn = true∧(S k).dp = (S p).dp+1∧0≤(S p).dp∧(S k).ac = (j:Int)∧j < m∧1≤(S k).rm:=by
 obtain ⟨p,j,q1,q2,q3,q4,q5,q6,q7,q8⟩:=h.node k hk hka hkk
 exact ⟨p,j,q1,q2,q3,q6,(h.dep p q2 q3).1,q4,q5,by omega⟩
structure WayI (S:Nat→Stp) (N b:Nat) (i k:Nat) (mo:Int):Prop where
 eq:k = anc S b i
 lt:k < N
 kn:(S k).kn = true
 rng:1≤mo∧mo≤65536
 all:∀ j,j < i→mo≤(S (anc S b j)).rm
def PshP (A:Nat→Arc) (on:Nat→Int) (m N a b:Nat) (S:Nat→Stp) (base qo:Nat) (w:World) (e:Ending) (w':World):Prop :=
 ∃ (d:Int) (on':Nat→Int),e = .returned (.int .i64 d)∧1≤d∧d≤65536∧Row w' base 3 1 (.slice (some ⟨qo,0,none⟩) m m) m (nuR on')∧PushI A m N a S on on' d b a∧Off (fun q=>q = qo) w w'
set_option maxRecDepth 8000 in
set_option maxHeartbeats 16000000 in
theorem push126 (base N m a b qo gs:Nat) (ao:Option Addr) (ac:Nat) (A:Nat→Arc) (on:Nat→Int) (S:Nat→Stp) (D:Int) (w:World) (base2:Nat)
  (hO:Row w base 3 1 (.slice (some ⟨qo,0,none⟩) m m) m (nuR on)) (hS:Row w base2 205 6 (.slice (some ⟨gs,0,none⟩) N N) N (stR S)) (hne:gs ≠ qo) (hN:N≤64) (hm:m≤512) (hc:∀ j,j < m→0≤on j∧on j≤(A j).c) (hcc:∀ j,j < m→(A j).c≤65536) (ok:StpsOk A on m N a S D) (hb:b < N) (hba:b ≠ a) (hbk:(S b).kn = true) :
  Calls Tryz.prog 126 #[.agg #[.int .i64 N,.slice ao m ac,.slice (some ⟨qo,0,none⟩) m m],.slice (some ⟨gs,0,none⟩) N N,.int .i64 a,.int .i64 b,.int .i64 65536] w (PshP A on m N a b S base qo w):=by
 have B0:Hid (Below w.heap.size w (w.alloc (.cells #[.int .i64 N,.slice ao m ac,.slice (some ⟨qo,0,none⟩) m m] 186))):=Lib.hid (by (repeat' (first | with_reducible (first | exact Below.refl _ _ | assumption | refine Below.drew ?_ | refine below_drewN ?_ _ | refine Below.alloc ?_ ?_ _ | refine Below.setCell ?_ ?_ _) | go_size)));have X0:=Lib.hid (al_at w (.cells #[.int .i64 N,.slice ao m ac,.slice (some ⟨qo,0,none⟩) m m] 186) rfl);obtain ⟨w1,hw0⟩:∃ w1,w1 = w.alloc (.cells #[.int .i64 N,.slice ao m ac,.slice (some ⟨qo,0,none⟩) m m] 186):=⟨_,rfl⟩;rw[←hw0] at B0 X0;have HW0:=Lib.hid hw0;clear hw0;have z0:=szs (block_lt X0.out);have x0_0:=cell_at X0.out 0;have x0_1:=cell_at X0.out 1;have x0_2:=cell_at X0.out 2
 have RO:=Lib.hid (Row.off (X:=fun _=>False) hO (Off.of_below B0.out) (fun _ _ h=>h))
 have RS:=Lib.hid (Row.off (X:=fun _=>False) hS (Off.of_below B0.out) (fun _ _ h=>h))
 have hqo:w.heap.size ≠ qo:=by have:=(World.ownsRow.lt hO qo rfl).2;omega
 have OK:=Lib.hid ok
 have CP:=Lib.hid hc
 have CC:=Lib.hid hcc
 have haN:=ok.aN
 clear hO hS hc hcc ok
 go_enter Tryz.func126,Tryz.ntmps126
 go_simp
 ((repeat ((fail_if_success (rw[←HW0.out]));go_step));rw[←HW0.out])
 go_wp2_with fail
 clear HW0
 go_loopw [4,11] (fun s4 s11 wr=>∃ (i k:Nat) (mo:Int),s4 = .int .i64 mo∧s11 = .int .i64 k∧WayI S N b i k mo∧wr = w1) (fun _ s _=>(S (intOf s).toNat).dp.toNat)
 case atStart=>exact ⟨0,b,65536,rfl,rfl,⟨rfl,hb,hbk,by omega,fun j hj=>absurd hj (Nat.not_lt_zero _)⟩,rfl⟩
 case round =>
  obtain ⟨i,k,mo,rfl,rfl,hw,hwr⟩:=hrel
  obtain rfl:=hwr.symm
  have HW:=Lib.hid hw
  obtain ⟨h1,hk,hkk,hmo,hall⟩:=hw
  clear h1 hall
  have hkI:(k:Int) < (N:Int):=by omega
  by_cases hka:k = a
  ·have d0:((k:Int) != (a:Int)) = false:=by simp [hka]
   have d0n:(k != a) = false:=by simp [hka]
   have HALL:Hid (∀ l,anc S b l ≠ a→mo≤(S (anc S b l)).rm):=Lib.hid (fun l hl=>by
    rcases Nat.lt_or_ge l i with q | q
    ·exact HW.out.all l q
    ·obtain ⟨t,rfl⟩:∃ t,l = i+t:=⟨l - i,by omega⟩
     exact absurd (anc_root OK.out (by rw[←HW.out.eq];exact hka) t) hl)
   have HMO:=Lib.hid hmo
   clear HW hka hkk
   obtain ⟨hmo1,hmo2⟩:=hmo
   go_wp2_with fail
   go_loopw [12] (fun s12 w3=>∃ (i k:Nat) (on':Nat→Int),s12 = .int .i64 k∧k = anc S b i∧k < N∧(S k).kn = true∧Hid (Row w3 base 3 1 (.slice (some ⟨qo,0,none⟩) m m) m (nuR on'))∧Hid (PushI A m N a S on on' mo b k)∧Hid (Off (fun q=>q = qo) w1 w3)) (fun s _=>(S (intOf s).toNat).dp.toNat)
   case atStart=>exact ⟨0,b,on,rfl,rfl,hb,hbk,RO,Lib.hid (PushI.start CP.out),Lib.hid (Off.refl _ _)⟩
   case round =>
    obtain ⟨i,k,on',rfl,hanc,hk,hkk,hr,hpu,hof⟩:=hrel
    have HR:=hr
    have HPU:=hpu
    have HOF:=hof
    have HANC:=Lib.hid hanc
    clear hr hpu hof hanc
    have hkI:(k:Int) < (N:Int):=by omega
    have XR:=Lib.hid ((HOF.out.block _ (block_lt X0.out) hqo).trans X0.out)
    have RS2:=Lib.hid (Row.off RS.out HOF.out (fun q hq e=>by have e:q = qo:=e;have h1:gs = q:=(by simpa [Value.ownBlock] using hq);omega))
    by_cases hka:k = a
    ·have d0:((k:Int) != (a:Int)) = false:=by simp [hka]
     have d0n:(k != a) = false:=by simp [hka]
     have HKA:=Lib.hid hka
     clear hka
     go_wp2_with fail
     go_returns
     refine ⟨mo,on',rfl,hmo1,hmo2,Row.base_mono HR.out (Nat.le_refl _),?_,(Off.of_below B0.out).trans HOF.out (fun q hq e=>e)⟩
     have:=HPU.out
     rw[HKA.out] at this
     exact this
    ·have d0:((k:Int) != (a:Int)) = true:=by simp;omega
     have d0n:(k != a) = true:=by simp [hka]
     obtain ⟨p,j,q1,q2,q3,q4,q5,q6,q7,q8⟩:=OK.out.up hk hka hkk
     have c0:wr.cell? ⟨gs,k * 6+0,none⟩ = some (.int .i64 (S k).fr):=Row.cell RS2.out (fun i=>rfl) hk (j:=0) (by decide)
     rw[Nat.add_zero] at c0
     have c1:wr.cell? ⟨gs,k * 6+1,none⟩ = some (.int .i64 (S k).ac):=Row.cell RS2.out (fun i=>rfl) hk (j:=1) (by decide)
     have c3:wr.cell? ⟨gs,k * 6+3,none⟩ = some (.bool (S k).fw):=Row.cell RS2.out (fun i=>rfl) hk (j:=3) (by decide)
     have v0:wr.cell? ⟨qo,j * 1+0,none⟩ = some (.int .i64 (on' j)):=Row.cell HR.out (fun i=>rfl) q7 (j:=0) (by decide)
     rw[Nat.mul_one,Nat.add_zero] at v0
     rw[q1] at c0
     rw[q6] at c1
     have x0:=cell_at XR.out 0
     have x1:=cell_at XR.out 1
     have x2:=cell_at XR.out 2
     have fo:=fun i=>Row.free HR.out i
     have zs:=szs (World.ownsRow.lt RS2.out gs rfl).2
     have zo:=szs (World.ownsRow.lt HR.out qo rfl).2
     have zx:=szs (block_lt XR.out)
     have hjI:(j:Int) < (m:Int):=by omega
     have hd1:mo≤(S k).rm:=by
      have:=HALL.out i (by rw[←HANC.out];exact hka)
      rw[←HANC.out] at this;exact this
     have hst:=HPU.out.step OK.out hk hka hkk (by omega) hd1 q1 q6
     have HST:=Lib.hid hst
     have hjb:=HST.out.1.cap j q7
     have hjb0:=HPU.out.cap j q7
     have hjc:=CC.out j q7
     rw[upd_same] at hjb
     have hme:((S p).dp).toNat < ((S k).dp).toNat:=by omega
     have HAN2:Hid (p = anc S b (i+1)):=Lib.hid (by show p = (S (anc S b i)).fr.toNat;rw[←HANC.out,q1,Int.toNat_natCast])
     clear hst q1 q6 hd1 q8 HANC
     cases hf:(S k).fw
     ·rw[hf] at c3 hjb
      simp only[Bool.false_eq_true,if_false] at hjb
      go_wp2_with fail
      (refine region_drawn 12 mixed (by kernel_rfl) ?_;simp only[List.take_succ_cons,List.take_zero,List.drop_succ_cons,List.drop_zero];(repeat (any_goals (first | go_big_quiet_step (fail) | quiet_step (fail) | (refine wpQuiet_step (fun K hK=>?_);go_simp;split <;> (refine hK _ ?_;clear hK K)))));(all_goals (refine wpQuiet_nil (fun nq=>?_))))
      have BQ:Hid (Below wr.heap.size wr (wr.drewN nq)):=Lib.hid (by (repeat' (first | with_reducible (first | exact Below.refl _ _ | assumption | refine Below.drew ?_ | refine below_drewN ?_ _ | refine Below.alloc ?_ ?_ _ | refine Below.setCell ?_ ?_ _) | go_size)))
      obtain ⟨w5,hw5⟩:∃ w5,w5 = wr.drewN nq:=⟨_,rfl⟩
      rw[←hw5] at BQ ⊢
      clear hw5
      have R5:=Lib.hid (Row.off (X:=fun _=>False) HR.out (Off.of_below BQ.out) (fun _ _ h=>h))
      have O5:=Lib.hid (HOF.out.trans (Off.of_below BQ.out) (fun q hq h=>h))
      have d0':=cell_kept BQ.out c0
      have v5:=cell_kept BQ.out v0
      have s5:=BQ.out.size
      have zs5:=szs (Nat.lt_of_lt_of_le zs.1 s5)
      have zo5:=szs (Nat.lt_of_lt_of_le zo.1 s5)
      have fo5:=fun i=>Row.free R5.out i
      clear x0 x1 x2 fo zs zo zx c0 c1 c3 v0
      have HN:Hid (Row (w5.setCell ⟨qo,j,none⟩ (.int .i64 (on' j - mo))) base 3 1 (.slice (some ⟨qo,0,none⟩) m m) m (nuR (upd on' j (if (S k).fw = true then on' j+mo else on' j - mo)))):=Lib.hid (by
       have h1:=Row.store R5.out (fun i=>rfl) q7 (j:=0) (by decide) (.int .i64 (on' j - mo))
       rw[Nat.mul_one,Nat.add_zero] at h1
       refine Row.congr h1 (fun i _=>?_)
       show _ = [Value.int .i64 (upd on' j _ i)]
       rw[hf]
       by_cases e:i = j
       ·subst e;rw[upd_same,upd_same];rfl
       ·rw[upd_ne e,upd_ne e];rfl)
      have HO2:Hid (Off (fun q=>q = qo) w1 (w5.setCell ⟨qo,j,none⟩ (.int .i64 (on' j - mo)))):=Lib.hid (O5.out.setCell (fun _=>rfl) _)
      have HP2:=Lib.hid HST.out.1
      have d1:(w5.setCell ⟨qo,j,none⟩ (.int .i64 (on' j - mo))).cell? ⟨gs,k * 6,none⟩ = some (.int .i64 p):=Off.cell (off_set (w:=w5)) d0' hne
      go_wp2_with fail
      go_roundw
      case rel=>exact ⟨i+1,p,_,rfl,HAN2.out,q2,q3,HN,HP2,HO2⟩
      case measure=>simp only[intOf,Int.toNat_natCast];exact hme
     ·rw[hf] at c3 hjb
      simp only[if_true] at hjb
      go_wp2_with fail
      (refine region_drawn 12 mixed (by kernel_rfl) ?_;simp only[List.take_succ_cons,List.take_zero,List.drop_succ_cons,List.drop_zero];(repeat (any_goals (first | go_big_quiet_step (fail) | quiet_step (fail) | (refine wpQuiet_step (fun K hK=>?_);go_simp;split <;> (refine hK _ ?_;clear hK K)))));(all_goals (refine wpQuiet_nil (fun nq=>?_))))
      have BQ:Hid (Below wr.heap.size wr (wr.drewN nq)):=Lib.hid (by (repeat' (first | with_reducible (first | exact Below.refl _ _ | assumption | refine Below.drew ?_ | refine below_drewN ?_ _ | refine Below.alloc ?_ ?_ _ | refine Below.setCell ?_ ?_ _) | go_size)))
      obtain ⟨w5,hw5⟩:∃ w5,w5 = wr.drewN nq:=⟨_,rfl⟩
      rw[←hw5] at BQ ⊢
      clear hw5
      have R5:=Lib.hid (Row.off (X:=fun _=>False) HR.out (Off.of_below BQ.out) (fun _ _ h=>h))
      have O5:=Lib.hid (HOF.out.trans (Off.of_below BQ.out) (fun q hq h=>h))
      have d0':=cell_kept BQ.out c0
      have v5:=cell_kept BQ.out v0
      have s5:=BQ.out.size
      have zs5:=szs (Nat.lt_of_lt_of_le zs.1 s5)
      have zo5:=szs (Nat.lt_of_lt_of_le zo.1 s5)
      have fo5:=fun i=>Row.free R5.out i
      clear x0 x1 x2 fo zs zo zx c0 c1 c3 v0
      have HN:Hid (Row (w5.setCell ⟨qo,j,none⟩ (.int .i64 (on' j+mo))) base 3 1 (.slice (some ⟨qo,0,none⟩) m m) m (nuR (upd on' j (if (S k).fw = true then on' j+mo else on' j - mo)))):=Lib.hid (by
       have h1:=Row.store R5.out (fun i=>rfl) q7 (j:=0) (by decide) (.int .i64 (on' j+mo))
       rw[Nat.mul_one,Nat.add_zero] at h1
       refine Row.congr h1 (fun i _=>?_)
       show _ = [Value.int .i64 (upd on' j _ i)]
       rw[hf]
       by_cases e:i = j
       ·subst e;rw[upd_same,upd_same];rfl
       ·rw[upd_ne e,upd_ne e];rfl)
      have HO2:Hid (Off (fun q=>q = qo) w1 (w5.setCell ⟨qo,j,none⟩ (.int .i64 (on' j+mo)))):=Lib.hid (O5.out.setCell (fun _=>rfl) _)
      have HP2:=Lib.hid HST.out.1
      have d1:(w5.setCell ⟨qo,j,none⟩ (.int .i64 (on' j+mo))).cell? ⟨gs,k * 6,none⟩ = some (.int .i64 p):=Off.cell (off_set (w:=w5)) d0' hne
      go_wp2_with fail
      go_roundw
      case rel=>exact ⟨i+1,p,_,rfl,HAN2.out,q2,q3,HN,HP2,HO2⟩
      case measure=>simp only[intOf,Int.toNat_natCast];exact hme
  ·have d0:((k:Int) != (a:Int)) = true:=by simp;omega
   have d0n:(k != a) = true:=by simp [hka]
   obtain ⟨p,j,q1,q2,q3,q4,q5,q6,q7,q8⟩:=OK.out.up hk hka hkk
   have c0:w1.cell? ⟨gs,k * 6+0,none⟩ = some (.int .i64 (S k).fr):=Row.cell RS.out (fun i=>rfl) hk (j:=0) (by decide)
   rw[Nat.add_zero] at c0
   have c2:w1.cell? ⟨gs,k * 6+2,none⟩ = some (.int .i64 (S k).rm):=Row.cell RS.out (fun i=>rfl) hk (j:=2) (by decide)
   have zr:=szs (World.ownsRow.lt RS.out gs rfl).2
   rw[q1] at c0
   obtain ⟨rm,hrm⟩:∃ rm,rm = (S k).rm:=⟨_,rfl⟩
   rw[←hrm] at c2 q8
   have HRM:=Lib.hid hrm
   have HQ:=Lib.hid (And.intro q1 q4)
   clear hrm q1 q4 q6
   have HN:Hid (WayI S N b (i+1) p (min mo rm)):=Lib.hid ⟨by show p = (S (anc S b i)).fr.toNat;rw[←HW.out.eq,HQ.out.1,Int.toNat_natCast],q2,q3,by omega,fun l hl=>by
    by_cases e:l = i
    ·subst e;rw[←HW.out.eq,←HRM.out];omega
    ·have:=HW.out.all l (by omega);omega⟩
   have hme:((S p).dp).toNat < ((S k).dp).toNat:=by rw[HQ.out.2];omega
   by_cases hmr:mo≤rm
   ·have e1:min mo rm = mo:=by omega
    rw[e1] at HN
    go_wp2_with fail
    go_roundw
    case rel=>exact ⟨i+1,p,mo,rfl,rfl,HN.out,trivial⟩
    case measure=>simp only[intOf,Int.toNat_natCast];exact hme
   ·have e1:min mo rm = rm:=by omega
    rw[e1] at HN
    go_wp2_with fail
    go_roundw
    case rel=>exact ⟨i+1,p,rm,by rw[if_pos (show rm < mo by omega)],rfl,HN.out,trivial⟩
    case measure=>simp only[intOf,Int.toNat_natCast];exact hme
end Go.Proofs.YtdpoppilnokniaaGreatDoor
