/- Theorems of this seat. -/
import Derived.Test.YtdpoppilnokniaaGreatDoorWFLW
import Derived.Test.YtdpoppilnokniaaGreatDoorWPRX
import Derived.Laws.CopyOwn
namespace Go.Proofs.YtdpoppilnokniaaGreatDoor
open Go.RowKit Go.ChangeShapes Go.WideShapes Go.Deep
set_option linter.unusedVariables false
set_option linter.unusedSimpArgs false
set_option linter.unnecessarySimpa false
def cntW (w:World) (q:Nat):Nat→Nat
 | 0=>0
 | n+1=>cntW w q n+(match w.cell? ⟨q,n,none⟩ with | some (.bool false)=>1 | _=>0)
theorem cntW_row {w:World}{q p:Nat}{H:Nat→Bool}(h:∀ j,j < p→w.cell? ⟨q,j,none⟩ = some (.bool (H j))):∀ n,n≤p→cntW w q n = cnt (fun i=>!H i) n
 | 0,_=>rfl
 | n+1,hn=>by
  unfold cntW cnt
  rw[cntW_row h n (by omega),h n (by omega)]
  cases H n <;> rfl
def smE (X:Nat→Int) (least:Int) (i:Nat):Bool:=decide (1≤X i) && decide (X i < least)
def smU (X:Nat→Int) (least:Int) (j:Nat):Nat→Bool:=fun i=>if i < j then smE X least i else false
structure HidM (w:World) (s:Nat) (co:Option Addr) (cc:Nat) (X:Nat→Int) (least:Int) (p qt qh base:Nat) (H:Nat→Bool) (wr:World):Prop where
 box:wr.heap[qt]? = some (.cells #[.int .i64 s,.int .i64 s,.slice co p cc] 37 (0,0))
 row:Row wr base 4 1 (.slice (some ⟨qh,0,none⟩) p p) p (boR H)
 bel:Below w.heap.size w wr
 one:least = 1→∀ i,i < p→H i = false
theorem HidM.below {w wr w':World}{s:Nat}{co:Option Addr}{cc:Nat}{X:Nat→Int}{least:Int}{p qt qh base:Nat}{H:Nat→Bool}(h:HidM w s co cc X least p qt qh base H wr) (hb:Below wr.heap.size wr w'):HidM w s co cc X least p qt qh base H w' :=
 {h with
  box:=(hb.block _ (block_lt h.box)).trans h.box
  row:=Row.off (X:=fun _=>False) h.row (Off.of_below hb) (fun _ _ h=>h)
  bel:=h.bel.trans (hb.mono h.bel.size) }
def HidR (s:Nat) (p:Nat) (X:Nat→Int) (least wd:Int) (base:Nat) (v:Value) (r:Int) (w':World):Prop :=
 (r = 0→SCk s p X∧∃ H:Nat→Bool,Row w' base 4 1 v p (boR H)∧(∀ i,i < p→H i = true→Wide X H wd i)∧(least = 1→∀ i,i < p→H i = false)) ∧
 (SCk s p X→least = 1→0≤wd→wd≤65536→r = 0)
def HidP (s:Nat) (p:Nat) (X:Nat→Int) (least wd:Int) (base:Nat) (e:Ending) (w':World):Prop :=
 ∃ (v:Value) (r:Int),e = .returned (.tuple #[v,.int .i64 r])∧HidR s p X least wd base v r w'
set_option maxRecDepth 8000 in
set_option maxHeartbeats 32000000 in
theorem Hide23 (s p:Nat) (co:Option Addr) (cc:Nat) (X:Nat→Int) (least wd:Int) (w:World) (h:Sl w 1 co p cc (nuR X)) (hq:(s = 2∧p = 4)∨least = 1) (hp4:p≤4) :
  Calls Tryz.prog 23 #[.agg #[.int .i64 s,.int .i64 s,.slice co p cc],.int .i64 least,.int .i64 wd] w fun e w'=>HidP s p X least wd w.heap.size e w'∧Below w.heap.size w w':=by
 have hlm:=h.hm
 have hlc:=h.hc
 have B0:Hid (Below w.heap.size w (w.alloc (.cells #[.int .i64 s,.int .i64 s,.slice co p cc] 37))):=Lib.hid (by (repeat' (first | with_reducible (first | exact Below.refl _ _ | assumption | refine Below.drew ?_ | refine below_drewN ?_ _ | refine Below.alloc ?_ ?_ _ | refine Below.setCell ?_ ?_ _) | go_size)));have X0:=Lib.hid (al_at w (.cells #[.int .i64 s,.int .i64 s,.slice co p cc] 37) rfl);obtain ⟨w1,hw0⟩:∃ w1,w1 = w.alloc (.cells #[.int .i64 s,.int .i64 s,.slice co p cc] 37):=⟨_,rfl⟩;rw[←hw0] at B0 X0;have HW0:=Lib.hid hw0;clear hw0;have z0:=szs (block_lt X0.out);have x0_0:=cell_at X0.out 0;have x0_1:=cell_at X0.out 1;have x0_2:=cell_at X0.out 2
 have C1:=Lib.hid (check43 (s:Int) co p cc X w1 (h.below B0.out))
 have HX:=Lib.hid h
 have HQ:=Lib.hid hq
 clear h hq
 go_enter Tryz.func23,Tryz.ntmps23
 go_simp
 ((repeat ((fail_if_success (rw[←HW0.out]));go_step));rw[←HW0.out])
 go_wp2_with fail
 refine C1.out.mono ?_
 rintro e w2 ⟨⟨r1,r2,rfl,hr⟩,b2⟩
 have B2:=Lib.hid (B0.out.trans (b2.mono B0.out.size))
 have XB:=Lib.hid ((b2.block _ (block_lt X0.out)).trans X0.out)
 have HR:=Lib.hid hr
 clear b2 hr x0_0 x0_1 x0_2 z0 C1 HW0
 have x0:=cell_at XB.out 0
 have x1:=cell_at XB.out 1
 have x2:=cell_at XB.out 2
 have zx:=szs (block_lt XB.out)
 by_cases h1:r1 = 0
 case neg =>
  have t0:(r1 != 0) = true:=by simp [h1]
  have H1:=Lib.hid h1
  clear h1
  go_wp2_with fail
  go_returns
  exact ⟨⟨_,_,rfl,fun e=>absurd e H1.out,fun e=>absurd (HR.out.2 e).1 H1.out⟩,B2.out⟩
 by_cases h2:r2 = 0
 case neg =>
  have t0:(r1 != 0) = false:=by simp [h1]
  have t1:(r2 != 0) = true:=by simp [h2]
  have H2:=Lib.hid h2
  have H1:=Lib.hid h1
  subst h1
  clear h2
  go_wp2_with fail
  go_returns
  exact ⟨⟨_,_,rfl,fun e=>absurd e H2.out,fun e=>absurd (HR.out.2 e).2 H2.out⟩,B2.out⟩
 subst h1 h2
 have SC:=Lib.hid (HR.out.1 ⟨rfl,rfl⟩)
 clear HR
 by_cases h3:least < 1
 ·have t3:decide (least < 1) = true:=decide_eq_true h3
  go_wp2_with fail
  go_returns
  exact ⟨⟨_,_,rfl,fun e=>by omega,fun _ e=>by omega⟩,B2.out⟩
 have t3:decide (least < 1) = false:=decide_eq_false h3
 by_cases h4:least > 1000000
 ·have t4:decide (least > 1000000) = true:=decide_eq_true h4
  have t4o:decide (1000000 < least) = true:=decide_eq_true h4
  go_wp2_with fail
  go_returns
  exact ⟨⟨_,_,rfl,fun e=>by omega,fun _ e=>by omega⟩,B2.out⟩
 have t4:decide (least > 1000000) = false:=decide_eq_false h4
 have t4o:decide (1000000 < least) = false:=decide_eq_false h4
 by_cases h5:wd < 0
 ·have t5:decide (wd < 0) = true:=decide_eq_true h5
  go_wp2_with fail
  go_returns
  exact ⟨⟨_,_,rfl,fun e=>by omega,fun _ _ e=>by omega⟩,B2.out⟩
 have t5:decide (wd < 0) = false:=decide_eq_false h5
 by_cases h6:wd > 65536
 ·have t6:decide (wd > 65536) = true:=decide_eq_true h6
  have t6o:decide (65536 < wd) = true:=decide_eq_true h6
  go_wp2_with fail
  go_returns
  exact ⟨⟨_,_,rfl,fun e=>by omega,fun _ _ _ e=>by omega⟩,B2.out⟩
 have t6:decide (wd > 65536) = false:=decide_eq_false h6
 have t6o:decide (65536 < wd) = false:=decide_eq_false h6
 have hs8:=SC.out.1.1
 have hp64:p≤64:=by
  have h2:=SC.out.1.2.2.1
  have:=Int.mul_le_mul hs8.2 hs8.2 (by omega) (by omega)
  omega
 have hmk:=mkBo p (by omega) w2
 have B3:Hid (Below w2.heap.size w2 (w2.alloc (.cells (madeCells #[.bool false] (p * 1)) 4))):=Lib.hid (by (repeat' (first | with_reducible (first | exact Below.refl _ _ | assumption | refine Below.drew ?_ | refine below_drewN ?_ _ | refine Below.alloc ?_ ?_ _ | refine Below.setCell ?_ ?_ _) | go_size)));have X3:=Lib.hid (al_at w2 (.cells (madeCells #[.bool false] (p * 1)) 4) rfl);obtain ⟨w3,hw3⟩:∃ w3,w3 = w2.alloc (.cells (madeCells #[.bool false] (p * 1)) 4):=⟨_,rfl⟩;rw[←hw3] at B3 X3;have HW3:=Lib.hid hw3;clear hw3;have z3:=szs (block_lt X3.out);skip
 obtain ⟨MB,hmb⟩:∃ MB,MB = madeCells #[.bool false] (p * 1):=⟨_,rfl⟩
 rw[←hmb] at hmk HW3
 obtain ⟨qm,hqm⟩:∃ qm,qm = w2.heap.size:=⟨_,rfl⟩
 rw[←hqm] at X3 z3
 have hqm1:w.heap.size < qm:=by rw[hqm];exact zx.1
 have R3:=Lib.hid (show Row w3 qm 4 1 (.slice (some ⟨qm,0,none⟩) p p) p (boR (smU X least 0)) from Row.congr (Row.of_made rfl (by decide) X3.out (Nat.le_refl _) (by unfold maxLen;omega)) (fun j _=>by show _ = [Value.bool (smU X least 0 j)];unfold smU;rw[if_neg (by omega)]))
 have XB3:=Lib.hid ((B3.out.block _ (block_lt XB.out)).trans XB.out)
 have BB3:=Lib.hid (B2.out.trans (B3.out.mono B2.out.size))
 have HQM:=Lib.hid hqm
 have HMB:=Lib.hid hmb
 have hs3:qm < w3.heap.size:=z3.1
 clear hmb hqm B3 X3
 go_wp2_with fail
 go_simp
 ((repeat ((fail_if_success (rw[←HW3.out]));go_step));rw[←HW3.out])
 rw[←HQM.out]
 clear HW3 HQM hmk HMB MB x0 x1 x2 zx z3 XB B2
 have x0:=cell_at XB3.out 0
 have x1:=cell_at XB3.out 1
 have x2:=cell_at XB3.out 2
 have zx:=szs (block_lt XB3.out)
 go_wp2_with fail
 clear x0 x1 x2 zx
 go_loopw [51] (fun t wr=>∃ j:Nat,t = .int .i64 j∧j≤p∧Hid (Row wr qm 4 1 (.slice (some ⟨qm,0,none⟩) p p) p (boR (smU X least j)))∧Hid (Below qm w3 wr)) (fun t _=>p - (intOf t).toNat)
 case atStart=>exact ⟨0,rfl,Nat.zero_le _,R3,Lib.hid (Below.refl _ _)⟩
 case round =>
  obtain ⟨j,rfl,hj,hrow,hbel⟩:=hrel
  have HR:=hrow
  have HB:=hbel
  clear hrow hbel R3
  by_cases hlt:j < p
  ·have t7:decide ((j:Int) < (p:Int)) = true:=decide_eq_true (by omega)
   have t7n:decide (j < p) = true:=decide_eq_true (by omega)
   have BW:=Lib.hid (BB3.out.trans (HB.out.mono (by omega)))
   obtain ⟨g1,o1,rfl,hg1,c1⟩:=(HX.out.below BW.out).num1 hlt
   have zg1:=szs hg1
   have hjI:(j:Int) < (p:Int):=by omega
   obtain ⟨y,hy⟩:∃ y,y = X j:=⟨_,rfl⟩
   rw[←hy] at c1
   have HY:=Lib.hid hy
   have fm:=fun i=>Row.free HR.out i
   have m0:wr.cell? ⟨qm,j * 1+0,none⟩ = some (.bool (smU X least j j)):=Row.cell HR.out (fun i=>rfl) hlt (j:=0) (by decide)
   rw[Nat.mul_one,Nat.add_zero] at m0
   have zm:=szs (World.ownsRow.lt HR.out qm rfl).2
   clear hg1 hy BW
   by_cases k1:1≤y
   ·have d1:decide (1≤y) = true:=decide_eq_true k1
    by_cases k2:y < least
    ·have d2:decide (y < least) = true:=decide_eq_true k2
     have O1:Off (fun q=>q = qm) wr (wr.setCell ⟨qm,j,none⟩ (.bool true)):=off_set
     have HN:Hid (Row (wr.setCell ⟨qm,j,none⟩ (.bool true)) qm 4 1 (.slice (some ⟨qm,0,none⟩) p p) p (boR (smU X least (j+1)))):=Lib.hid (by
      have h1:=Row.store HR.out (fun i=>rfl) hlt (j:=0) (by decide) (.bool true)
      rw[Nat.mul_one,Nat.add_zero] at h1
      refine Row.congr h1 (fun i _=>?_)
      show _ = [Value.bool (smU X least (j+1) i)]
      have hb:smE X least j = true:=by unfold smE;rw[←HY.out];rw[d1,d2];rfl
      by_cases e:i = j
      ·subst e;rw[upd_same];unfold smU;rw[if_pos (by omega),hb];rfl
      ·rw[upd_ne e];unfold boR smU;by_cases q:i < j
       ·rw[if_pos q,if_pos (by omega)]
       ·rw[if_neg q,if_neg (by omega)])
     have HN2:Hid (Below qm w3 (wr.setCell ⟨qm,j,none⟩ (.bool true))):=Lib.hid (HB.out.trans (O1.toBelow (by have:=HB.out.size;omega) (fun q hq e=>by have e:q = qm:=e;omega)))
     clear O1 HR HB
     go_wp2_with fail
     go_roundw
     case rel=>first | exact ⟨j+1,by go_num,by omega,HN,HN2⟩ | (repeat (first | exact rfl | refine And.intro (⟨j+1,by go_num,by omega,HN,HN2⟩) ?_ | apply Exists.intro)) | trace_state
     case measure=>simp [intOf] <;> omega
    ·have d2:decide (y < least) = false:=decide_eq_false k2
     have O1:Off (fun q=>q = qm) wr (wr.setCell ⟨qm,j,none⟩ (.bool false)):=off_set
     have HN:Hid (Row (wr.setCell ⟨qm,j,none⟩ (.bool false)) qm 4 1 (.slice (some ⟨qm,0,none⟩) p p) p (boR (smU X least (j+1)))):=Lib.hid (by
      have h1:=Row.store HR.out (fun i=>rfl) hlt (j:=0) (by decide) (.bool false)
      rw[Nat.mul_one,Nat.add_zero] at h1
      refine Row.congr h1 (fun i _=>?_)
      show _ = [Value.bool (smU X least (j+1) i)]
      have hb:smE X least j = false:=by unfold smE;rw[←HY.out];rw[d1,d2];rfl
      by_cases e:i = j
      ·subst e;rw[upd_same];unfold smU;rw[if_pos (by omega),hb];rfl
      ·rw[upd_ne e];unfold boR smU;by_cases q:i < j
       ·rw[if_pos q,if_pos (by omega)]
       ·rw[if_neg q,if_neg (by omega)])
     have HN2:Hid (Below qm w3 (wr.setCell ⟨qm,j,none⟩ (.bool false))):=Lib.hid (HB.out.trans (O1.toBelow (by have:=HB.out.size;omega) (fun q hq e=>by have e:q = qm:=e;omega)))
     clear O1 HR HB
     go_wp2_with fail
     go_roundw
     case rel=>first | exact ⟨j+1,by go_num,by omega,HN,HN2⟩ | (repeat (first | exact rfl | refine And.intro (⟨j+1,by go_num,by omega,HN,HN2⟩) ?_ | apply Exists.intro)) | trace_state
     case measure=>simp [intOf] <;> omega
   ·have d1:decide (1≤y) = false:=decide_eq_false k1
    have O1:Off (fun q=>q = qm) wr (wr.setCell ⟨qm,j,none⟩ (.bool false)):=off_set
    have HN:Hid (Row (wr.setCell ⟨qm,j,none⟩ (.bool false)) qm 4 1 (.slice (some ⟨qm,0,none⟩) p p) p (boR (smU X least (j+1)))):=Lib.hid (by
     have h1:=Row.store HR.out (fun i=>rfl) hlt (j:=0) (by decide) (.bool false)
     rw[Nat.mul_one,Nat.add_zero] at h1
     refine Row.congr h1 (fun i _=>?_)
     show _ = [Value.bool (smU X least (j+1) i)]
     have hb:smE X least j = false:=by unfold smE;rw[←HY.out];rw[d1];rfl
     by_cases e:i = j
     ·subst e;rw[upd_same];unfold smU;rw[if_pos (by omega),hb];rfl
     ·rw[upd_ne e];unfold boR smU;by_cases q:i < j
      ·rw[if_pos q,if_pos (by omega)]
      ·rw[if_neg q,if_neg (by omega)])
    have HN2:Hid (Below qm w3 (wr.setCell ⟨qm,j,none⟩ (.bool false))):=Lib.hid (HB.out.trans (O1.toBelow (by have:=HB.out.size;omega) (fun q hq e=>by have e:q = qm:=e;omega)))
    clear O1 HR HB
    go_wp2_with fail
    go_roundw
    case rel=>first | exact ⟨j+1,by go_num,by omega,HN,HN2⟩ | (repeat (first | exact rfl | refine And.intro (⟨j+1,by go_num,by omega,HN,HN2⟩) ?_ | apply Exists.intro)) | trace_state
    case measure=>simp [intOf] <;> omega
  ·have t7:decide ((j:Int) < (p:Int)) = false:=decide_eq_false (by omega)
   have t7n:decide (j < p) = false:=decide_eq_false (by omega)
   obtain rfl:j = p:=by omega
   have hmk:=mkBo j (by omega) wr
   have B5:Hid (Below wr.heap.size wr (wr.alloc (.cells (madeCells #[.bool false] (j * 1)) 4))):=Lib.hid (by (repeat' (first | with_reducible (first | exact Below.refl _ _ | assumption | refine Below.drew ?_ | refine below_drewN ?_ _ | refine Below.alloc ?_ ?_ _ | refine Below.setCell ?_ ?_ _) | go_size)));have X5:=Lib.hid (al_at wr (.cells (madeCells #[.bool false] (j * 1)) 4) rfl);obtain ⟨w5,hw5⟩:∃ w5,w5 = wr.alloc (.cells (madeCells #[.bool false] (j * 1)) 4):=⟨_,rfl⟩;rw[←hw5] at B5 X5;have HW5:=Lib.hid hw5;clear hw5;have z5:=szs (block_lt X5.out);skip
   obtain ⟨MB,hmb⟩:∃ MB,MB = madeCells #[.bool false] (j * 1):=⟨_,rfl⟩
   rw[←hmb] at hmk HW5 X5
   obtain ⟨qh,hqh⟩:∃ qh,qh = wr.heap.size:=⟨_,rfl⟩
   rw[←hqh] at X5 z5
   have HQH:=Lib.hid hqh
   have HMB:=Lib.hid hmb
   have hms:MB.size = j:=by rw[hmb,size_madeCells];omega
   have hqh1:qm < qh:=by rw[hqh];exact (World.ownsRow.lt HR.out qm rfl).2
   have RM:=Lib.hid (Row.off (X:=fun _=>False) HR.out (Off.of_below B5.out) (fun _ _ h=>h))
   have XB5:=Lib.hid ((B5.out.block _ (Nat.lt_of_lt_of_le (block_lt XB3.out) HB.out.size)).trans ((HB.out.block _ (by omega)).trans XB3.out))
   have BB5:=Lib.hid ((BB3.out.trans (HB.out.mono (by omega))).trans (B5.out.mono (by have:=(BB3.out.trans (HB.out.mono (by omega))).size;omega)))
   clear hmb hqh HB HR B5
   go_wp2_with fail
   go_simp
   ((repeat ((fail_if_success (rw[←HW5.out]));go_step));rw[←HW5.out])
   rw[←HQH.out]
   clear HW5 HQH hmk
   have hle5:qh≤w5.heap.size:=Nat.le_of_lt (block_lt X5.out)
   obtain ⟨CS,hcs⟩:∃ CS,CS = flat (boR (smU X least j)) j:=⟨_,rfl⟩
   have hcl:CS.length = j:=by rw[hcs,flat_len (s:=1) (fun i=>rfl)];omega
   have HCS:=Lib.hid hcs
   have hsrc:∀ (i:Nat) (v:Value),CS[i]? = some v→w5.cell? ((⟨qm,0,none⟩:Addr).add i) = some v:=fun i v hv=>by
    rw[hcs] at hv
    exact World.ownsRow.cells RM.out rfl i v hv
   have hone:∀ v∈CS,v.oneCell' = true:=fun v hv=>by
    rw[hcs] at hv
    obtain ⟨i,hi⟩:=List.mem_iff_getElem?.1 hv
    have hl:i < j:=by
     have:=(List.getElem?_eq_some_iff.1 hi).1
     rw[flat_len (s:=1) (fun i=>rfl)] at this
     omega
    have:=flat_get (f:=boR (smU X least j)) (s:=1) (fun i=>rfl) (j:=0) (by decide) hl
    rw[Nat.mul_one,Nat.add_zero,hi] at this
    cases this
    rfl
   have hrun:=run_copy_row (P:=Tryz.prog) w5 38 38 3 4 qh 0 j j ⟨qm,0,none⟩ j j MB 4 CS Tryz.underlying38 (by kernel_rfl) X5.out (by rw[hcl];exact (Nat.min_self _).symm) hsrc (by rw[hcl,hms];omega) hone
   have hset:=setRow_heap w5 qh MB (MB.toList.take 0 ++ CS ++ MB.toList.drop (0+CS.length)).toArray 4 (0,0) X5.out
   have hbel:=below_setRow (Below.refl qh w5) (Nat.le_refl qh) (MB.toList.take 0 ++ CS ++ MB.toList.drop (0+CS.length)).toArray
   obtain ⟨w6,hw6⟩:∃ w6,w6 = w5.setRow qh (MB.toList.take 0 ++ CS ++ MB.toList.drop (0+CS.length)).toArray:=⟨_,rfl⟩
   rw[←hw6] at hrun hset hbel
   have e8:(MB.toList.take 0 ++ CS ++ MB.toList.drop (0+CS.length)) = CS:=by
    rw[List.take_zero,List.nil_append,List.drop_eq_nil_of_le (by rw[Array.length_toList,hms,hcl];omega),List.append_nil]
   rw[e8,HCS.out] at hset
   have R6:Row w6 qm 4 1 (.slice (some ⟨qh,0,none⟩) j j) j (boR (smU X least j)):=Row.of_block hset (by omega) (fun i=>rfl) (by simp) (by unfold maxLen;omega)
   have M6:Hid (HidM w s co cc X least j w.heap.size qh qm (smU X least j) w6):=Lib.hid
    {box:=(hbel.block _ (by omega)).trans XB5.out
     row:=R6
     bel:=BB5.out.trans (hbel.mono (by omega))
     one:=fun e i hi=>by
      unfold smU
      rw[if_pos hi]
      unfold smE
      rw[e]
      by_cases q:1≤X i
      ·rw[decide_eq_true q,decide_eq_false (by omega)];rfl
      ·rw[decide_eq_false q];rfl }
   clear hw6 hset hbel e8 R6 hsrc hone HCS RM XB5 BB5 X5 HMB hms
   rw[hrun]
   clear hrun
   go_wp2_with fail
   have HX1:=Lib.hid SC.out.2.1
   go_loopw [14] (fun t wr=>Hid (∃ H:Nat→Bool,HidM w s co cc X least j w.heap.size qh qm H wr)) (fun _ wr=>cntW wr qh j)
   case atStart=>exact Lib.hid ⟨_,M6.out⟩
   case round =>
    have HP:=hrel
    clear hrel M6
    obtain ⟨H,hm⟩:=HP.out
    have HM:=Lib.hid hm
    clear hm HP
    have hsl:Sl wr 1 (some ⟨qh,0,none⟩) j j (boR H):=by
     obtain ⟨ao',c',e,h⟩:=Row.toSl HM.out.row (fun _=>rfl)
     cases e
     exact h
    have CU:=Lib.hid (unsafe44 s j co cc X (some ⟨qh,0,none⟩) j H wd wr (HX.out.below HM.out.bel) hsl hp4 (fun i hi hh=>by
     rcases HQ.out with ⟨e1,e2⟩ | e1
     ·exact ⟨e1,e2,fun k hk=>⟨HX1.out k (by omega),sumI_mono HX1.out (by omega) SC.out.2.2⟩⟩
     ·have:=HM.out.one e1 i hi
      rw[hh] at this;cases this))
    have hcw:∀ i,i < j→wr.cell? ⟨qh,i,none⟩ = some (.bool (H i)):=fun i hi=>by
     have:=Row.cell HM.out.row (fun i=>rfl) hi (j:=0) (by decide)
     rw[Nat.mul_one,Nat.add_zero] at this
     exact this
    have HCW:=Lib.hid (cntW_row hcw j (Nat.le_refl _))
    clear hcw hsl
    have x0:=cell_at HM.out.box 0
    have x1:=cell_at HM.out.box 1
    have x2:=cell_at HM.out.box 2
    have zx:=szs (block_lt HM.out.box)
    go_wp2_with fail
    refine CU.out.mono ?_
    rintro e w7 ⟨hu,b7⟩
    have M7:=Lib.hid (HM.out.below b7)
    clear x0 x1 x2 zx b7 CU HM
    rcases hu with ⟨rfl,hw⟩ | ⟨i,rfl,hi,hhi⟩
    ·have HW:=Lib.hid hw
     clear hw
     go_wp2_with fail
     go_returns
     exact ⟨⟨_,_,rfl,fun _=>⟨SC.out,H,Row.base_mono M7.out.row (by omega),HW.out,M7.out.one⟩,fun _ _ _ _=>rfl⟩,M7.out.bel⟩
    ·have HHI:=Lib.hid hhi
     clear hhi
     have hsl:Sl w7 1 (some ⟨qh,0,none⟩) j j (boR H):=by
      obtain ⟨ao',c',e,h⟩:=Row.toSl M7.out.row (fun _=>rfl)
      cases e
      exact h
     have CX:=Lib.hid (next45 s j (.slice co j cc) co j cc rfl (some ⟨qh,0,none⟩) j H i w7 hsl (by omega) (by omega) (by omega))
     clear hsl
     have d0:decide ((i:Int) < 0) = false:=decide_eq_false (by omega)
     have x0:=cell_at M7.out.box 0
     have x1:=cell_at M7.out.box 1
     have x2:=cell_at M7.out.box 2
     have zx:=szs (block_lt M7.out.box)
     go_wp2_with fail
     refine CX.out.mono ?_
     rintro e w8 ⟨hx,b8⟩
     have M8:=Lib.hid (M7.out.below b8)
     clear x0 x1 x2 zx b8 CX M7
     rcases hx with rfl | ⟨k,rfl,hk,hhk⟩
     ·go_wp2_with fail
      go_returns
      exact ⟨⟨_,_,rfl,fun e=>by omega,fun _ e _ _=>by have:=M8.out.one e i hi;rw[HHI.out] at this;cases this⟩,M8.out.bel⟩
     ·have HHK:=Lib.hid hhk
      clear hhk
      have d1:decide ((k:Int) < 0) = false:=decide_eq_false (by omega)
      have fq:=fun i=>Row.free M8.out.row i
      have k0:w8.cell? ⟨qh,k * 1+0,none⟩ = some (.bool (H k)):=Row.cell M8.out.row (fun i=>rfl) hk (j:=0) (by decide)
      rw[Nat.mul_one,Nat.add_zero] at k0
      have zq:=szs (World.ownsRow.lt M8.out.row qh rfl).2
      have hkI:(k:Int) < (j:Int):=by omega
      have O9:Off (fun q=>q = qh) w8 (w8.setCell ⟨qh,k,none⟩ (.bool true)):=off_set
      have R9:Row (w8.setCell ⟨qh,k,none⟩ (.bool true)) qm 4 1 (.slice (some ⟨qh,0,none⟩) j j) j (boR (upd H k true)):=by
       have h1:=Row.store M8.out.row (fun i=>rfl) hk (j:=0) (by decide) (.bool true)
       rw[Nat.mul_one,Nat.add_zero] at h1
       refine Row.congr h1 (fun l _=>?_)
       show _ = [Value.bool (upd H k true l)]
       by_cases e:l = k
       ·subst e;rw[upd_same,upd_same];rfl
       ·rw[upd_ne e,upd_ne e];rfl
      have HN:Hid (HidM w s co cc X least j w.heap.size qh qm (upd H k true) (w8.setCell ⟨qh,k,none⟩ (.bool true))):=Lib.hid
       {box:=(O9.block _ (block_lt M8.out.box) (fun e=>by have e:w.heap.size = qh:=e;omega)).trans M8.out.box
        row:=R9
        bel:=M8.out.bel.trans (O9.toBelow M8.out.bel.size (fun q hq e=>by have e:q = qh:=e;omega))
        one:=fun e=>absurd (M8.out.one e i hi) (by rw[HHI.out];decide) }
      have HME:Hid (cntW (w8.setCell ⟨qh,k,none⟩ (.bool true)) qh j < cntW wr qh j):=Lib.hid (by
       have hcw:∀ i,i < j→(w8.setCell ⟨qh,k,none⟩ (.bool true)).cell? ⟨qh,i,none⟩ = some (.bool (upd H k true i)):=fun i hi=>by
        have:=Row.cell R9 (fun i=>rfl) hi (j:=0) (by decide)
        rw[Nat.mul_one,Nat.add_zero] at this
        exact this
       rw[cntW_row hcw j (Nat.le_refl _),HCW.out]
       have h2:=cnt_drop (q:=fun i=>!H i) (k:=k) (by show (!H k) = true;rw[HHK.out];rfl) hk
       have h3:cnt (fun i=>!upd H k true i) j = cnt (upd (fun i=>!H i) k false) j:=cnt_congr (fun i _=>by
        by_cases e:i = k
        ·subst e;rw[upd_same,upd_same];rfl
        ·rw[upd_ne e,upd_ne e])
       rw[h3]
       omega)
      clear O9 R9 M8
      go_wp2_with fail
      go_roundw
      case rel=>exact Lib.hid ⟨_,HN.out⟩
      case measure=>exact HME.out
end Go.Proofs.YtdpoppilnokniaaGreatDoor
