/- Theorems of this seat. -/
import Derived.Test.YtdpoppilnokniaaGreatDoorWCHB
import Derived.Test.YtdpoppilnokniaaGreatDoorWPVL
import Derived.Test.YtdpoppilnokniaaGreatDoorWCTY
import Derived.Test.YtdpoppilnokniaaGreatDoorWFLW
namespace Go.Proofs.YtdpoppilnokniaaGreatDoor
open Go.RowKit Go.ChangeShapes Go.WideShapes Go.Deep
set_option linter.unusedVariables false
set_option linter.unusedSimpArgs false
set_option linter.unnecessarySimpa false
theorem tdiv_bound (a:Int) (h:inI a):-9223372036854775808≤a.tdiv 86400∧a.tdiv 86400≤9223372036854775807:=by
 unfold inI at h
 rcases Int.le_total 0 a with e | e
 ·rw[Int.tdiv_eq_ediv_of_nonneg e];omega
 ·have h1:a = -(-a):=by omega
  rw[h1,Int.neg_tdiv,Int.tdiv_eq_ediv_of_nonneg (by omega)]
  omega
structure LeftR (F:Nat→Rid) (k:Int×Int) (j m:Nat) (G:Nat→Nat):Prop where
 le:m≤j
 lt:∀ i,i < m→G i < j
 mono:∀ i l,i < l→l < m→G i < G l
 ents:ents (fun i=>F (G i)) m = (ents F j).filter (fun y=>keyR y != k)
theorem LeftR.keep {F:Nat→Rid}{k:Int×Int}{j m:Nat}{G:Nat→Nat}(h:LeftR F k j m G) (hk:keyR (F j) ≠ k):LeftR F k (j+1) (m+1) (upd G m j) :=
 ⟨by have:=h.le;omega,fun i hi=>by
  by_cases e:i = m
  ·subst e;rw[upd_same];omega
  ·rw[upd_ne e];have:=h.lt i (by omega);omega,fun i l hil hl=>by
  by_cases e:l = m
  ·subst e;rw[upd_same,upd_ne (by omega)];exact h.lt i hil
  ·rw[upd_ne e,upd_ne (by omega)];exact h.mono i l hil (by omega),by
  rw[ents_snoc,ents_snoc,List.filter_append,←h.ents]
  congr 1
  ·exact ents_congr (fun i hi=>by rw[upd_ne (by omega)])
  ·rw[upd_same];simp [hk]⟩
theorem LeftR.drop {F:Nat→Rid}{k:Int×Int}{j m:Nat}{G:Nat→Nat}(h:LeftR F k j m G) (hk:keyR (F j) = k):LeftR F k (j+1) m G :=
 ⟨by have:=h.le;omega,fun i hi=>by have:=h.lt i hi;omega,h.mono,by
  rw[ents_snoc,List.filter_append,←h.ents]
  simp [hk]⟩
set_option maxRecDepth 8000 in
set_option maxHeartbeats 16000000 in
theorem without13 (ro:Option Addr) (n c:Nat) (F:Nat→Rid) (rid day:Int) (w:World) (h:Sl w 13 ro n c (fun i=>rds (F i))) (hn:n≤1000) (hs:∀ i,i < n→inI (F i).s0) :
  Calls Tryz.prog 13 #[.slice ro n c,.int .i64 rid,.int .i64 day] w fun e w'=>(∃ (v:Value) (m:Nat) (G:Nat→Nat),e = .returned v∧Row w' w.heap.size 71 13 v m (fun i=>rds (F (G i)))∧LeftR F (rid,day) n m G)∧Below w.heap.size w w':=by
 have hlm:=h.hm
 have hlc:=h.hc
 have H:=Lib.hid h
 have HS:=Lib.hid hs
 have L0:Hid (LeftR F (rid,day) 0 0 (fun i=>i)):=Lib.hid ⟨Nat.le_refl _,fun i hi=>absurd hi (Nat.not_lt_zero _),fun i l _ hl=>absurd hl (Nat.not_lt_zero _),rfl⟩
 have R0:Hid (Row w w.heap.size 71 13 (.slice none 0 0) 0 (fun i=>rds (F i))):=Lib.hid ⟨rfl,.inl ⟨rfl,rfl⟩⟩
 clear h hs
 go_enter Tryz.func13,Tryz.ntmps13
 go_wp2_with fail
 go_loopw [7,8] (fun s7 s8 wr=>∃ (j m:Nat) (G:Nat→Nat),s8 = .int .i64 j∧j≤n∧Hid (Row wr w.heap.size 71 13 s7 m (fun i=>rds (F (G i))))∧Hid (LeftR F (rid,day) j m G)∧Hid (Below w.heap.size w wr)) (fun _ s _=>n - (intOf s).toNat)
 case atStart=>exact ⟨0,0,fun i=>i,rfl,Nat.zero_le _,R0,L0,Lib.hid (Below.refl _ _)⟩
 case round =>
  obtain ⟨j,m,G,rfl,hj,hrow,hleft,hbel⟩:=hrel
  have HR:=hrow
  have HL:=hleft
  have HB:=hbel
  clear hrow hleft hbel R0 L0
  by_cases hlt:j < n
  ·have d3:decide ((j:Int) < (n:Int)) = true:=decide_eq_true (by omega)
   have d3n:decide (j < n) = true:=decide_eq_true (by omega)
   have hml:=HL.out.le
   obtain ⟨g,o,e9,hcell⟩:=(H.out.below HB.out).cell hlt
   try dsimp only at e9 hcell
   subst e9
   have hS:=HS.out j hlt
   have hT:=tdiv_bound (F j).s0 hS
   by_cases h1:(F j).rid = rid
   ·by_cases h2:(F j).s0.tdiv 86400 = day
    ·have HL2:=Lib.hid (HL.out.drop (show keyR (F j) = (rid,day) by unfold keyR;rw[h1,h2]))
     obtain ⟨y,hy⟩:∃ y,y = F j:=⟨_,rfl⟩
     rw[←hy] at hcell
     have HY:=Lib.hid hy
     clear hy
     obtain ⟨a1,a2,a3,a4,a5,a6,a7,a8,a9,a10,a11,a12,a13,a14,a15,a16,a17⟩:=y
     have e0:wr.cell? ⟨g,o+j * 13,none⟩ = some (.int .i64 a1):=hcell 0 (by decide)
     have e1:wr.cell? ⟨g,o+j * 13+1,none⟩ = some (.int .i64 a2):=hcell 1 (by decide)
     have e2:wr.cell? ⟨g,o+j * 13+2,none⟩ = some (.int .i64 a3):=hcell 2 (by decide)
     have e3:wr.cell? ⟨g,o+j * 13+3,none⟩ = some (.int .i64 a4):=hcell 3 (by decide)
     have e4:wr.cell? ⟨g,o+j * 13+4,none⟩ = some (.int .i64 a5):=hcell 4 (by decide)
     have e5:wr.cell? ⟨g,o+j * 13+5,none⟩ = some (.int .i64 a6):=hcell 5 (by decide)
     have e6:wr.cell? ⟨g,o+j * 13+6,none⟩ = some (.bool a7):=hcell 6 (by decide)
     have e7:wr.cell? ⟨g,o+j * 13+7,none⟩ = some (.slice a8 a9 a10):=hcell 7 (by decide)
     have e8:wr.cell? ⟨g,o+j * 13+8,none⟩ = some (.slice a11 a12 a13):=hcell 8 (by decide)
     have e9':wr.cell? ⟨g,o+j * 13+9,none⟩ = some (.int .i64 a14):=hcell 9 (by decide)
     have e10:wr.cell? ⟨g,o+j * 13+10,none⟩ = some (.int .i64 a15):=hcell 10 (by decide)
     have e11:wr.cell? ⟨g,o+j * 13+11,none⟩ = some (.int .i64 a16):=hcell 11 (by decide)
     have e12:wr.cell? ⟨g,o+j * 13+12,none⟩ = some (.int .i64 a17):=hcell 12 (by decide)
     have zg:=szs (cell_lt e0)
     clear hcell
     have d4:(a2 != rid) = false:=by simp;rw[←h1,←HY.out]
     have hd:a3.tdiv 86400 = day:=by rw[←h2,←HY.out]
     have hdb:inI day:=by rw[←h2];exact hT
     unfold inI at hdb
     have d5:(day != day) = false:=by simp
     clear h1 h2
     go_wp2_with fail
     go_roundw
     case rel=>exact ⟨j+1,m,G,by go_num,by omega,HR,HL2,HB⟩
     case measure=>simp [intOf] <;> omega
    ·have HL2:=Lib.hid (HL.out.keep (show keyR (F j) ≠ (rid,day) from fun e=>h2 (by have:=congrArg Prod.snd e;exact this)))
     obtain ⟨y,hy⟩:∃ y,y = F j:=⟨_,rfl⟩
     rw[←hy] at hcell
     have HY:=Lib.hid hy
     clear hy
     obtain ⟨a1,a2,a3,a4,a5,a6,a7,a8,a9,a10,a11,a12,a13,a14,a15,a16,a17⟩:=y
     have e0:wr.cell? ⟨g,o+j * 13,none⟩ = some (.int .i64 a1):=hcell 0 (by decide)
     have e1:wr.cell? ⟨g,o+j * 13+1,none⟩ = some (.int .i64 a2):=hcell 1 (by decide)
     have e2:wr.cell? ⟨g,o+j * 13+2,none⟩ = some (.int .i64 a3):=hcell 2 (by decide)
     have e3:wr.cell? ⟨g,o+j * 13+3,none⟩ = some (.int .i64 a4):=hcell 3 (by decide)
     have e4:wr.cell? ⟨g,o+j * 13+4,none⟩ = some (.int .i64 a5):=hcell 4 (by decide)
     have e5:wr.cell? ⟨g,o+j * 13+5,none⟩ = some (.int .i64 a6):=hcell 5 (by decide)
     have e6:wr.cell? ⟨g,o+j * 13+6,none⟩ = some (.bool a7):=hcell 6 (by decide)
     have e7:wr.cell? ⟨g,o+j * 13+7,none⟩ = some (.slice a8 a9 a10):=hcell 7 (by decide)
     have e8:wr.cell? ⟨g,o+j * 13+8,none⟩ = some (.slice a11 a12 a13):=hcell 8 (by decide)
     have e9':wr.cell? ⟨g,o+j * 13+9,none⟩ = some (.int .i64 a14):=hcell 9 (by decide)
     have e10:wr.cell? ⟨g,o+j * 13+10,none⟩ = some (.int .i64 a15):=hcell 10 (by decide)
     have e11:wr.cell? ⟨g,o+j * 13+11,none⟩ = some (.int .i64 a16):=hcell 11 (by decide)
     have e12:wr.cell? ⟨g,o+j * 13+12,none⟩ = some (.int .i64 a17):=hcell 12 (by decide)
     have zg:=szs (cell_lt e0)
     clear hcell
     have d4:(a2 != rid) = false:=by simp;rw[←h1,←HY.out]
     obtain ⟨dy,hdy⟩:∃ dy,dy = (F j).s0.tdiv 86400:=⟨_,rfl⟩
     have hd:a3.tdiv 86400 = dy:=by rw[hdy,←HY.out]
     have hdb:inI dy:=by rw[hdy];exact hT
     unfold inI at hdb
     have d5:(dy != day) = true:=by simp;rw[hdy];exact h2
     clear h1 h2 hdy
     have B8:Hid (Below wr.heap.size wr (wr.alloc (.cells #[.int .i64 a1,.int .i64 a2,.int .i64 a3,.int .i64 a4,.int .i64 a5,.int .i64 a6,.bool a7,.slice a8 a9 a10,.slice a11 a12 a13,.int .i64 a14,.int .i64 a15,.int .i64 a16,.int .i64 a17] 71))):=Lib.hid (by (repeat' (first | with_reducible (first | exact Below.refl _ _ | assumption | refine Below.drew ?_ | refine below_drewN ?_ _ | refine Below.alloc ?_ ?_ _ | refine Below.setCell ?_ ?_ _) | go_size)));have X8:=Lib.hid (al_at wr (.cells #[.int .i64 a1,.int .i64 a2,.int .i64 a3,.int .i64 a4,.int .i64 a5,.int .i64 a6,.bool a7,.slice a8 a9 a10,.slice a11 a12 a13,.int .i64 a14,.int .i64 a15,.int .i64 a16,.int .i64 a17] 71) rfl);obtain ⟨w8,hw8⟩:∃ w8,w8 = wr.alloc (.cells #[.int .i64 a1,.int .i64 a2,.int .i64 a3,.int .i64 a4,.int .i64 a5,.int .i64 a6,.bool a7,.slice a8 a9 a10,.slice a11 a12 a13,.int .i64 a14,.int .i64 a15,.int .i64 a16,.int .i64 a17] 71):=⟨_,rfl⟩;rw[←hw8] at B8 X8;have HW8:=Lib.hid hw8;clear hw8;have z8:=szs (block_lt X8.out);skip
     have R8:=Lib.hid (Row.off (X:=fun _=>False) HR.out (Off.of_below B8.out) (fun _ _ h=>h))
     have BB8:=Lib.hid (HB.out.trans (B8.out.mono HB.out.size))
     have hle:w.heap.size≤w8.heap.size:=BB8.out.size
     obtain ⟨q8,hq8⟩:∃ q8,q8 = wr.heap.size:=⟨_,rfl⟩
     rw[←hq8] at X8
     have HQ8:=Lib.hid hq8
     clear hq8
     go_wp2_with (at_builtin;rw[←HW8.out,←HQ8.out];go_loud (refine wpList_append_Rd _ rfl (.tmp 33) (.tmp 38) rfl w.heap.size _ m (fun i=>F (G i)) rfl R8.out q8 ⟨a1,a2,a3,a4,a5,a6,a7,a8,a9,a10,a11,a12,a13,a14,a15,a16,a17⟩ rfl 71 (0,0) X8.out (by omega) hle ?_))
     intro g9 c9 w9 k1 k2 k3 r9 o9
     have R9:Hid (Row w9 w.heap.size 71 13 (.slice (some ⟨g9,0,none⟩) (m+1) c9) (m+1) (fun i=>rds (F (upd G m j i)))):=Lib.hid (Row.congr r9 (fun i hi=>by
      show rds (upd (fun i=>F (G i)) m _ i) = rds (F (upd G m j i))
      by_cases e:i = m
      ·subst e;rw[upd_same,upd_same,HY.out]
      ·rw[upd_ne e,upd_ne e]))
     have B9:=Lib.hid (BB8.out.trans (o9.toBelow hle (fun q hq e=>by have:=(World.ownsRow.lt R8.out q e).1;omega)))
     clear r9 o9 R8 BB8 B8 X8 HQ8 HW8 z8 hle e0 e1 e2 e3 e4 e5 e6 e7 e8 e9' e10 e11 e12 zg HR HL HB
     go_wp2_with fail
     go_roundw
     case rel=>exact ⟨j+1,m+1,upd G m j,by go_num,by omega,R9,HL2,B9⟩
     case measure=>simp [intOf] <;> omega
   ·have HL2:=Lib.hid (HL.out.keep (show keyR (F j) ≠ (rid,day) from fun e=>h1 (by have:=congrArg Prod.fst e;exact this)))
    obtain ⟨y,hy⟩:∃ y,y = F j:=⟨_,rfl⟩
    rw[←hy] at hcell
    have HY:=Lib.hid hy
    clear hy
    obtain ⟨a1,a2,a3,a4,a5,a6,a7,a8,a9,a10,a11,a12,a13,a14,a15,a16,a17⟩:=y
    have e0:wr.cell? ⟨g,o+j * 13,none⟩ = some (.int .i64 a1):=hcell 0 (by decide)
    have e1:wr.cell? ⟨g,o+j * 13+1,none⟩ = some (.int .i64 a2):=hcell 1 (by decide)
    have e2:wr.cell? ⟨g,o+j * 13+2,none⟩ = some (.int .i64 a3):=hcell 2 (by decide)
    have e3:wr.cell? ⟨g,o+j * 13+3,none⟩ = some (.int .i64 a4):=hcell 3 (by decide)
    have e4:wr.cell? ⟨g,o+j * 13+4,none⟩ = some (.int .i64 a5):=hcell 4 (by decide)
    have e5:wr.cell? ⟨g,o+j * 13+5,none⟩ = some (.int .i64 a6):=hcell 5 (by decide)
    have e6:wr.cell? ⟨g,o+j * 13+6,none⟩ = some (.bool a7):=hcell 6 (by decide)
    have e7:wr.cell? ⟨g,o+j * 13+7,none⟩ = some (.slice a8 a9 a10):=hcell 7 (by decide)
    have e8:wr.cell? ⟨g,o+j * 13+8,none⟩ = some (.slice a11 a12 a13):=hcell 8 (by decide)
    have e9':wr.cell? ⟨g,o+j * 13+9,none⟩ = some (.int .i64 a14):=hcell 9 (by decide)
    have e10:wr.cell? ⟨g,o+j * 13+10,none⟩ = some (.int .i64 a15):=hcell 10 (by decide)
    have e11:wr.cell? ⟨g,o+j * 13+11,none⟩ = some (.int .i64 a16):=hcell 11 (by decide)
    have e12:wr.cell? ⟨g,o+j * 13+12,none⟩ = some (.int .i64 a17):=hcell 12 (by decide)
    have zg:=szs (cell_lt e0)
    clear hcell
    have d4:(a2 != rid) = true:=by simp;exact fun e=>h1 (by rw[←HY.out];exact e)
    clear h1
    have B8:Hid (Below wr.heap.size wr (wr.alloc (.cells #[.int .i64 a1,.int .i64 a2,.int .i64 a3,.int .i64 a4,.int .i64 a5,.int .i64 a6,.bool a7,.slice a8 a9 a10,.slice a11 a12 a13,.int .i64 a14,.int .i64 a15,.int .i64 a16,.int .i64 a17] 71))):=Lib.hid (by (repeat' (first | with_reducible (first | exact Below.refl _ _ | assumption | refine Below.drew ?_ | refine below_drewN ?_ _ | refine Below.alloc ?_ ?_ _ | refine Below.setCell ?_ ?_ _) | go_size)));have X8:=Lib.hid (al_at wr (.cells #[.int .i64 a1,.int .i64 a2,.int .i64 a3,.int .i64 a4,.int .i64 a5,.int .i64 a6,.bool a7,.slice a8 a9 a10,.slice a11 a12 a13,.int .i64 a14,.int .i64 a15,.int .i64 a16,.int .i64 a17] 71) rfl);obtain ⟨w8,hw8⟩:∃ w8,w8 = wr.alloc (.cells #[.int .i64 a1,.int .i64 a2,.int .i64 a3,.int .i64 a4,.int .i64 a5,.int .i64 a6,.bool a7,.slice a8 a9 a10,.slice a11 a12 a13,.int .i64 a14,.int .i64 a15,.int .i64 a16,.int .i64 a17] 71):=⟨_,rfl⟩;rw[←hw8] at B8 X8;have HW8:=Lib.hid hw8;clear hw8;have z8:=szs (block_lt X8.out);skip
    have R8:=Lib.hid (Row.off (X:=fun _=>False) HR.out (Off.of_below B8.out) (fun _ _ h=>h))
    have BB8:=Lib.hid (HB.out.trans (B8.out.mono HB.out.size))
    have hle:w.heap.size≤w8.heap.size:=BB8.out.size
    obtain ⟨q8,hq8⟩:∃ q8,q8 = wr.heap.size:=⟨_,rfl⟩
    rw[←hq8] at X8
    have HQ8:=Lib.hid hq8
    clear hq8
    go_wp2_with (at_builtin;rw[←HW8.out,←HQ8.out];go_loud (refine wpList_append_Rd _ rfl (.tmp 33) (.tmp 38) rfl w.heap.size _ m (fun i=>F (G i)) rfl R8.out q8 ⟨a1,a2,a3,a4,a5,a6,a7,a8,a9,a10,a11,a12,a13,a14,a15,a16,a17⟩ rfl 71 (0,0) X8.out (by omega) hle ?_))
    intro g9 c9 w9 k1 k2 k3 r9 o9
    have R9:Hid (Row w9 w.heap.size 71 13 (.slice (some ⟨g9,0,none⟩) (m+1) c9) (m+1) (fun i=>rds (F (upd G m j i)))):=Lib.hid (Row.congr r9 (fun i hi=>by
     show rds (upd (fun i=>F (G i)) m _ i) = rds (F (upd G m j i))
     by_cases e:i = m
     ·subst e;rw[upd_same,upd_same,HY.out]
     ·rw[upd_ne e,upd_ne e]))
    have B9:=Lib.hid (BB8.out.trans (o9.toBelow hle (fun q hq e=>by have:=(World.ownsRow.lt R8.out q e).1;omega)))
    clear r9 o9 R8 BB8 B8 X8 HQ8 HW8 z8 hle e0 e1 e2 e3 e4 e5 e6 e7 e8 e9' e10 e11 e12 zg HR HL HB
    go_wp2_with fail
    go_roundw
    case rel=>exact ⟨j+1,m+1,upd G m j,by go_num,by omega,R9,HL2,B9⟩
    case measure=>simp [intOf] <;> omega
  ·have d3:decide ((j:Int) < (n:Int)) = false:=decide_eq_false (by omega)
   have d3n:decide (j < n) = false:=decide_eq_false (by omega)
   obtain rfl:j = n:=by omega
   go_wp2_with fail
   go_returns
   exact ⟨⟨_,m,G,rfl,HR.out,HL.out⟩,HB.out⟩
set_option maxRecDepth 8000 in
set_option maxHeartbeats 16000000 in
theorem Apart14 (a b:Int) (xo:Option Addr) (m xc:Nat) (X:Nat→Int) (yo:Option Addr) (yc:Nat) (Y:Nat→Int) (w:World) (hx:Sl w 1 xo m xc (nuR X)) (hy:Sl w 1 yo m yc (nuR Y)) (hX:TCk a b m X) (hY:TCk a b m Y) :
  Calls Tryz.prog 14 #[.agg #[.int .i64 a,.int .i64 b,.slice xo m xc],.agg #[.int .i64 a,.int .i64 b,.slice yo m yc]] w fun e w'=>e = .returned (.tuple #[.int .i64 (absS X Y m),.int .i64 0])∧Below w.heap.size w w':=by
 have hlm:=hx.hm
 have hlc:=hx.hc
 have hm64:m≤64:=by
  have h1:=hX.2.2.1
  have:=Int.mul_le_mul hX.1.2 hX.2.1.2 (by have:=hX.2.1;omega) (by omega)
  omega
 have BA:Hid (Below w.heap.size w ((w.alloc (.cells #[.int .i64 a,.int .i64 b,.slice xo m xc] 37)).alloc (.cells #[.int .i64 a,.int .i64 b,.slice yo m yc] 37))):=Lib.hid (by (repeat' (first | with_reducible (first | exact Below.refl _ _ | assumption | refine Below.drew ?_ | refine below_drewN ?_ _ | refine Below.alloc ?_ ?_ _ | refine Below.setCell ?_ ?_ _) | go_size)))
 have X0:=Lib.hid (al_keep (al_at w (.cells #[.int .i64 a,.int .i64 b,.slice xo m xc] 37) rfl) (.cells #[.int .i64 a,.int .i64 b,.slice yo m yc] 37))
 have X1:=Lib.hid (al_at (w.alloc (.cells #[.int .i64 a,.int .i64 b,.slice xo m xc] 37)) (.cells #[.int .i64 a,.int .i64 b,.slice yo m yc] 37) (k:=w.heap.size+1) (by simp))
 obtain ⟨w1,hw1⟩:∃ w1,w1 = (w.alloc (.cells #[.int .i64 a,.int .i64 b,.slice xo m xc] 37)).alloc (.cells #[.int .i64 a,.int .i64 b,.slice yo m yc] 37):=⟨_,rfl⟩
 rw[←hw1] at BA X0 X1
 have HW1:=Lib.hid hw1
 clear hw1
 have CX:=Lib.hid (check31 a b xo m xc X w1 (hx.below BA.out))
 have CY:=Lib.hid (fun w' (bb:Below w1.heap.size w1 w')=>check31 a b yo m yc Y w' ((hy.below BA.out).below bb))
 have HX:=Lib.hid (hx.below BA.out)
 have HY:=Lib.hid (hy.below BA.out)
 have TX:=Lib.hid hX
 have TY:=Lib.hid hY
 clear hx hy hX hY
 have x0:=cell_at X0.out 0
 have x1:=cell_at X0.out 1
 have x2:=cell_at X0.out 2
 have zx:=szs (block_lt X0.out)
 have y0:=cell_at X1.out 0
 have y1:=cell_at X1.out 1
 have y2:=cell_at X1.out 2
 have zy:=szs (block_lt X1.out)
 go_enter Tryz.func14,Tryz.ntmps14
 go_simp
 ((repeat ((fail_if_success (rw[←HW1.out]));go_step));rw[←HW1.out])
 go_wp2_with fail
 refine CX.out.mono ?_
 rintro e w2 ⟨⟨r,rfl,hr⟩,b2⟩
 obtain rfl:r = 0:=hr.2 TX.out
 have B2:=Lib.hid b2
 have Y2:=Lib.hid ((b2.block _ (block_lt X1.out)).trans X1.out)
 have Z2:=Lib.hid ((b2.block _ (block_lt X0.out)).trans X0.out)
 clear hr b2 x0 x1 x2 zx y0 y1 y2 zy CX HW1
 have y0:=cell_at Y2.out 0
 have y1:=cell_at Y2.out 1
 have y2:=cell_at Y2.out 2
 have zy:=szs (block_lt Y2.out)
 go_wp2_with fail
 refine (CY.out _ B2.out).mono ?_
 rintro e w3 ⟨⟨r,rfl,hr⟩,b3⟩
 obtain rfl:r = 0:=hr.2 TY.out
 have B3:=Lib.hid (B2.out.trans (b3.mono B2.out.size))
 have Y3:=Lib.hid ((b3.block _ (block_lt Y2.out)).trans Y2.out)
 have Z3:=Lib.hid ((b3.block _ (block_lt Z2.out)).trans Z2.out)
 have BB:=Lib.hid (BA.out.trans (B3.out.mono BA.out.size))
 clear hr b3 y0 y1 y2 zy CY
 have x0:=cell_at Z3.out 0
 have x1:=cell_at Z3.out 1
 have x2:=cell_at Z3.out 2
 have zx:=szs (block_lt Z3.out)
 have y0:=cell_at Y3.out 0
 have y1:=cell_at Y3.out 1
 have y2:=cell_at Y3.out 2
 have zy:=szs (block_lt Y3.out)
 go_wp2_with fail
 go_loopw [8,35] (fun s8 s35 wr=>∃ j:Nat,s8 = .int .i64 (absS X Y j)∧s35 = .int .i64 j∧j≤m∧Hid (Below w3.heap.size w3 wr)) (fun _ s _=>m - (intOf s).toNat)
 case atStart=>exact ⟨0,rfl,rfl,Nat.zero_le _,Lib.hid (Below.refl _ _)⟩
 case round =>
  obtain ⟨j,rfl,rfl,hj,hbel⟩:=hrel
  have HB:=hbel
  clear hbel x0 x1 x2 y0 y1 y2 zx zy
  by_cases hlt:j < m
  ·have d3:decide ((j:Int) < (m:Int)) = true:=decide_eq_true (by omega)
   have d3n:decide (j < m) = true:=decide_eq_true (by omega)
   have hbr:Hid (Below w1.heap.size w1 wr):=Lib.hid (B3.out.trans (HB.out.mono B3.out.size))
   obtain ⟨g,o,rfl,hg,hcs⟩:=(HX.out.below hbr.out).ints (show 0 < m by omega)
   obtain ⟨g2,o2,rfl,hg2,hcs2⟩:=(HY.out.below hbr.out).ints (show 0 < m by omega)
   have u0:=hcs j hlt
   have v0:=hcs2 j hlt
   have Z4:=Lib.hid ((HB.out.block _ (block_lt Z3.out)).trans Z3.out)
   have Y4:=Lib.hid ((HB.out.block _ (block_lt Y3.out)).trans Y3.out)
   have x2:=cell_at Z4.out 2
   have y2:=cell_at Y4.out 2
   have hxb:=TX.out.2.2.2 j hlt
   have hyb:=TY.out.2.2.2 j hlt
   have hab:=absS_bound TX.out.2.2.2 TY.out.2.2.2 j (by omega)
   have HE:Hid (absS X Y (j+1) = absS X Y j+max (X j - Y j) (Y j - X j)):=Lib.hid rfl
   obtain ⟨sj,hsj⟩:∃ sj,sj = absS X Y j:=⟨_,rfl⟩
   rw[←hsj] at hab HE ⊢
   obtain ⟨mx,hmx⟩:∃ mx,mx = max (X j - Y j) (Y j - X j):=⟨_,rfl⟩
   rw[←hmx] at HE
   have hmb:0≤mx∧mx≤2000000:=by rw[hmx];omega
   have zg:=szs hg
   have zg2:=szs hg2
   have zx:=szs (block_lt Z4.out)
   have zy:=szs (block_lt Y4.out)
   have HMX:=Lib.hid hmx
   clear hcs hcs2 hsj hmx
   go_wp2_with fail
   (refine region_all (fun i:Nat=>World.drewN _ i) mixed (by kernel_rfl) ⟨1,rfl⟩ ?_;(repeat (any_goals (first | go_big_quiet_step (fail) | quiet_step (fail) | (refine wpQuiet_step (fun K hK=>?_);go_simp;split <;> (refine hK _ ?_;clear hK K)))));(all_goals (refine wpQuiet_nil (fun nq=>?_))))
   rw[←HMX.out,←HE.out]
   have HB5:=Lib.hid (HB.out.trans (below_drewN (Below.refl _ _) nq))
   clear HMX HE
   go_wp2_with fail
   go_roundw
   case rel=>exact ⟨j+1,rfl,by go_num,by omega,HB5⟩
   case measure=>simp [intOf] <;> omega
  ·have d3:decide ((j:Int) < (m:Int)) = false:=decide_eq_false (by omega)
   have d3n:decide (j < m) = false:=decide_eq_false (by omega)
   obtain rfl:j = m:=by omega
   go_wp2_with fail
   go_returns
   exact ⟨rfl,BB.out.trans (HB.out.mono BB.out.size)⟩
def powE (n:Int):Nat→Int
 | 0=>1
 | k+1=>powE n k * n
theorem powE_bound {n:Int}(h:1≤n∧n≤1024):∀ k,1≤powE n k∧powE n k≤(1024 ^ k:Nat)
 | 0=>by show (1:Int)≤1∧(1:Int)≤((1:Nat):Int);omega
 | k+1=>by
  have h1:=powE_bound h k
  show 1≤powE n k * n∧powE n k * n≤_
  constructor
  ·have:=Int.mul_le_mul h1.1 h.1 (by omega) (by omega);omega
  ·have:=Int.mul_le_mul h1.2 h.2 (by omega) (by omega)
   rw[Nat.pow_succ,Int.natCast_mul]
   exact this
set_option maxHeartbeats 4000000 in
theorem power34 (n:Int) (k:Nat) (w:World) (hn:1≤n∧n≤1024) (hk:k≤3) :
  Calls Tryz.prog 34 #[.int .i64 n,.int .i64 k] w fun e w'=>e = .returned (.int .i64 (powE n k))∧w' = w:=by
 go_enter Tryz.func34,Tryz.ntmps34
 go_wp2_with fail
 go_loopw [5,7] (fun s5 s7 wr=>∃ j:Nat,s5 = .int .i64 (powE n j)∧s7 = .int .i64 j∧j≤k∧wr = w) (fun _ s _=>k - (intOf s).toNat)
 case atStart=>exact ⟨0,rfl,rfl,Nat.zero_le _,rfl⟩
 case round =>
  obtain ⟨j,rfl,rfl,hj,rfl⟩:=hrel
  by_cases hlt:j < k
  ·have d3:decide ((j:Int) < (k:Int)) = true:=decide_eq_true (by omega)
   have d3n:decide (j < k) = true:=decide_eq_true (by omega)
   have hb:1≤powE n (j+1)∧powE n (j+1)≤1073741824:=by
    have h1:=powE_bound hn (j+1)
    have h2:(1024:Nat) ^ (j+1)≤1024 ^ 3:=Nat.pow_le_pow_right (by omega) (by omega)
    have h3:(1024:Nat) ^ 3 = 1073741824:=by decide
    omega
   have HE:Hid (powE n (j+1) = powE n j * n):=Lib.hid rfl
   obtain ⟨q,hq⟩:∃ q,q = powE n (j+1):=⟨_,rfl⟩
   rw[←hq] at hb HE
   have e1:wrap64 (powE n j * n) = q:=by rw[←HE.out];unfold wrap64;omega
   have HQ:=Lib.hid hq
   clear hq
   go_wp2_with fail
   go_roundw
   case rel=>exact ⟨j+1,by rw[e1,HQ.out],by go_num,by omega,trivial⟩
   case measure=>simp [intOf] <;> omega
  ·have d3:decide ((j:Int) < (k:Int)) = false:=decide_eq_false (by omega)
   have d3n:decide (j < k) = false:=decide_eq_false (by omega)
   obtain rfl:j = k:=by omega
   go_wp2_with fail
   go_returns
   exact ⟨rfl,rfl⟩
end Go.Proofs.YtdpoppilnokniaaGreatDoor
