/- Theorems of this seat. -/
import Derived.Test.YtdpoppilnokniaaGreatDoorWFLU
import Derived.Test.YtdpoppilnokniaaGreatDoorWNSA
import Derived.Test.YtdpoppilnokniaaGreatDoorWFLV
namespace Go.Proofs.YtdpoppilnokniaaGreatDoor
open Go.RowKit Go.ChangeShapes Go.WideShapes Go.Deep
set_option linter.unusedVariables false
set_option linter.unusedSimpArgs false
set_option linter.unnecessarySimpa false
def FitP (e:Ending):Prop:=Exists fun b:Bool=>e = .returned (.bool b)
set_option maxHeartbeats 4000000 in
theorem fits64 (s:Nat) (v:Value) (i k:Nat) (qt qi:Nat) (w:World) (hs:1≤s) (hi:i≤100) (hk:k≤100) (hs2:s≤100) (ht:w.heap[qt]? = some (.cells #[.int .i64 s,.int .i64 s,v] 37 (0,0))) (hq:w.heap[qi]? = some (.cells #[.int .i64 i] 3 (0,0))) :
  Calls Tryz.prog 64 #[.int .i64 k,.pointer (some ⟨qt,0,none⟩),.pointer (some ⟨qi,0,none⟩)] w fun e w'=>FitP e∧Below w.heap.size w w':=by
 have x0:=cell_at ht 0
 have x1:=cell_at ht 1
 have y0:=cell_at hq 0
 have zx:=szs (block_lt ht)
 have zy:=szs (block_lt hq)
 have d0:((s:Int) == 0) = false:=by simp;omega
 have d1:(s == 0) = false:=by simp;omega
 have d2:decide (s = 0) = false:=by simp;omega
 have hs0:¬ s = 0:=by omega
 go_enter Tryz.func64,Tryz.ntmps64
 go_wp2_with fail
 (refine region_all (fun i:Nat=>World.drewN _ i) mixed (by kernel_rfl) ⟨1,rfl⟩ ?_;(repeat (any_goals (first | go_big_quiet_step (fail) | quiet_step (fail) | (refine wpQuiet_step (fun K hK=>?_);go_simp;split <;> (refine hK _ ?_;clear hK K)))));(all_goals (refine wpQuiet_nil (fun nq=>?_))))
 go_wp2_with fail
 go_returns
 exact ⟨⟨_,rfl⟩,by (repeat' (first | with_reducible (first | exact Below.refl _ _ | assumption | refine Below.drew ?_ | refine below_drewN ?_ _ | refine Below.alloc ?_ ?_ _ | refine Below.setCell ?_ ?_ _) | go_size))⟩
set_option maxHeartbeats 4000000 in
theorem fits65 (s:Nat) (v:Value) (i k:Nat) (qt qi:Nat) (w:World) (hs:1≤s) (hi:i≤100) (hk:k≤100) (hs2:s≤100) (ht:w.heap[qt]? = some (.cells #[.int .i64 s,.int .i64 s,v] 37 (0,0))) (hq:w.heap[qi]? = some (.cells #[.int .i64 i] 3 (0,0))) :
  Calls Tryz.prog 65 #[.int .i64 k,.pointer (some ⟨qt,0,none⟩),.pointer (some ⟨qi,0,none⟩)] w fun e w'=>FitP e∧Below w.heap.size w w':=by
 have x0:=cell_at ht 0
 have x1:=cell_at ht 1
 have y0:=cell_at hq 0
 have zx:=szs (block_lt ht)
 have zy:=szs (block_lt hq)
 have d0:((s:Int) == 0) = false:=by simp;omega
 have d1:(s == 0) = false:=by simp;omega
 have d2:decide (s = 0) = false:=by simp;omega
 have hs0:¬ s = 0:=by omega
 go_enter Tryz.func65,Tryz.ntmps65
 go_wp2_with fail
 (refine region_all (fun i:Nat=>World.drewN _ i) mixed (by kernel_rfl) ⟨1,rfl⟩ ?_;(repeat (any_goals (first | go_big_quiet_step (fail) | quiet_step (fail) | (refine wpQuiet_step (fun K hK=>?_);go_simp;split <;> (refine hK _ ?_;clear hK K)))));(all_goals (refine wpQuiet_nil (fun nq=>?_))))
 go_wp2_with fail
 go_returns
 exact ⟨⟨_,rfl⟩,by (repeat' (first | with_reducible (first | exact Below.refl _ _ | assumption | refine Below.drew ?_ | refine below_drewN ?_ _ | refine Below.alloc ?_ ?_ _ | refine Below.setCell ?_ ?_ _) | go_size))⟩
theorem fits66 (k:Nat) (w:World):Calls Tryz.prog 66 #[.int .i64 k] w fun e w'=>FitP e∧Below w.heap.size w w':=by
 go_enter Tryz.func66,Tryz.ntmps66
 go_wp2_with fail
 go_returns
 exact ⟨⟨_,rfl⟩,Below.refl _ _⟩
def NxtP (H:Nat→Bool) (p:Nat) (e:Ending):Prop:=e = .returned (.int .i64 (-1))∨(Exists fun k:Nat=>e = .returned (.int .i64 k)∧k < p∧H k = false)
structure NxtM (w:World) (s:Nat) (v:Value) (i:Nat) (qt qi qf:Nat) (wr:World):Prop where
 box:wr.heap[qt]? = some (.cells #[.int .i64 s,.int .i64 s,v] 37 (0,0))
 num:wr.heap[qi]? = some (.cells #[.int .i64 i] 3 (0,0))
 fns:wr.heap[qf]? = some (.cells #[.func (.func 64) #[] #[.pointer (some ⟨qt,0,none⟩),.pointer (some ⟨qi,0,none⟩)],.func (.func 65) #[] #[.pointer (some ⟨qt,0,none⟩),.pointer (some ⟨qi,0,none⟩)],.func (.func 66) #[] #[]] 114 (0,0))
 bel:Below w.heap.size w wr
theorem NxtM.below {w:World}{s:Nat}{v:Value}{i:Nat}{qt qi qf:Nat}{wr w':World}(h:NxtM w s v i qt qi qf wr) (hb:Below wr.heap.size wr w'):NxtM w s v i qt qi qf w' :=
 {box:=(hb.block _ (block_lt h.box)).trans h.box
  num:=(hb.block _ (block_lt h.num)).trans h.num
  fns:=(hb.block _ (block_lt h.fns)).trans h.fns
  bel:=h.bel.trans (hb.mono h.bel.size) }
set_option maxRecDepth 8000 in
set_option maxHeartbeats 16000000 in
theorem next45 (s p:Nat) (v:Value) (v0:Option Addr) (vn vc:Nat) (hv:v = .slice v0 vn vc) (ho:Option Addr) (hc:Nat) (H:Nat→Bool) (i:Nat) (w:World) (hH:Sl w 1 ho p hc (boR H)) (hs:1≤s∧s≤100) (hp:p≤100) (hi:i≤100) :
  Calls Tryz.prog 45 #[.agg #[.int .i64 s,.int .i64 s,v],.slice ho p hc,.int .i64 i] w fun e w'=>NxtP H p e∧Below w.heap.size w w':=by
 have hhm:=hH.hm
 have hhc:=hH.hc
 have B0:Hid (Below w.heap.size w (w.alloc (.cells #[.int .i64 s,.int .i64 s,v] 37))):=Lib.hid (by (repeat' (first | with_reducible (first | exact Below.refl _ _ | assumption | refine Below.drew ?_ | refine below_drewN ?_ _ | refine Below.alloc ?_ ?_ _ | refine Below.setCell ?_ ?_ _) | go_size)));have X0:=Lib.hid (al_at w (.cells #[.int .i64 s,.int .i64 s,v] 37) rfl);obtain ⟨w1,hw0⟩:∃ w1,w1 = w.alloc (.cells #[.int .i64 s,.int .i64 s,v] 37):=⟨_,rfl⟩;rw[←hw0] at B0 X0;have HW0:=Lib.hid hw0;clear hw0;have z0:=szs (block_lt X0.out);skip
 have B1:Hid (Below w1.heap.size w1 (w1.alloc (.cells #[.int .i64 i] 3))):=Lib.hid (by (repeat' (first | with_reducible (first | exact Below.refl _ _ | assumption | refine Below.drew ?_ | refine below_drewN ?_ _ | refine Below.alloc ?_ ?_ _ | refine Below.setCell ?_ ?_ _) | go_size)));have X1:=Lib.hid (al_at w1 (.cells #[.int .i64 i] 3) rfl);obtain ⟨w2,hw1⟩:∃ w2,w2 = w1.alloc (.cells #[.int .i64 i] 3):=⟨_,rfl⟩;rw[←hw1] at B1 X1;have HW1:=Lib.hid hw1;clear hw1;have z1:=szs (block_lt X1.out);skip
 have s1:w1.heap.size = w.heap.size+1:=by rw[HW0.out];simp
 have s2:w2.heap.size = w.heap.size+2:=by rw[HW1.out];simp [s1]
 rw[s1] at X1
 have B2:Hid (Below w2.heap.size w2 (w2.alloc (.cells #[.func (.func 64) #[] #[.pointer (some ⟨w.heap.size,0,none⟩),.pointer (some ⟨w.heap.size+1,0,none⟩)],.func (.func 65) #[] #[.pointer (some ⟨w.heap.size,0,none⟩),.pointer (some ⟨w.heap.size+1,0,none⟩)],.func (.func 66) #[] #[]] 114))):=Lib.hid (by (repeat' (first | with_reducible (first | exact Below.refl _ _ | assumption | refine Below.drew ?_ | refine below_drewN ?_ _ | refine Below.alloc ?_ ?_ _ | refine Below.setCell ?_ ?_ _) | go_size)));have X2:=Lib.hid (al_at w2 (.cells #[.func (.func 64) #[] #[.pointer (some ⟨w.heap.size,0,none⟩),.pointer (some ⟨w.heap.size+1,0,none⟩)],.func (.func 65) #[] #[.pointer (some ⟨w.heap.size,0,none⟩),.pointer (some ⟨w.heap.size+1,0,none⟩)],.func (.func 66) #[] #[]] 114) rfl);obtain ⟨w3,hw2⟩:∃ w3,w3 = w2.alloc (.cells #[.func (.func 64) #[] #[.pointer (some ⟨w.heap.size,0,none⟩),.pointer (some ⟨w.heap.size+1,0,none⟩)],.func (.func 65) #[] #[.pointer (some ⟨w.heap.size,0,none⟩),.pointer (some ⟨w.heap.size+1,0,none⟩)],.func (.func 66) #[] #[]] 114):=⟨_,rfl⟩;rw[←hw2] at B2 X2;have HW2:=Lib.hid hw2;clear hw2;have z2:=szs (block_lt X2.out);skip
 rw[s2] at X2
 have HS:=Lib.hid (And.intro s1 s2)
 have M0:Hid (NxtM w s v i w.heap.size (w.heap.size+1) (w.heap.size+2) w3):=Lib.hid
  {box:=(B2.out.block _ (by omega)).trans ((B1.out.block _ (by omega)).trans X0.out)
   num:=(B2.out.block _ (by omega)).trans X1.out
   fns:=X2.out
   bel:=B0.out.trans ((B1.out.trans (B2.out.mono B1.out.size)).mono B0.out.size) }
 have HH:=Lib.hid hH
 obtain ⟨hs1,hs2⟩:=hs
 clear hH X1 X2 s1 s2
 subst hv
 go_enter Tryz.func45,Tryz.ntmps45
 go_simp
 ((repeat ((fail_if_success (rw[←HW0.out]));go_step));rw[←HW0.out])
 go_simp
 ((repeat ((fail_if_success (rw[←HW1.out]));go_step));rw[←HW1.out])
 rw[HS.out.1]
 go_simp
 ((repeat ((fail_if_success (rw[←HW2.out]));go_step));rw[←HW2.out])
 rw[HS.out.2]
 clear HW0 HW1 HW2 z0 z1 z2 B0 B1 B2 X0 HS
 go_wp2_with fail
 go_loopw [14] (fun t wr=>∃ j:Nat,t = .int .i64 j∧j≤3∧Hid (NxtM w s (.slice v0 vn vc) i w.heap.size (w.heap.size+1) (w.heap.size+2) wr)) (fun t _=>3 - (intOf t).toNat)
 case atStart=>exact ⟨0,rfl,Nat.zero_le _,M0⟩
 case round =>
  obtain ⟨j,rfl,hj,hm⟩:=hrel
  have HM:=hm
  clear hm M0
  have f0:=cell_at HM.out.fns 0
  have f1:=cell_at HM.out.fns 1
  have f2:=cell_at HM.out.fns 2
  have zf:=szs (block_lt HM.out.fns)
  by_cases hlt:j < 3
  ·have t3:decide ((j:Int) < 3) = true:=decide_eq_true (by omega)
   have t3n:decide (j < 3) = true:=decide_eq_true (by omega)
   rcases (show j = 0∨j = 1∨j = 2 by omega) with e | e | e
   ·subst e
    go_wp2_with fail
    clear f0 f1 f2 zf
    go_loopw [20] (fun s20 w5=>∃ k:Nat,s20 = .int .i64 k∧k≤p∧Hid (NxtM w s (.slice v0 vn vc) i w.heap.size (w.heap.size+1) (w.heap.size+2) w5)) (fun t _=>p - (intOf t).toNat)
    case atStart=>exact ⟨0,rfl,Nat.zero_le _,HM⟩
    case round =>
     obtain ⟨k,rfl,hk,hm5⟩:=hrel
     have HM5:=hm5
     clear hm5
     by_cases hkl:k < p
     ·have t5:decide ((k:Int) < (p:Int)) = true:=decide_eq_true (by omega)
      have t5n:decide (k < p) = true:=decide_eq_true (by omega)
      obtain ⟨g2,o2,hho,hg2,c2⟩:=(HH.out.below HM5.out.bel).bit hkl
      subst hho
      have zg2:=szs hg2
      have hkI:(k:Int) < (p:Int):=by omega
      cases hh:H k
      ·rw[hh] at c2
       go_wp2_with fail
       refine (fits64 s (.slice v0 vn vc) i k w.heap.size (w.heap.size+1) wr hs1 hi (by omega) hs2 HM5.out.box HM5.out.num).mono ?_
       rintro e w6 ⟨⟨b,rfl⟩,b6⟩
       have M6:=Lib.hid (HM5.out.below b6)
       clear b6 c2 zg2 hg2
       cases b
       ·go_wp2_with fail
        go_roundw
        case rel=>first | exact ⟨k+1,by go_num,by omega,M6⟩ | (repeat (first | exact rfl | refine And.intro (⟨k+1,by go_num,by omega,M6⟩) ?_ | apply Exists.intro)) | trace_state
        case measure=>simp [intOf] <;> omega
       ·go_wp2_with fail
        go_returns
        exact ⟨Or.inr ⟨k,rfl,hkl,hh⟩,M6.out.bel⟩
      ·rw[hh] at c2
       go_wp2_with fail
       go_roundw
       case rel=>first | exact ⟨k+1,by go_num,by omega,HM5⟩ | (repeat (first | exact rfl | refine And.intro (⟨k+1,by go_num,by omega,HM5⟩) ?_ | apply Exists.intro)) | trace_state
       case measure=>simp [intOf] <;> omega
     ·have t5:decide ((k:Int) < (p:Int)) = false:=decide_eq_false (by omega)
      have t5n:decide (k < p) = false:=decide_eq_false (by omega)
      go_wp2_with fail
      go_roundw
      case rel=>first | exact ⟨1,by go_num,by omega,HM5⟩ | (repeat (first | exact rfl | refine And.intro (⟨1,by go_num,by omega,HM5⟩) ?_ | apply Exists.intro)) | trace_state
      case measure=>simp [intOf] <;> omega
   ·subst e
    go_wp2_with fail
    clear f0 f1 f2 zf
    go_loopw [20] (fun s20 w5=>∃ k:Nat,s20 = .int .i64 k∧k≤p∧Hid (NxtM w s (.slice v0 vn vc) i w.heap.size (w.heap.size+1) (w.heap.size+2) w5)) (fun t _=>p - (intOf t).toNat)
    case atStart=>exact ⟨0,rfl,Nat.zero_le _,HM⟩
    case round =>
     obtain ⟨k,rfl,hk,hm5⟩:=hrel
     have HM5:=hm5
     clear hm5
     by_cases hkl:k < p
     ·have t5:decide ((k:Int) < (p:Int)) = true:=decide_eq_true (by omega)
      have t5n:decide (k < p) = true:=decide_eq_true (by omega)
      obtain ⟨g2,o2,hho,hg2,c2⟩:=(HH.out.below HM5.out.bel).bit hkl
      subst hho
      have zg2:=szs hg2
      have hkI:(k:Int) < (p:Int):=by omega
      cases hh:H k
      ·rw[hh] at c2
       go_wp2_with fail
       refine (fits65 s (.slice v0 vn vc) i k w.heap.size (w.heap.size+1) wr hs1 hi (by omega) hs2 HM5.out.box HM5.out.num).mono ?_
       rintro e w6 ⟨⟨b,rfl⟩,b6⟩
       have M6:=Lib.hid (HM5.out.below b6)
       clear b6 c2 zg2 hg2
       cases b
       ·go_wp2_with fail
        go_roundw
        case rel=>first | exact ⟨k+1,by go_num,by omega,M6⟩ | (repeat (first | exact rfl | refine And.intro (⟨k+1,by go_num,by omega,M6⟩) ?_ | apply Exists.intro)) | trace_state
        case measure=>simp [intOf] <;> omega
       ·go_wp2_with fail
        go_returns
        exact ⟨Or.inr ⟨k,rfl,hkl,hh⟩,M6.out.bel⟩
      ·rw[hh] at c2
       go_wp2_with fail
       go_roundw
       case rel=>first | exact ⟨k+1,by go_num,by omega,HM5⟩ | (repeat (first | exact rfl | refine And.intro (⟨k+1,by go_num,by omega,HM5⟩) ?_ | apply Exists.intro)) | trace_state
       case measure=>simp [intOf] <;> omega
     ·have t5:decide ((k:Int) < (p:Int)) = false:=decide_eq_false (by omega)
      have t5n:decide (k < p) = false:=decide_eq_false (by omega)
      go_wp2_with fail
      go_roundw
      case rel=>first | exact ⟨2,by go_num,by omega,HM5⟩ | (repeat (first | exact rfl | refine And.intro (⟨2,by go_num,by omega,HM5⟩) ?_ | apply Exists.intro)) | trace_state
      case measure=>simp [intOf] <;> omega
   ·subst e
    go_wp2_with fail
    clear f0 f1 f2 zf
    go_loopw [20] (fun s20 w5=>∃ k:Nat,s20 = .int .i64 k∧k≤p∧Hid (NxtM w s (.slice v0 vn vc) i w.heap.size (w.heap.size+1) (w.heap.size+2) w5)) (fun t _=>p - (intOf t).toNat)
    case atStart=>exact ⟨0,rfl,Nat.zero_le _,HM⟩
    case round =>
     obtain ⟨k,rfl,hk,hm5⟩:=hrel
     have HM5:=hm5
     clear hm5
     by_cases hkl:k < p
     ·have t5:decide ((k:Int) < (p:Int)) = true:=decide_eq_true (by omega)
      have t5n:decide (k < p) = true:=decide_eq_true (by omega)
      obtain ⟨g2,o2,hho,hg2,c2⟩:=(HH.out.below HM5.out.bel).bit hkl
      subst hho
      have zg2:=szs hg2
      have hkI:(k:Int) < (p:Int):=by omega
      cases hh:H k
      ·rw[hh] at c2
       go_wp2_with fail
       refine (fits66 k wr).mono ?_
       rintro e w6 ⟨⟨b,rfl⟩,b6⟩
       have M6:=Lib.hid (HM5.out.below b6)
       clear b6 c2 zg2 hg2
       cases b
       ·go_wp2_with fail
        go_roundw
        case rel=>first | exact ⟨k+1,by go_num,by omega,M6⟩ | (repeat (first | exact rfl | refine And.intro (⟨k+1,by go_num,by omega,M6⟩) ?_ | apply Exists.intro)) | trace_state
        case measure=>simp [intOf] <;> omega
       ·go_wp2_with fail
        go_returns
        exact ⟨Or.inr ⟨k,rfl,hkl,hh⟩,M6.out.bel⟩
      ·rw[hh] at c2
       go_wp2_with fail
       go_roundw
       case rel=>first | exact ⟨k+1,by go_num,by omega,HM5⟩ | (repeat (first | exact rfl | refine And.intro (⟨k+1,by go_num,by omega,HM5⟩) ?_ | apply Exists.intro)) | trace_state
       case measure=>simp [intOf] <;> omega
     ·have t5:decide ((k:Int) < (p:Int)) = false:=decide_eq_false (by omega)
      have t5n:decide (k < p) = false:=decide_eq_false (by omega)
      go_wp2_with fail
      go_roundw
      case rel=>first | exact ⟨3,by go_num,by omega,HM5⟩ | (repeat (first | exact rfl | refine And.intro (⟨3,by go_num,by omega,HM5⟩) ?_ | apply Exists.intro)) | trace_state
      case measure=>simp [intOf] <;> omega
  ·have t3:decide ((j:Int) < 3) = false:=decide_eq_false (by omega)
   have t3n:decide (j < 3) = false:=decide_eq_false (by omega)
   go_wp2_with fail
   go_returns
   exact ⟨Or.inl rfl,HM.out.bel⟩
end Go.Proofs.YtdpoppilnokniaaGreatDoor
namespace Go.Proofs.YtdpoppilnokniaaGreatDoor
open Go.RowKit Go.ChangeShapes Go.WideShapes Go.Deep
set_option linter.unusedVariables false
set_option linter.unusedSimpArgs false
set_option linter.unnecessarySimpa false
def TCk (a b:Int) (m:Nat) (X:Nat→Int):Prop:=(1≤a∧a≤8)∧(1≤b∧b≤8)∧(m:Int) = a * b∧∀ i,i < m→-1000000≤X i∧X i≤1000000
set_option maxRecDepth 4000 in
set_option maxHeartbeats 8000000 in
theorem check31 (a b:Int) (co:Option Addr) (m cc:Nat) (X:Nat→Int) (w:World) (h:Sl w 1 co m cc (nuR X)) :
  Calls Tryz.prog 31 #[.agg #[.int .i64 a,.int .i64 b,.slice co m cc]] w fun e w'=>(∃ r:Int,e = .returned (.int .i64 r)∧(r = 0↔TCk a b m X))∧Below w.heap.size w w':=by
 have hlm:=h.hm
 have hlc:=h.hc
 have B0:Hid (Below w.heap.size w (w.alloc (.cells #[.int .i64 a,.int .i64 b,.slice co m cc] 37))):=Lib.hid (by (repeat' (first | with_reducible (first | exact Below.refl _ _ | assumption | refine Below.drew ?_ | refine below_drewN ?_ _ | refine Below.alloc ?_ ?_ _ | refine Below.setCell ?_ ?_ _) | go_size)));have X0:=Lib.hid (al_at w (.cells #[.int .i64 a,.int .i64 b,.slice co m cc] 37) rfl);obtain ⟨w1,hw0⟩:∃ w1,w1 = w.alloc (.cells #[.int .i64 a,.int .i64 b,.slice co m cc] 37):=⟨_,rfl⟩;rw[←hw0] at B0 X0;have HW0:=Lib.hid hw0;clear hw0;have z0:=szs (block_lt X0.out);have x0_0:=cell_at X0.out 0;have x0_1:=cell_at X0.out 1;have x0_2:=cell_at X0.out 2
 have H:=Lib.hid (h.below B0.out)
 clear h
 by_cases h0:a < 1
 ·have t0:decide (a < 1) = true:=decide_eq_true h0
  go_enter Tryz.func31,Tryz.ntmps31
  go_simp
  ((repeat ((fail_if_success (rw[←HW0.out]));go_step));rw[←HW0.out])
  go_wp2_with fail
  go_returns
  exact ⟨⟨1,rfl,⟨fun e=>by omega,fun e=>by have:=e.1;omega⟩⟩,B0.out⟩
 have t0:decide (a < 1) = false:=decide_eq_false h0
 by_cases h1:a > 8
 ·have t1:decide (a > 8) = true:=decide_eq_true h1
  have t1o:decide (8 < a) = true:=decide_eq_true h1
  go_enter Tryz.func31,Tryz.ntmps31
  go_simp
  ((repeat ((fail_if_success (rw[←HW0.out]));go_step));rw[←HW0.out])
  go_wp2_with fail
  go_returns
  exact ⟨⟨1,rfl,⟨fun e=>by omega,fun e=>by have:=e.1;omega⟩⟩,B0.out⟩
 have t1:decide (a > 8) = false:=decide_eq_false h1
 have t1o:decide (8 < a) = false:=decide_eq_false h1
 by_cases h2:b < 1
 ·have t2:decide (b < 1) = true:=decide_eq_true h2
  go_enter Tryz.func31,Tryz.ntmps31
  go_simp
  ((repeat ((fail_if_success (rw[←HW0.out]));go_step));rw[←HW0.out])
  go_wp2_with fail
  go_returns
  exact ⟨⟨1,rfl,⟨fun e=>by omega,fun e=>by have:=e.2.1;omega⟩⟩,B0.out⟩
 have t2:decide (b < 1) = false:=decide_eq_false h2
 by_cases h3:b > 8
 ·have t3:decide (b > 8) = true:=decide_eq_true h3
  have t3o:decide (8 < b) = true:=decide_eq_true h3
  go_enter Tryz.func31,Tryz.ntmps31
  go_simp
  ((repeat ((fail_if_success (rw[←HW0.out]));go_step));rw[←HW0.out])
  go_wp2_with fail
  go_returns
  exact ⟨⟨1,rfl,⟨fun e=>by omega,fun e=>by have:=e.2.1;omega⟩⟩,B0.out⟩
 have t3:decide (b > 8) = false:=decide_eq_false h3
 have t3o:decide (8 < b) = false:=decide_eq_false h3
 obtain ⟨p,hpe⟩:∃ p,p = a * b:=⟨_,rfl⟩
 have hpb:1≤p∧p≤64:=by
  rw[hpe]
  constructor
  ·have:=Int.mul_le_mul (show 1≤a by omega) (show 1≤b by omega) (by omega) (by omega);omega
  ·have:=Int.mul_le_mul (show a≤8 by omega) (show b≤8 by omega) (by omega) (by omega);omega
 have e1:wrap64 (a * b) = p:=by rw[←hpe];unfold wrap64;omega
 have e2:a * b = p:=hpe.symm
 have HP:=Lib.hid hpe
 clear hpe
 by_cases h4:(m:Int) = p
 ·have t4:((m:Int) != p) = false:=by simp [h4]
  have hm64:m≤64:=by omega
  have H4:=Lib.hid h4
  clear h4
  go_enter Tryz.func31,Tryz.ntmps31
  go_simp
  ((repeat ((fail_if_success (rw[←HW0.out]));go_step));rw[←HW0.out])
  go_wp2_with fail
  go_loopw [35] (fun s wr=>∃ j:Nat,s = .int .i64 j∧j≤m∧Hid (∀ i,i < j→-1000000≤X i∧X i≤1000000)∧wr = w1) (fun s _=>m - (intOf s).toNat)
  case atStart=>exact ⟨0,rfl,Nat.zero_le _,Lib.hid (fun i hi=>absurd hi (Nat.not_lt_zero _)),rfl⟩
  case round =>
   obtain ⟨j,rfl,hj,hok,rfl⟩:=hrel
   have HOK:=hok
   clear hok
   by_cases hlt:j < m
   ·have d3:decide ((j:Int) < (m:Int)) = true:=decide_eq_true (by omega)
    have d3n:decide (j < m) = true:=decide_eq_true (by omega)
    obtain ⟨g,o,rfl,hg,hcs⟩:=H.out.ints (show 0 < m by omega)
    have u0:=hcs j hlt
    clear hcs
    by_cases k0:X j < -1000000
    ·have d0:decide (X j < -1000000) = true:=decide_eq_true k0
     go_wp2_with fail
     go_returns
     exact ⟨⟨1,rfl,⟨fun e=>by omega,fun e=>by have:=e.2.2.2 j hlt;omega⟩⟩,B0.out⟩
    have d0:decide (X j < -1000000) = false:=decide_eq_false k0
    by_cases k1:X j > 1000000
    ·have d1:decide (X j > 1000000) = true:=decide_eq_true k1
     have d1o:decide (1000000 < X j) = true:=decide_eq_true k1
     go_wp2_with fail
     go_returns
     exact ⟨⟨1,rfl,⟨fun e=>by omega,fun e=>by have:=e.2.2.2 j hlt;omega⟩⟩,B0.out⟩
    have d1:decide (X j > 1000000) = false:=decide_eq_false k1
    have d1o:decide (1000000 < X j) = false:=decide_eq_false k1
    have HN:Hid (∀ l,l < j+1→-1000000≤X l∧X l≤1000000):=Lib.hid (fun l hl=>by
     by_cases e:l = j
     ·subst e;omega
     ·exact HOK.out l (by omega))
    go_wp2_with fail
    go_roundw
    case rel=>exact ⟨j+1,by go_num,by omega,HN,trivial⟩
    case measure=>simp [intOf] <;> omega
   ·have d3:decide ((j:Int) < (m:Int)) = false:=decide_eq_false (by omega)
    have d3n:decide (j < m) = false:=decide_eq_false (by omega)
    obtain rfl:j = m:=by omega
    go_wp2_with fail
    go_returns
    exact ⟨⟨0,rfl,⟨fun _=>⟨by omega,by omega,by rw[H4.out,HP.out],HOK.out⟩,fun _=>rfl⟩⟩,B0.out⟩
 ·have t4:((m:Int) != p) = true:=by simp [h4]
  have H4:=Lib.hid h4
  clear h4
  go_enter Tryz.func31,Tryz.ntmps31
  go_simp
  ((repeat ((fail_if_success (rw[←HW0.out]));go_step));rw[←HW0.out])
  go_wp2_with fail
  go_returns
  exact ⟨⟨3,rfl,⟨fun e=>by omega,fun e=>absurd (e.2.2.1.trans HP.out.symm) H4.out⟩⟩,B0.out⟩
def absS (X Y:Nat→Int):Nat→Int
 | 0=>0
 | j+1=>absS X Y j+max (X j - Y j) (Y j - X j)
theorem absS_bound {X Y:Nat→Int}{m:Nat}(hX:∀ i,i < m→-1000000≤X i∧X i≤1000000) (hY:∀ i,i < m→-1000000≤Y i∧Y i≤1000000):∀ j,j≤m→0≤absS X Y j∧absS X Y j≤2000000 * j
 | 0,_=>by show (0:Int)≤0∧(0:Int)≤_;omega
 | j+1,hj=>by
  have h1:=absS_bound hX hY j (by omega)
  have h2:=hX j (by omega)
  have h3:=hY j (by omega)
  show 0≤absS X Y j+max (X j - Y j) (Y j - X j)∧absS X Y j+max (X j - Y j) (Y j - X j)≤_
  omega
end Go.Proofs.YtdpoppilnokniaaGreatDoor
namespace Go.Proofs.YtdpoppilnokniaaGreatDoor
open Go.RowKit Go.ChangeShapes Go.WideShapes Go.Deep
set_option linter.unusedVariables false
set_option linter.unusedSimpArgs false
set_option linter.unnecessarySimpa false
def sumI (X:Nat→Int):Nat→Int
 | 0=>0
 | j+1=>sumI X j+X j
theorem sumI_bound {X:Nat→Int}{p:Nat}(h:∀ i,i < p→0≤X i∧X i≤1000000):∀ j,j≤p→0≤sumI X j∧sumI X j≤1000000 * j
 | 0,_=>by show (0:Int)≤0∧(0:Int)≤_;omega
 | j+1,hj=>by
  have h1:=sumI_bound h j (by omega)
  have h2:=h j (by omega)
  show 0≤sumI X j+X j∧sumI X j+X j≤_
  omega
theorem sumI_le {X:Nat→Int}{p:Nat}(h:∀ i,i < p→0≤X i):∀ j,j≤p→0≤sumI X j∧∀ i,i < j→X i≤sumI X j
 | 0,_=>⟨Int.le_refl _,fun i hi=>absurd hi (Nat.not_lt_zero _)⟩
 | j+1,hj=>by
  have ⟨h1,h2⟩:=sumI_le h j (by omega)
  have h3:=h j (by omega)
  refine ⟨by show 0≤sumI X j+X j;omega,fun i hi=>?_⟩
  show X i≤sumI X j+X j
  by_cases e:i = j
  ·subst e;omega
  ·have:=h2 i (by omega);omega
theorem sumI_mono {X:Nat→Int}{p:Nat}(h:∀ i,i < p→0≤X i) {j:Nat}(hj:j < p) (hs:sumI X p≤65536):X j≤65536:=by
 have:=(sumI_le h p (Nat.le_refl _)).2 j hj
 omega
def SCk (s:Int) (p:Nat) (X:Nat→Int):Prop:=TCk s s p X∧(∀ i,i < p→0≤X i)∧sumI X p≤65536
def SckP (s:Int) (p:Nat) (X:Nat→Int) (e:Ending):Prop:=∃ r1 r2:Int,e = .returned (.tuple #[.int .i64 r1,.int .i64 r2])∧(r1 = 0∧r2 = 0↔SCk s p X)
set_option maxRecDepth 8000 in
set_option maxHeartbeats 16000000 in
theorem check43 (s:Int) (co:Option Addr) (p cc:Nat) (X:Nat→Int) (w:World) (h:Sl w 1 co p cc (nuR X)) :
  Calls Tryz.prog 43 #[.agg #[.int .i64 s,.int .i64 s,.slice co p cc]] w fun e w'=>SckP s p X e∧Below w.heap.size w w':=by
 have hlm:=h.hm
 have hlc:=h.hc
 have B0:Hid (Below w.heap.size w (w.alloc (.cells #[.int .i64 s,.int .i64 s,.slice co p cc] 37))):=Lib.hid (by (repeat' (first | with_reducible (first | exact Below.refl _ _ | assumption | refine Below.drew ?_ | refine below_drewN ?_ _ | refine Below.alloc ?_ ?_ _ | refine Below.setCell ?_ ?_ _) | go_size)));have X0:=Lib.hid (al_at w (.cells #[.int .i64 s,.int .i64 s,.slice co p cc] 37) rfl);obtain ⟨w1,hw0⟩:∃ w1,w1 = w.alloc (.cells #[.int .i64 s,.int .i64 s,.slice co p cc] 37):=⟨_,rfl⟩;rw[←hw0] at B0 X0;have HW0:=Lib.hid hw0;clear hw0;have z0:=szs (block_lt X0.out);have x0_0:=cell_at X0.out 0;have x0_1:=cell_at X0.out 1;have x0_2:=cell_at X0.out 2
 have C1:=Lib.hid (check31 s s co p cc X w1 (h.below B0.out))
 have H:=Lib.hid h
 clear h
 go_enter Tryz.func43,Tryz.ntmps43
 go_simp
 ((repeat ((fail_if_success (rw[←HW0.out]));go_step));rw[←HW0.out])
 go_wp2_with fail
 refine C1.out.mono ?_
 rintro e w2 ⟨⟨r,rfl,hr⟩,b2⟩
 have B2:=Lib.hid (B0.out.trans (b2.mono B0.out.size))
 have HR:=Lib.hid hr
 by_cases hr0:r = 0
 ·have HT:=Lib.hid (hr.1 hr0)
  have x0:=cell_kept b2 x0_0
  have x1:=cell_kept b2 x0_1
  have x2:=cell_kept b2 x0_2
  have zx:=szs (Nat.lt_of_lt_of_le z0.1 b2.size)
  clear b2 x0_0 x0_1 x0_2 z0 C1 HW0 HR hr
  subst hr0
  have hp64:p≤64:=by
   have h1:=HT.out.1
   have h2:=HT.out.2.2.1
   have:=Int.mul_le_mul h1.2 h1.2 (by omega) (by omega)
   omega
  have HX1:=Lib.hid (HT.out.2.2.2)
  go_wp2_with fail
  clear x0 x1 x2 zx
  go_loopw [5,16] (fun s5 s16 wr=>∃ j:Nat,s16 = .int .i64 j∧s5 = .int .i64 (sumI X j)∧j≤p∧Hid (∀ i,i < j→0≤X i)∧wr = w2) (fun _ t _=>p - (intOf t).toNat)
  case atStart=>exact ⟨0,rfl,rfl,Nat.zero_le _,Lib.hid (fun i hi=>absurd hi (Nat.not_lt_zero _)),rfl⟩
  case round =>
   obtain ⟨j,rfl,rfl,hj,hok,hwr⟩:=hrel
   obtain rfl:=hwr.symm
   have HOK:=hok
   clear hok hwr
   have hsb:=sumI_bound (X:=X) (p:=j) (fun i hi=>⟨HOK.out i hi,(HX1.out i (by omega)).2⟩) j (Nat.le_refl _)
   obtain ⟨sm,hsm⟩:∃ sm,sm = sumI X j:=⟨_,rfl⟩
   rw[←hsm] at hsb ⊢
   have HSM:=Lib.hid hsm
   clear hsm
   by_cases hlt:j < p
   ·have t3:decide ((j:Int) < (p:Int)) = true:=decide_eq_true (by omega)
    have t3n:decide (j < p) = true:=decide_eq_true (by omega)
    obtain ⟨g1,o1,rfl,hg1,c1⟩:=(H.out.below B2.out).num1 hlt
    have zg1:=szs hg1
    have hjI:(j:Int) < (p:Int):=by omega
    have hxb:=HX1.out j hlt
    obtain ⟨y,hy⟩:∃ y,y = X j:=⟨_,rfl⟩
    rw[←hy] at c1 hxb
    have HY:=Lib.hid hy
    clear hg1 hy
    by_cases hn:y < 0
    ·have t4:decide (y < 0) = true:=decide_eq_true hn
     go_wp2_with fail
     go_returns
     exact ⟨⟨1,0,rfl,⟨fun e=>by omega,fun e=>by have:=e.2.1 j hlt;rw[←HY.out] at this;omega⟩⟩,B2.out⟩
    ·have t4:decide (y < 0) = false:=decide_eq_false hn
     have HN:Hid (∀ i,i < j+1→0≤X i):=Lib.hid (fun i hi=>by
      by_cases e:i = j
      ·subst e;rw[←HY.out];omega
      ·exact HOK.out i (by omega))
     have HS1:Hid (sumI X (j+1) = sm+y):=Lib.hid (by show sumI X j+X j = _;rw[←HSM.out,←HY.out])
     have ew:wrap64 (sm+y) = sm+y:=by unfold wrap64;omega
     go_wp2_with fail
     go_roundw
     case rel=>exact ⟨j+1,by go_num,by rw[HS1.out],by omega,HN,trivial⟩
     case measure=>simp [intOf] <;> omega
   ·have t3:decide ((j:Int) < (p:Int)) = false:=decide_eq_false (by omega)
    have t3n:decide (j < p) = false:=decide_eq_false (by omega)
    obtain rfl:j = p:=by omega
    by_cases hbig:sm > 65536
    ·have t5:decide (sm > 65536) = true:=decide_eq_true hbig
     have t5o:decide (65536 < sm) = true:=decide_eq_true hbig
     go_wp2_with fail
     go_returns
     exact ⟨⟨0,2,rfl,⟨fun e=>by omega,fun e=>by have:=e.2.2;rw[←HSM.out] at this;omega⟩⟩,B2.out⟩
    ·have t5:decide (sm > 65536) = false:=decide_eq_false hbig
     have t5o:decide (65536 < sm) = false:=decide_eq_false hbig
     go_wp2_with fail
     go_returns
     exact ⟨⟨0,0,rfl,⟨fun _=>⟨HT.out,HOK.out,by rw[←HSM.out];omega⟩,fun _=>⟨rfl,rfl⟩⟩⟩,B2.out⟩
 ·have t0:(r != 0) = true:=by simp [hr0]
  have HR0:=Lib.hid hr0
  clear hr hr0 b2
  go_wp2_with fail
  go_returns
  exact ⟨⟨r,0,rfl,⟨fun e=>absurd e.1 HR0.out,fun e=>absurd (HR.out.2 e.1) HR0.out⟩⟩,B2.out⟩
end Go.Proofs.YtdpoppilnokniaaGreatDoor
