/- Theorems of this seat. -/
import Derived.Test.YtdpoppilnokniaaGreatDoorWNSB
import Derived.Test.YtdpoppilnokniaaGreatDoorWLYP
import Derived.ScopeJumps
import Derived.WalkMore
import Derived.Laws.BitsAll
import Derived.Laws.BitsAllLaws
import Derived.Laws.Bits64
import Derived.Laws.Bits64b
import Derived.Laws.ShiftsVar
import Derived.Laws.ShiftsVarLaws
import Derived.Test.YtdpoppilnokniaaGreatDoorWCTY
namespace Go.Proofs.YtdpoppilnokniaaGreatDoor
open Go.RowKit Go.ChangeShapes Go.WideShapes Go.Deep
set_option linter.unusedVariables false
set_option linter.unusedSimpArgs false
set_option linter.unnecessarySimpa false
def u6R (U:Nat→Int):Nat→List Value:=fun i=>[.int .u64 (U i)]
theorem wrapU (x:Int):0≤IntKind.u64.wrap x∧IntKind.u64.wrap x < 18446744073709551616:=by
 have:IntKind.u64.wrap x = x % 18446744073709551616:=by first | rfl | simp [IntKind.wrap]
 rw[this];omega
theorem andU {a b:Int}(ha:0≤a∧a≤18446744073709551615) (hb:0≤b∧b < 18446744073709551616):0≤bits .and .u64 a b∧bits .and .u64 a b≤a:=by
 obtain ⟨x,rfl⟩:∃ x:Nat,a = x:=⟨a.toNat,by omega⟩
 obtain ⟨y,rfl⟩:∃ y:Nat,b = y:=⟨b.toNat,by omega⟩
 rw[bits_and_u64_nat x y (by omega) (by omega)]
 have:x &&& y≤x:=Nat.and_le_left
 omega
set_option maxRecDepth 8000 in
set_option maxHeartbeats 4000000 in
theorem Below47 (a:Option Addr) (m c:Nat) (U:Nat→Int) (n:Int) (w:World) (h:Sl w 1 a m c (u6R U)) (hU:∀ i,i < m→0≤U i∧U i≤18446744073709551615) (hn:1≤n∧n≤2000000000) :
  Calls Tryz.prog 47 #[.slice a m c,.int .i64 n] w fun e w'=>(∃ x u r:Int,e = .returned (.tuple #[.int .i64 x,.int .i64 u,.int .i64 r])∧(r = 0→0≤x∧x < n∧1≤u∧u≤m)∧(0 < m→U 0 < n→r = 0))∧w' = w:=by
 have hlm:=h.hm
 have hlc:=h.hc
 have d0:decide (n < 1) = false:=decide_eq_false (by omega)
 have d1:decide (n > 1125899906842624) = false:=decide_eq_false (by omega)
 have d1o:decide (1125899906842624 < n) = false:=decide_eq_false (by omega)
 have CL:=Lib.hid (fun (x:Int) (h0:0≤x) (h1:x≤18446744073709551615)=>Any.bits_Len64 len67 x w h0 h1)
 obtain ⟨K,hK⟩:∃ K,K = IntKind.u64.wrap (IntKind.u64.wrap (2 ^ min (Lib.bitLen (n.toNat - 1)) 64) - 1):=⟨_,rfl⟩
 have hKb:0≤K∧K < 18446744073709551616:=by rw[hK];exact wrapU _
 have HK:=Lib.hid hK
 clear hK
 go_enter Tryz.func47,Tryz.ntmps47
 go_wp2_with fail
 refine wp_scope_jumps 0 (fun a' w'=>w' = w∧∃ (j:Nat) (u9 u10 u11 u12 u13 u14 u15 u16 u17 u18 u19 u20 u21 u22 u23 u24 u25 u26 u27 u28 u29 u30 u31 u32 u33 u34 u35 u36 u37 u38 u39 u40:Value),a' = { tmps:=#[.slice a m c,.int .i64 n,undef,undef,.int .i64 0,.int .i64 0,.int .i64 0,.int .u64 K,.int .i64 j,u9,u10,u11,u12,u13,u14,u15,u16,u17,u18,u19,u20,u21,u22,u23,u24,u25,u26,u27,u28,u29,u30,u31,u32,u33,u34,u35,u36,u37,u38,u39,u40],defers:=[] }∧1≤j∧j≤m∧Hid (0 < m→n≤U 0)) (fun a' _=>m - (intOf (a'.tmps.getD 8 undef)).toNat) rfl ?_ ?_
 ·go_wp2_with fail
  refine (CL.out _ (by omega) (by omega)).mono ?_
  rintro e w1 ⟨rfl,rfl⟩
  go_wp2_with fail
  go_step3
  rw[←HK.out]
  clear HK
  by_cases hlt:m = 0
  ·subst hlt
   go_wp2_with fail
   simp only[Exit.jump]
   go_returns
   exact ⟨⟨_,_,_,rfl,fun e=>by omega,fun e=>by omega⟩,rfl⟩
  ·have t0:((0:Int) == (m:Int)) = false:=by simp;omega
   have t0n:(0 == m) = false:=by simp;omega
   have t0m:(m == 0) = false:=by simp;omega
   obtain ⟨g,o,rfl,hc⟩:=h.cell (show 0 < m by omega)
   have hc:w1.cell? ⟨g,o,none⟩ = some (.int .u64 (U 0)):=by have:=hc 0 (by decide);rw[Nat.zero_mul] at this;exact this
   have hz:=szs (cell_lt hc)
   have hx:=andU (hU 0 (by omega)) hKb
   obtain ⟨x,hxe⟩:∃ x,x = bits .and .u64 (U 0) K:=⟨_,rfl⟩
   rw[←hxe] at hx
   have HXE:=Lib.hid hxe
   by_cases hge:n≤x
   ·have d2:decide (x≥n) = true:=decide_eq_true hge
    have d2o:decide (n≤x) = true:=decide_eq_true hge
    have HB:Hid (0 < m→n≤U 0):=Lib.hid (fun _=>by omega)
    clear hxe
    go_wp2_with (rw[←HXE.out])
    go_step3
    refine ⟨rfl,rfl,1,_,_,_,_,_,_,_,_,_,_,_,_,_,_,_,_,_,_,_,_,_,_,_,_,_,_,_,_,_,_,_,_,rfl,by omega,by omega,HB⟩
   ·have d2:decide (x≥n) = false:=decide_eq_false hge
    have d2o:decide (n≤x) = false:=decide_eq_false hge
    have HX:Hid (0≤x∧x < n):=Lib.hid ⟨hx.1,by omega⟩
    have hw:wrap64 x = x:=by unfold wrap64;omega
    clear hxe
    go_wp2_with (rw[←HXE.out])
    simp only[Exit.jump]
    go_returns
    exact ⟨⟨_,_,_,rfl,fun _=>⟨HX.out.1,HX.out.2,by omega,by omega⟩,fun _ _=>rfl⟩,rfl⟩
 ·rintro a' w' ⟨rfl,j,u9,u10,u11,u12,u13,u14,u15,u16,u17,u18,u19,u20,u21,u22,u23,u24,u25,u26,u27,u28,u29,u30,u31,u32,u33,u34,u35,u36,u37,u38,u39,u40,rfl,hj1,hj,hb⟩
  by_cases hlt:(j:Int) = (m:Int)
  ·have t0:((j:Int) == (m:Int)) = true:=by simp [hlt]
   have t0n:(j == m) = true:=by simp;omega
   go_wp2_with fail
   simp only[Exit.jump]
   go_returns
   exact ⟨⟨_,_,_,rfl,fun e=>by omega,fun e1 e2=>by have:=hb.out e1;omega⟩,rfl⟩
  ·have t0:((j:Int) == (m:Int)) = false:=by simp;omega
   have t0n:(j == m) = false:=by simp;omega
   obtain ⟨g,o,rfl,hc⟩:=h.cell (show j < m by omega)
   have hc:w'.cell? ⟨g,o+j,none⟩ = some (.int .u64 (U j)):=by have:=hc 0 (by decide);rw[Nat.mul_one,Nat.add_zero] at this;exact this
   have hx:=andU (hU j (by omega)) hKb
   obtain ⟨x,hxe⟩:∃ x,x = bits .and .u64 (U j) K:=⟨_,rfl⟩
   rw[←hxe] at hx
   have HXE:=Lib.hid hxe
   by_cases hge:n≤x
   ·have d2:decide (x≥n) = true:=decide_eq_true hge
    have d2o:decide (n≤x) = true:=decide_eq_true hge
    clear hxe
    go_wp2_with (rw[←HXE.out])
    go_step3
    refine ⟨rfl,⟨rfl,j+1,_,_,_,_,_,_,_,_,_,_,_,_,_,_,_,_,_,_,_,_,_,_,_,_,_,_,_,_,_,_,_,_,rfl,by omega,by omega,hb⟩,?_⟩
    simp [intOf]
    omega
   ·have d2:decide (x≥n) = false:=decide_eq_false hge
    have d2o:decide (n≤x) = false:=decide_eq_false hge
    have HX:Hid (0≤x∧x < n):=Lib.hid ⟨hx.1,by omega⟩
    have hw:wrap64 x = x:=by unfold wrap64;omega
    clear hxe
    go_wp2_with (rw[←HXE.out])
    simp only[Exit.jump]
    go_returns
    exact ⟨⟨_,_,_,rfl,fun _=>⟨HX.out.1,HX.out.2,by omega,by omega⟩,fun _ _=>rfl⟩,rfl⟩
end Go.Proofs.YtdpoppilnokniaaGreatDoor
namespace Go.Proofs.YtdpoppilnokniaaGreatDoor
open Go.RowKit Go.ChangeShapes Go.WideShapes Go.Deep
set_option linter.unusedVariables false
set_option linter.unusedSimpArgs false
set_option linter.unnecessarySimpa false
theorem infoN3:(Tryz.prog.info? 3).map (fun i=>(i.zero,i.size,i.bytes)) = some (some (.int .i64 0),1,8):=by kernel_rfl
theorem wpList_append_N {ops:Array Oper}{rest:List Oper}{o:Oper}{a:Act}{Q:Exit→Act→World→Prop}(w:World) (hgd:o.guard = none) (x1 x2:Operand) (ho:o.op = .call { callee:=.builtin .append,args:=#[x1,x2],argTypes:=#[22,22] })
  (base:Nat) (v:Value) (n:Nat) (F:Nat→Int) (hs:a.eval x1 = v) (h1:Row w base 3 1 v n (nuR F)) (b1:Nat) (x:Int) (hx:a.eval x2 = .slice (some ⟨b1,0,none⟩) 1 1) (ob:TypeId) (fz:Nat×Nat) (hb1:w.heap[b1]? = some (.cells #[.int .i64 x] ob fz)) (hn:n≤1000000) (hb:base≤w.heap.size)
  (h:∀ g cap w',n+1≤cap→cap≤9223372036854775807→g < w'.heap.size→(v.ownBlock = some g∨w.heap.size≤g)→Row w' base 3 1 (.slice (some ⟨g,0,none⟩) (n+1) cap) (n+1) (nuR (upd F n x))→Off (fun i=>v.ownBlock = some i) w w'→wpList Tryz.prog ops Q rest (a.put o.dst (.slice (some ⟨g,0,none⟩) (n+1) cap)) w'):wpList Tryz.prog ops Q (o :: rest) a w:=by
 obtain ⟨i0,hi,hz0,hz1,hz2⟩:=info_parts infoN3
 refine wpList_append_row w hgd x1 x2 22 ho base 3 i0 _ 1 8 Tryz.underlying22 hi hz0 hz1 hz2 rfl (by decide) v n (nuR F) hs h1 (fun i=>rfl) b1 1 [.int .i64 x] hx rfl ob fz hb1 (fun u hu=>by obtain rfl:=List.mem_singleton.1 hu;rfl) (by omega) (by unfold maxLen;omega) hb ?_
 intro g cap w' k1 k2 k3 k4 k5 r b
 refine h g cap w' k1 k2 k4 k5 (Row.congr r (fun i _=>?_)) ((Off.of_grown b).mono (fun i _ h=>by first | exact h | exact h.symm))
 show upd (nuR F) n _ i = nuR (upd F n x) i
 by_cases e:i = n
 ·subst e;rw[upd_same];simp [nuR,upd]
 ·rw[upd_ne e];simp [nuR,upd,e]
theorem mkRoom (n:Nat) (hn:n≤1000) (w:World):(Instr.makeSlice 22 (.int .i64 0) (.int .i64 n)).run Tryz.prog w = .ok (.slice (some ⟨w.heap.size,0,none⟩) 0 n) (w.alloc (.cells (madeCells #[.int .i64 0] (n * 1)) 3)):=by
 obtain ⟨i,hi,h0,h1,h2⟩:=info_parts infoN3
 have:=run_make (P:=Tryz.prog) w 22 3 i _ Tryz.underlying22 hi h0 .i64 .i64 0 n (by omega) (by omega) (by rw[h2];omega) (by omega)
 rw[h1,Int.toNat_natCast] at this
 exact this
theorem Row.room {w:World}{base b n:Nat}(h:w.heap[b]? = some (.cells (madeCells #[.int .i64 0] (n * 1)) 3 (0,0))) (hb:base≤b) (hn:n≤1000) (f:Nat→List Value):Row w base 3 1 (.slice (some ⟨b,0,none⟩) 0 n) 0 f :=
 ⟨by simp [flat],.inr ⟨b,n,_,rfl,hb,h,Nat.zero_le _,by unfold maxLen;omega,by simp [size_madeCells],by simp [flat]⟩⟩
theorem fromU {w:World}{uo:Option Addr}{k kc:Nat}{U:Nat→Int}(h:Sl w 1 uo k kc (u6R U)) {q:Nat}(hq:q≤k):∃ uo',(Instr.sliceAt 51 (.slice uo k kc) (some (.int .i64 q)) none none).run Tryz.prog w = .ok (.slice uo' (k - q) (kc - q)) w∧∀ w',Below w.heap.size w w'→Sl w' 1 uo' (k - q) (kc - q) (u6R (fun i=>U (q+i))):=by
 have hlm:=h.hm
 have hlc:=h.hc
 cases uo with
 | none =>
  obtain ⟨rfl,rfl⟩:=h.hno rfl
  obtain rfl:q = 0:=by omega
  refine ⟨none,?_,fun w' hb=>(h.below hb).congr (fun i=>by show _ = [Value.int .u64 (U (0+i))];rw[Nat.zero_add];rfl)⟩
  go_simp
 | some a =>
  by_cases hc:kc = q
  ·obtain rfl:k = q:=by omega
   subst hc
   refine ⟨some a,?_,fun w' hb=>⟨by omega,by omega,fun e=>by omega,fun i=>rfl,fun i hi=>by omega⟩⟩
   go_simp
  ·refine ⟨some (a.add q),?_,fun w' hb=>⟨by omega,by omega,fun e=>(by cases e),fun i=>rfl,fun i hi=>?_⟩⟩
   ·go_simp
   ·obtain ⟨g,o,e,hcl⟩:=(h.below hb).cell (show q+i < k by omega)
    cases e
    refine ⟨g,o+q,by first | rfl | simp [Addr.add],fun j hj=>?_⟩
    have:=hcl j hj
    rw[show o+q+i * 1+j = o+(q+i) * 1+j by omega]
    exact this
def AddP (n:Nat) (W:Nat→Int) (m:Nat) (X:Nat→Int) (k:Nat) (U:Nat→Int) (base:Nat) (v:Value) (r:Int) (w':World):Prop :=
 (r = 0→NOK n W∧m≤512∧∃ Z:Nat→Int,Row w' base 3 1 v m (nuR Z)∧∀ i,i < m→X i - n < Z i∧Z i < X i+n) ∧
 (NOK n W→m = 1→0 < k→U 0 < totS W (n - 1)→-1000000≤X 0→X 0≤1000000→r = 0)
set_option maxRecDepth 8000 in
set_option maxHeartbeats 16000000 in
theorem Add26 (a:Option Addr) (n c:Nat) (W:Nat→Int) (lo:Option Addr) (m lc:Nat) (X:Nat→Int) (uo:Option Addr) (k kc:Nat) (U:Nat→Int) (w:World) (h:Sl w 1 a n c (nuR W)) (hs:Sgn w) (hl:Sl w 1 lo m lc (nuR X)) (hu:Sl w 1 uo k kc (u6R U)) (hU:∀ i,i < k→0≤U i∧U i≤18446744073709551615) :
  Calls Tryz.prog 26 #[.agg #[.slice a n c],.slice lo m lc,.slice uo k kc] w fun e w'=>(∃ (v:Value) (al r:Int),e = .returned (.tuple #[v,.int .i64 al,.int .i64 r])∧AddP n W m X k U w.heap.size v r w')∧Below w.heap.size w w':=by
 have hkm:=hu.hm
 have hkc:=hu.hc
 have hmm:=hl.hm
 have hmc:=hl.hc
 have B0:Hid (Below w.heap.size w (w.alloc (.cells #[.slice a n c] 40))):=Lib.hid (by (repeat' (first | with_reducible (first | exact Below.refl _ _ | assumption | refine Below.drew ?_ | refine below_drewN ?_ _ | refine Below.alloc ?_ ?_ _ | refine Below.setCell ?_ ?_ _) | go_size)));have X0:=Lib.hid (al_at w (.cells #[.slice a n c] 40) rfl);obtain ⟨w1,hw0⟩:∃ w1,w1 = w.alloc (.cells #[.slice a n c] 40):=⟨_,rfl⟩;rw[←hw0] at B0 X0;have HW0:=Lib.hid hw0;clear hw0;have z0:=szs (block_lt X0.out);have x0_0:=cell_at X0.out 0
 have C1:=Lib.hid (Total46 a n c W w1 (h.below B0.out))
 have CA:=Lib.hid (fun (hok:NOK n W) (x:Int) (hx:0≤x∧x < totS W (n - 1)) (w':World) (b:Below w1.heap.size w1 w')=>At48 a n c W x w' ((h.below B0.out).below b) ((hs.below B0.out).below b) hok hx)
 have HL:=Lib.hid (hl.below B0.out)
 have HU:=Lib.hid (hu.below B0.out)
 have HUB:=Lib.hid hU
 clear h hs hl hu hU
 go_enter Tryz.func26,Tryz.ntmps26
 go_simp
 ((repeat ((fail_if_success (rw[←HW0.out]));go_step));rw[←HW0.out])
 go_wp2_with fail
 refine C1.out.mono ?_
 rintro e w2 ⟨⟨t,r,rfl,hr,hr2⟩,b2⟩
 have B2:=Lib.hid b2
 have x2:=cell_kept b2 x0_0
 have z2:=szs (Nat.lt_of_lt_of_le z0.1 b2.size)
 try dsimp only at x2
 have BB:=Lib.hid (B0.out.trans (b2.mono B0.out.size))
 clear b2 x0_0 z0 C1
 by_cases h0:r = 0
 ·subst h0
  have hok:=hr.1 rfl
  have HOK:=Lib.hid hok
  have HT:=Lib.hid (hr2 hok)
  have htb:=totS_bound hok (n - 1) (by have:=hok.1;omega)
  rw[←hr2 hok] at htb
  have hn2:=hok.2.1
  have hn1:=hok.1
  have ht:1≤t∧t≤2000000000:=by omega
  clear hr hr2 hok htb
  by_cases hm5:(m:Int) > 512
  ·have d0:decide ((m:Int) > 512) = true:=decide_eq_true hm5
   have d0o:decide (512 < (m:Int)) = true:=decide_eq_true hm5
   go_wp2_with fail
   go_returns
   exact ⟨⟨_,_,8,rfl,fun e=>by omega,fun _ e=>by omega⟩,BB.out⟩
  have d0:decide ((m:Int) > 512) = false:=decide_eq_false hm5
  have d0o:decide (512 < (m:Int)) = false:=decide_eq_false hm5
  go_wp2_with fail
  go_loopw [35] (fun s wr=>∃ j:Nat,s = .int .i64 j∧j≤m∧Hid (∀ l,l < j→-1000000≤X l∧X l≤1000000)∧wr = w2) (fun s _=>m - (intOf s).toNat)
  case atStart=>exact ⟨0,rfl,Nat.zero_le _,Lib.hid (fun l hl=>absurd hl (Nat.not_lt_zero _)),rfl⟩
  case round =>
   obtain ⟨j,rfl,hj,hxb,rfl⟩:=hrel
   have HXB:=hxb
   clear hxb
   by_cases hlt:j < m
   ·have t3:decide ((j:Int) < (m:Int)) = true:=decide_eq_true (by omega)
    have t3n:decide (j < m) = true:=decide_eq_true (by omega)
    obtain ⟨g,o,rfl,hg,hcs⟩:=(HL.out.below B2.out).ints (show 0 < m by omega)
    have u0:=hcs j hlt
    clear hcs
    by_cases k0:X j < -1000000
    ·have d1:decide (X j < -1000000) = true:=decide_eq_true k0
     go_wp2_with fail
     go_returns
     exact ⟨⟨_,_,1,rfl,fun e=>by omega,fun _ e _ _ e1 e2=>by obtain rfl:j = 0:=(by omega);omega⟩,BB.out⟩
    have d1:decide (X j < -1000000) = false:=decide_eq_false k0
    by_cases k1:X j > 1000000
    ·have d2:decide (X j > 1000000) = true:=decide_eq_true k1
     have d2o:decide (1000000 < X j) = true:=decide_eq_true k1
     go_wp2_with fail
     go_returns
     exact ⟨⟨_,_,1,rfl,fun e=>by omega,fun _ e _ _ e1 e2=>by obtain rfl:j = 0:=(by omega);omega⟩,BB.out⟩
    have d2:decide (X j > 1000000) = false:=decide_eq_false k1
    have d2o:decide (1000000 < X j) = false:=decide_eq_false k1
    have HN:Hid (∀ l,l < j+1→-1000000≤X l∧X l≤1000000):=Lib.hid (fun l hl=>by
     by_cases e:l = j
     ·subst e;omega
     ·exact HXB.out l (by omega))
    go_wp2_with fail
    go_roundw
    case rel=>exact ⟨j+1,by go_num,by omega,HN,trivial⟩
    case measure=>simp [intOf] <;> omega
   ·have t3:decide ((j:Int) < (m:Int)) = false:=decide_eq_false (by omega)
    have t3n:decide (j < m) = false:=decide_eq_false (by omega)
    have hmk:=mkRoom m (by omega) wr
    have B4:Hid (Below wr.heap.size wr (wr.alloc (.cells (madeCells #[.int .i64 0] (m * 1)) 3))):=Lib.hid (by (repeat' (first | with_reducible (first | exact Below.refl _ _ | assumption | refine Below.drew ?_ | refine below_drewN ?_ _ | refine Below.alloc ?_ ?_ _ | refine Below.setCell ?_ ?_ _) | go_size)));have X4:=Lib.hid (al_at wr (.cells (madeCells #[.int .i64 0] (m * 1)) 3) rfl);obtain ⟨w4,hw4⟩:∃ w4,w4 = wr.alloc (.cells (madeCells #[.int .i64 0] (m * 1)) 3):=⟨_,rfl⟩;rw[←hw4] at B4 X4;have HW4:=Lib.hid hw4;clear hw4;have z4:=szs (block_lt X4.out);skip
    have HM:Hid (Row w4 wr.heap.size 3 1 (.slice (some ⟨wr.heap.size,0,none⟩) 0 m) 0 (nuR X)):=Lib.hid (Row.room X4.out (Nat.le_refl _) (by omega) _)
    obtain ⟨qb,hqb⟩:∃ qb,qb = wr.heap.size:=⟨_,rfl⟩
    have hqw:w.heap.size < qb:=by rw[hqb];exact z2.1
    have hqs:qb≤w4.heap.size:=by rw[hqb];exact B4.out.size
    have hq1:w1.heap.size≤qb:=by rw[hqb];exact B2.out.size
    have XB:Hid (w4.heap[w.heap.size]? = some (.cells #[.slice a n c] 40 (0,0))):=Lib.hid ((B4.out.block _ z2.1).trans ((B2.out.block _ (block_lt X0.out)).trans X0.out))
    rw[←hqb] at HM
    have x4:=cell_kept B4.out x2
    try dsimp only at x4
    obtain ⟨MC,hmc0⟩:∃ MC,MC = madeCells #[.int .i64 0] (m * 1):=⟨_,rfl⟩
    rw[←hmc0] at hmk
    have HW5:Hid (w4 = wr.alloc (.cells MC 3)):=Lib.hid (by rw[hmc0];exact HW4.out)
    have HQ:=Lib.hid hqb
    have BB4:Hid (Below qb wr w4):=Lib.hid (by rw[hqb];exact B4.out)
    clear hmc0 X4 HW4 hqb
    go_wp2_with fail
    rw[←HW5.out,←HQ.out]
    clear hmk HW5 HQ z2 x2 B4 z4
    go_loopw [13,14,51] (fun s13 s14 s51 wr=>∃ (i al:Nat) (v:Value) (Z:Nat→Int),s13 = v∧s14 = .int .i64 al∧s51 = .int .i64 i∧i≤m∧al≤k∧Hid (Row wr qb 3 1 v i (nuR Z))∧Hid (∀ l,l < i→X l - n < Z l∧Z l < X l+n)∧Hid (i = 0→al = 0)∧Hid (Below qb w4 wr)) (fun _ _ s _=>m - (intOf s).toNat)
    case atStart=>exact ⟨0,0,_,X,rfl,rfl,rfl,Nat.zero_le _,Nat.zero_le _,HM,Lib.hid (fun l hl=>absurd hl (Nat.not_lt_zero _)),Lib.hid (fun _=>rfl),Lib.hid (Below.refl _ _)⟩
    case round =>
     obtain ⟨i,al,v,Z,rfl,rfl,rfl,hi,hal,hrow,hz,hz0,hbel⟩:=hrel
     have HR:=hrow
     have HZ:=hz
     have HZ0:=hz0
     have HB:=hbel
     clear hrow hz hz0 hbel HM
     have hbq:Hid (Below w1.heap.size w1 wr):=Lib.hid (B2.out.trans ((BB4.out.trans HB.out).mono hq1))
     have XQ:=Lib.hid ((HB.out.block _ hqw).trans XB.out)
     have xq:=cell_at XQ.out 0
     have zq:=szs (block_lt XQ.out)
     by_cases hlt2:i < m
     ·have t4:decide ((i:Int) < (m:Int)) = true:=decide_eq_true (by omega)
      have t4n:decide (i < m) = true:=decide_eq_true (by omega)
      obtain ⟨g,o,rfl,hg,hcs⟩:=(HL.out.below hbq.out).ints (show 0 < m by omega)
      have u0:=hcs i hlt2
      obtain ⟨uo',hrun,hsl⟩:=fromU (HU.out.below hbq.out) hal
      have CB:=Lib.hid (Below47 uo' (k - al) (kc - al) (fun l=>U (al+l)) t wr (hsl wr (Below.refl _ _)) (fun l hl=>HUB.out (al+l) (by omega)) ht)
      clear hcs hsl
      go_wp2_with fail
      refine CB.out.mono ?_
      rintro e w6 ⟨⟨x,u,r',rfl,hr1,hr2⟩,rfl⟩
      by_cases hr0:r' = 0
      ·subst hr0
       obtain ⟨hx0,hx1,hu1,hu2⟩:=hr1 rfl
       obtain ⟨u',rfl⟩:∃ u':Nat,u = u':=⟨u.toNat,by omega⟩
       have hal2:al+u'≤k:=by omega
       have CC:=Lib.hid (CA.out HOK.out x ⟨hx0,by rw[←HT.out];exact hx1⟩ w6 hbq.out)
       clear hr1 hr2 CB hrun
       go_wp2_with fail
       refine CC.out.mono ?_
       rintro e w7 ⟨⟨v',rfl,hv1,hv2⟩,b7⟩
       have B7:=Lib.hid (HB.out.trans (b7.mono (by have:=HB.out.size;omega)))
       have R7:=Lib.hid (Row.off (X:=fun _=>False) HR.out (Off.of_below b7) (fun _ _ h=>h))
       clear CC b7 u0 xq zq HR HB
       have B8:Hid (Below w7.heap.size w7 (w7.alloc (.cells #[.int .i64 (X i+v')] 3))):=Lib.hid (by (repeat' (first | with_reducible (first | exact Below.refl _ _ | assumption | refine Below.drew ?_ | refine below_drewN ?_ _ | refine Below.alloc ?_ ?_ _ | refine Below.setCell ?_ ?_ _) | go_size)));have X8:=Lib.hid (al_at w7 (.cells #[.int .i64 (X i+v')] 3) rfl);obtain ⟨w8,hw8⟩:∃ w8,w8 = w7.alloc (.cells #[.int .i64 (X i+v')] 3):=⟨_,rfl⟩;rw[←hw8] at B8 X8;have HW8:=Lib.hid hw8;clear hw8;have z8:=szs (block_lt X8.out);skip
       have R8:=Lib.hid (Row.off (X:=fun _=>False) R7.out (Off.of_below B8.out) (fun _ _ h=>h))
       have B8':=Lib.hid (B7.out.trans (B8.out.mono (by have:=B7.out.size;omega)))
       have hle:qb≤w8.heap.size:=by have:=B8'.out.size;omega
       have hx1:-1000000≤X i∧X i≤1000000:=HXB.out i (by omega)
       have hv:-33≤v'∧v'≤33:=by omega
       obtain ⟨q8,hq8⟩:∃ q8,q8 = w7.heap.size:=⟨_,rfl⟩
       rw[←hq8] at X8
       have HQ8:=Lib.hid hq8
       clear hq8
       go_simp
       ((repeat ((fail_if_success (rw[←HW8.out]));go_step));rw[←HW8.out])
       rw[←HQ8.out]
       go_wp2_with (at_builtin;go_loud (refine wpList_append_N _ rfl (.tmp 75) (.tmp 79) rfl qb _ i Z rfl R8.out q8 (X i+v') rfl 3 (0,0) X8.out (by omega) hle ?_))
       intro g12 cap12 w12 c1 c2 c3 c4 r12 o12
       have R12:=Lib.hid r12
       have B12:=Lib.hid (B8'.out.trans (o12.toBelow hle (fun q hq h=>by have:=(World.ownsRow.lt R8.out q h).1;omega)))
       have HZ2:Hid (∀ l,l < i+1→X l - n < upd Z i (X i+v') l∧upd Z i (X i+v') l < X l+n):=Lib.hid (fun l hl=>by
        by_cases e:l = i
        ·subst e;rw[upd_same];omega
        ·rw[upd_ne e];exact HZ.out l (by omega))
       have HZ3:Hid (i+1 = 0→al+u' = 0):=Lib.hid (fun e=>by omega)
       clear r12 o12 R8 R7 B8 X8 B7 B8' HQ8 hle HW8 HZ HZ0 c4
       go_wp2_with fail
       go_roundw
       case rel=>exact ⟨i+1,al+u',_,upd Z i (X i+v'),rfl,by go_num,by go_num,by omega,hal2,R12,HZ2,HZ3,B12⟩
       case measure=>simp [intOf] <;> omega
      ·have t5:(r' != 0) = true:=by simp [hr0]
       have HN:Hid (∀ r0:Int,m = 1→0 < k→U 0 < totS W (n - 1)→r0 = 0):=Lib.hid (fun r0 e1 e2 e3=>by
        exfalso
        obtain rfl:i = 0:=by omega
        obtain rfl:al = 0:=HZ0.out rfl
        exact hr0 (hr2 (by omega) (by rw[HT.out];exact e3)))
       clear hr1 hr2 hr0
       go_wp2_with fail
       go_returns
       exact ⟨⟨_,_,4,rfl,fun e=>by omega,fun _ e1 e2 e3 _ _=>HN.out 4 e1 e2 e3⟩,BB.out.trans ((BB4.out.trans HB.out).mono (by omega))⟩
     ·have t4:decide ((i:Int) < (m:Int)) = false:=decide_eq_false (by omega)
      have t4n:decide (i < m) = false:=decide_eq_false (by omega)
      obtain rfl:i = m:=by omega
      go_wp2_with fail
      go_returns
      refine ⟨⟨_,_,0,rfl,fun _=>⟨HOK.out,by omega,Z,Row.base_mono HR.out (by omega),HZ.out⟩,fun _ _ _ _ _ _=>rfl⟩,BB.out.trans ((BB4.out.trans HB.out).mono (by omega))⟩
 ·have t0:(r != 0) = true:=by simp [h0]
  have HR:=Lib.hid hr
  have H0:=Lib.hid h0
  clear hr h0
  go_wp2_with fail
  go_returns
  exact ⟨⟨_,_,r,rfl,fun e=>absurd e H0.out,fun q=>absurd (HR.out.2 q) H0.out⟩,BB.out⟩
end Go.Proofs.YtdpoppilnokniaaGreatDoor
