/- Theorems of this seat. -/
import Derived.Test.YtdpoppilnokniaaGreatDoorWBA
import Derived.Test.YtdpoppilnokniaaGreatDoorWST8
import Derived.BigQuiet
import Derived.WalkLawsBesides
import Derived.BigRegion
namespace Go.Proofs.YtdpoppilnokniaaGreatDoor
set_option linter.unusedVariables false
set_option linter.unusedSimpArgs false
def wts (num den:Int):Nat→Int
 | 0=>16777216
 | d+1=>(wts num den d * den+num - 1) / num
section
variable {num den:Int}
theorem wts_pos (hd:1≤den) (hn:den≤num):∀ d,1≤wts num den d∧wts num den d≤16777216
 | 0=>by unfold wts;omega
 | d+1=>by
  have ⟨h1,h2⟩:=wts_pos hd hn d
  have hp:0 < num:=by omega
  unfold wts
  have a:num≤wts num den d * den+num - 1:=by
   have:1 * 1≤wts num den d * den:=Int.mul_le_mul h1 hd (by omega) (by omega)
   omega
  have b:wts num den d * den+num - 1 < (wts num den d+1) * num:=by
   have:wts num den d * den≤wts num den d * num:=Int.mul_le_mul_of_nonneg_left hn (by omega)
   rw[Int.add_mul];omega
  have c:=Int.ediv_lt_of_lt_mul hp b
  have e:1≤(wts num den d * den+num - 1) / num:=(Int.le_ediv_iff_mul_le hp).2 (by omega)
  omega
theorem wts_step (hd:1≤den) (hn:den≤num) (d:Nat):wts num den (d+1)≤wts num den d∧den * wts num den d≤num * wts num den (d+1):=by
 have ⟨h1,h2⟩:=wts_pos hd hn d
 have hp:0 < num:=by omega
 have b:wts num den d * den+num - 1 < (wts num den d+1) * num:=by
  have:wts num den d * den≤wts num den d * num:=Int.mul_le_mul_of_nonneg_left hn (by omega)
  rw[Int.add_mul];omega
 have c:=Int.ediv_lt_of_lt_mul hp b
 refine ⟨by show (wts num den d * den+num - 1) / num≤_;omega,?_⟩
 show den * wts num den d≤num * ((wts num den d * den+num - 1) / num)
 have e:=Int.emod_add_mul_ediv (wts num den d * den+num - 1) num
 have f:=Int.emod_lt_of_pos (wts num den d * den+num - 1) hp
 have g:den * wts num den d = wts num den d * den:=Int.mul_comm _ _
 omega
theorem wts_mono (hd:1≤den) (hn:den≤num) (d:Nat):∀ k,wts num den (d+k)≤wts num den d
 | 0=>Int.le_refl _
 | k+1=>Int.le_trans (wts_step hd hn (d+k)).1 (wts_mono hd hn d k)
theorem wts_pow (hd:1≤den) (hn:den≤num) (d:Nat):∀ k,den ^ k * wts num den d≤num ^ k * wts num den (d+k)
 | 0=>by simp
 | k+1=>by
  have i:=wts_pow hd hn d k
  have s:=(wts_step hd hn (d+k)).2
  have nk:0≤num ^ k:=Int.pow_nonneg (by omega)
  calc den ^ (k+1) * wts num den d = den * (den ^ k * wts num den d):=by rw[Int.pow_succ,Int.mul_comm (den ^ k) den,Int.mul_assoc]
   _≤den * (num ^ k * wts num den (d+k)):=Int.mul_le_mul_of_nonneg_left i (by omega)
   _ = num ^ k * (den * wts num den (d+k)):=by rw[←Int.mul_assoc,Int.mul_comm den,Int.mul_assoc]
   _≤num ^ k * (num * wts num den (d+k+1)):=Int.mul_le_mul_of_nonneg_left s nk
   _ = num ^ (k+1) * wts num den (d+(k+1)):=by rw[Int.pow_succ,Int.mul_assoc];rfl
theorem pow_le (hd:1≤den) (hn:den≤num):∀ k:Nat,den ^ k≤num ^ k∧0 < den ^ k
 | 0=>by simp
 | k+1=>by
  have ⟨a,b⟩:=pow_le hd hn k
  rw[Int.pow_succ,Int.pow_succ]
  exact ⟨Int.mul_le_mul a hn (by omega) (Int.pow_nonneg (by omega)),Int.mul_pos b (by omega)⟩
theorem wts_alike (hd:1≤den) (hn:den≤num) {d e k:Nat}(h:d≤e+k) (h':e≤d+k):den ^ k * wts num den d≤num ^ k * wts num den e:=by
 have ⟨p1,p2⟩:=pow_le hd hn k
 have pe:=(wts_pos hd hn e).1
 have pd:=(wts_pos hd hn d).1
 rcases Nat.le_total e d with q | q
 ·obtain ⟨j,rfl⟩:∃ j,d = e+j:=⟨d - e,by omega⟩
  have m:=wts_mono hd hn e j
  calc den ^ k * wts num den (e+j)≤den ^ k * wts num den e:=Int.mul_le_mul_of_nonneg_left m (by omega)
   _≤num ^ k * wts num den e:=Int.mul_le_mul_of_nonneg_right p1 (by omega)
 ·obtain ⟨j,rfl⟩:∃ j,e = d+j:=⟨e - d,by omega⟩
  obtain ⟨i,rfl⟩:∃ i,k = j+i:=⟨k - j,by omega⟩
  have w:=wts_pow hd hn d j
  have ⟨q1,q2⟩:=pow_le hd hn i
  have q3:0≤num ^ j:=Int.pow_nonneg (by omega)
  have pj:=(wts_pos hd hn (d+j)).1
  calc den ^ (j+i) * wts num den d = den ^ i * (den ^ j * wts num den d):=by rw[Int.pow_add,Int.mul_comm (den ^ j),Int.mul_assoc]
   _≤den ^ i * (num ^ j * wts num den (d+j)):=Int.mul_le_mul_of_nonneg_left w (by omega)
   _≤num ^ i * (num ^ j * wts num den (d+j)):=Int.mul_le_mul_of_nonneg_right q1 (Int.mul_nonneg q3 (by omega))
   _ = num ^ (j+i) * wts num den (d+j):=by rw[Int.pow_add,←Int.mul_assoc,Int.mul_comm (num ^ i)]
end
end Go.Proofs.YtdpoppilnokniaaGreatDoor
namespace Go.Proofs.YtdpoppilnokniaaGreatDoor
open Go.RowKit Go.ChangeShapes Go.WideShapes Go.Deep
set_option linter.unusedVariables false
set_option linter.unusedSimpArgs false
set_option linter.unnecessarySimpa false
theorem Sl.ints {w:World}{ao:Option Addr}{n c:Nat}{W:Nat→Int}(h:Sl w 1 ao n c (nuR W)) (hn:0 < n):∃ g o,ao = some ⟨g,o,none⟩∧g < w.heap.size∧∀ j,j < n→w.cell? ⟨g,o+j,none⟩ = some (.int .i64 (W j)):=by
 obtain ⟨g,o,rfl,h0⟩:=h.cell hn
 refine ⟨g,o,rfl,cell_lt (by have:=h0 0 (by decide);exact this),fun j hj=>?_⟩
 obtain ⟨g',o',e,hc⟩:=h.cell hj
 cases e
 have:=hc 0 (by decide)
 rw[Nat.mul_one,Nat.add_zero] at this
 exact this
def NOK (n:Nat) (W:Nat→Int):Prop:=1≤n∧n≤33∧∀ i,i < n→1≤W i∧W i≤16777216∧(0 < i→W i≤W (i - 1))
set_option maxRecDepth 4000 in
set_option maxHeartbeats 4000000 in
theorem check32 (a:Option Addr) (n c:Nat) (W:Nat→Int) (w:World) (h:Sl w 1 a n c (nuR W)) :
  Calls Tryz.prog 32 #[.agg #[.slice a n c]] w fun e w'=>(∃ r:Int,e = .returned (.int .i64 r)∧(r = 0↔NOK n W))∧Below w.heap.size w w':=by
 have hlm:=h.hm
 have hlc:=h.hc
 have B0:Hid (Below w.heap.size w (w.alloc (.cells #[.slice a n c] 40))):=Lib.hid (by (repeat' (first | with_reducible (first | exact Below.refl _ _ | assumption | refine Below.drew ?_ | refine below_drewN ?_ _ | refine Below.alloc ?_ ?_ _ | refine Below.setCell ?_ ?_ _) | go_size)))
 have X0:=Lib.hid (al_at w (.cells #[.slice a n c] 40) rfl)
 obtain ⟨w1,hw1⟩:∃ w1,w1 = w.alloc (.cells #[.slice a n c] 40):=⟨_,rfl⟩
 rw[←hw1] at B0 X0
 have HW1:=Lib.hid hw1
 have H:=Lib.hid (h.below B0.out)
 clear h hw1
 have x0:=cell_at X0.out 0
 have zx:=szs (block_lt X0.out)
 by_cases h0:(n:Int) < 1
 ·have t0:decide ((n:Int) < 1) = true:=decide_eq_true h0
  have t0n:decide (n = 0) = true:=decide_eq_true (by omega)
  go_enter Tryz.func32,Tryz.ntmps32
  go_simp
  ((repeat ((fail_if_success (rw[←HW1.out]));go_step));rw[←HW1.out])
  go_wp2_with fail
  go_returns
  exact ⟨⟨32,rfl,⟨fun e=>by omega,fun e=>by have:=e.1;omega⟩⟩,B0.out⟩
 have t0:decide ((n:Int) < 1) = false:=decide_eq_false h0
 have t0n:decide (n = 0) = false:=decide_eq_false (by omega)
 by_cases h1:(n:Int) > 33
 ·have t1:decide ((n:Int) > 33) = true:=decide_eq_true h1
  have t1o:decide (33 < (n:Int)) = true:=decide_eq_true h1
  go_enter Tryz.func32,Tryz.ntmps32
  go_simp
  ((repeat ((fail_if_success (rw[←HW1.out]));go_step));rw[←HW1.out])
  go_wp2_with fail
  go_returns
  exact ⟨⟨32,rfl,⟨fun e=>by omega,fun e=>by have:=e.2.1;omega⟩⟩,B0.out⟩
 have t1:decide ((n:Int) > 33) = false:=decide_eq_false h1
 have t1o:decide (33 < (n:Int)) = false:=decide_eq_false h1
 obtain ⟨g,o,rfl,hg,hcs⟩:=H.out.ints (by omega)
 have HCS:=Lib.hid hcs
 clear hcs
 go_enter Tryz.func32,Tryz.ntmps32
 go_simp
 ((repeat ((fail_if_success (rw[←HW1.out]));go_step));rw[←HW1.out])
 go_wp2_with fail
 clear HW1
 go_loopw [18] (fun s wr=>∃ j:Nat,s = .int .i64 j∧j≤n∧Hid (∀ i,i < j→1≤W i∧W i≤16777216∧(0 < i→W i≤W (i - 1)))∧wr = w1) (fun s _=>n - (intOf s).toNat)
 case atStart=>exact ⟨0,rfl,Nat.zero_le _,Lib.hid (fun i hi=>absurd hi (Nat.not_lt_zero _)),rfl⟩
 case round =>
  obtain ⟨j,rfl,hj,hok,rfl⟩:=hrel
  have HOK:=hok
  clear hok
  by_cases hlt:j < n
  ·have t3:decide ((j:Int) < (n:Int)) = true:=decide_eq_true (by omega)
   have t3n:decide (j < n) = true:=decide_eq_true (by omega)
   have u0:=HCS.out j hlt
   by_cases k0:W j < 1
   ·have d0:decide (W j < 1) = true:=decide_eq_true k0
    go_wp2_with fail
    go_returns
    exact ⟨⟨32,rfl,⟨fun e=>by omega,fun e=>by have:=(e.2.2 j hlt).1;omega⟩⟩,B0.out⟩
   have d0:decide (W j < 1) = false:=decide_eq_false k0
   by_cases k1:W j > 16777216
   ·have d1:decide (W j > 16777216) = true:=decide_eq_true k1
    have d1o:decide (16777216 < W j) = true:=decide_eq_true k1
    go_wp2_with fail
    go_returns
    exact ⟨⟨32,rfl,⟨fun e=>by omega,fun e=>by have:=(e.2.2 j hlt).2.1;omega⟩⟩,B0.out⟩
   have d1:decide (W j > 16777216) = false:=decide_eq_false k1
   have d1o:decide (16777216 < W j) = false:=decide_eq_false k1
   by_cases k2:(j:Int) > 0
   ·have d2:decide ((j:Int) > 0) = true:=decide_eq_true k2
    have d2o:decide (0 < (j:Int)) = true:=decide_eq_true k2
    have d2n:decide (0 < j) = true:=decide_eq_true (by omega)
    obtain ⟨i,rfl⟩:∃ i,j = i+1:=⟨j - 1,by omega⟩
    have u1:=HCS.out i (by omega)
    have e1:((i+1:Nat):Int) - 1 = (i:Int):=by omega
    by_cases k3:W (i+1) > W i
    ·have d3:decide (W (i+1) > W i) = true:=decide_eq_true k3
     have d3o:decide (W i < W (i+1)) = true:=decide_eq_true k3
     go_wp2_with fail
     go_returns
     exact ⟨⟨32,rfl,⟨fun e=>by omega,fun e=>by have:=(e.2.2 (i+1) hlt).2.2 (by omega);rw[Nat.add_sub_cancel] at this;omega⟩⟩,B0.out⟩
    have d3:decide (W (i+1) > W i) = false:=decide_eq_false k3
    have d3o:decide (W i < W (i+1)) = false:=decide_eq_false k3
    have HN:Hid (∀ l,l < i+1+1→1≤W l∧W l≤16777216∧(0 < l→W l≤W (l - 1))):=Lib.hid (fun l hl=>by
     by_cases e:l = i+1
     ·subst e;exact ⟨by omega,by omega,fun _=>by rw[Nat.add_sub_cancel];omega⟩
     ·exact HOK.out l (by omega))
    go_wp2_with fail
    go_roundw
    case rel=>exact ⟨i+1+1,by go_num,by omega,HN,trivial⟩
    case measure=>simp [intOf] <;> omega
   ·have d2:decide ((j:Int) > 0) = false:=decide_eq_false k2
    have d2o:decide (0 < (j:Int)) = false:=decide_eq_false k2
    have d2n:decide (0 < j) = false:=decide_eq_false (by omega)
    have HN:Hid (∀ l,l < j+1→1≤W l∧W l≤16777216∧(0 < l→W l≤W (l - 1))):=Lib.hid (fun l hl=>by
     by_cases e:l = j
     ·subst e;exact ⟨by omega,by omega,fun q=>by omega⟩
     ·exact HOK.out l (by omega))
    go_wp2_with fail
    go_roundw
    case rel=>exact ⟨j+1,by go_num,by omega,HN,trivial⟩
    case measure=>simp [intOf] <;> omega
  ·have t3:decide ((j:Int) < (n:Int)) = false:=decide_eq_false (by omega)
   have t3n:decide (j < n) = false:=decide_eq_false (by omega)
   obtain rfl:j = n:=by omega
   go_wp2_with fail
   go_returns
   exact ⟨⟨0,rfl,⟨fun _=>⟨by omega,by omega,HOK.out⟩,fun _=>rfl⟩⟩,B0.out⟩
def rtE (num den:Int):Bool:=decide (den≥1) && (decide (den≤num) && decide (num≤1024))
theorem right25 (num den:Int) (w:World):Calls Tryz.prog 25 #[.agg #[.int .i64 num,.int .i64 den]] w fun e w'=>e = .returned (.bool (rtE num den))∧Below w.heap.size w w':=by
 have B0:Hid (Below w.heap.size w (w.alloc (.cells #[.int .i64 num,.int .i64 den] 50))):=Lib.hid (by (repeat' (first | with_reducible (first | exact Below.refl _ _ | assumption | refine Below.drew ?_ | refine below_drewN ?_ _ | refine Below.alloc ?_ ?_ _ | refine Below.setCell ?_ ?_ _) | go_size)))
 have X0:=Lib.hid (al_at w (.cells #[.int .i64 num,.int .i64 den] 50) rfl)
 obtain ⟨w1,hw1⟩:∃ w1,w1 = w.alloc (.cells #[.int .i64 num,.int .i64 den] 50):=⟨_,rfl⟩
 rw[←hw1] at B0 X0
 have HW1:=Lib.hid hw1
 clear hw1
 have x0:=cell_at X0.out 0
 have x1:=cell_at X0.out 1
 have zx:=szs (block_lt X0.out)
 unfold rtE
 by_cases h0:den≥1
 ·have t0:decide (den≥1) = true:=decide_eq_true h0
  have t0o:decide (1≤den) = true:=decide_eq_true h0
  by_cases h1:den≤num
  ·have t1:decide (den≤num) = true:=decide_eq_true h1
   go_enter Tryz.func25,Tryz.ntmps25
   go_simp
   ((repeat ((fail_if_success (rw[←HW1.out]));go_step));rw[←HW1.out])
   go_wp2_with fail
   go_returns
   exact ⟨rfl,B0.out⟩
  ·have t1:decide (den≤num) = false:=decide_eq_false h1
   go_enter Tryz.func25,Tryz.ntmps25
   go_simp
   ((repeat ((fail_if_success (rw[←HW1.out]));go_step));rw[←HW1.out])
   go_wp2_with fail
   go_returns
   exact ⟨rfl,B0.out⟩
 ·have t0:decide (den≥1) = false:=decide_eq_false h0
  have t0o:decide (1≤den) = false:=decide_eq_false h0
  go_enter Tryz.func25,Tryz.ntmps25
  go_simp
  ((repeat ((fail_if_success (rw[←HW1.out]));go_step));rw[←HW1.out])
  go_wp2_with fail
  go_returns
  exact ⟨rfl,B0.out⟩
end Go.Proofs.YtdpoppilnokniaaGreatDoor
namespace Go.Proofs.YtdpoppilnokniaaGreatDoor
open Go.RowKit Go.ChangeShapes Go.WideShapes Go.Deep
set_option linter.unusedVariables false
set_option linter.unusedSimpArgs false
set_option linter.unnecessarySimpa false
def Sgn (w:World):Prop:=w.cell? ⟨0,0,none⟩ = some (.int .i64 (-1))∧w.cell? ⟨0,1,none⟩ = some (.int .i64 1)
theorem Sgn.below {w w':World}(h:Sgn w) (hb:Below w.heap.size w w'):Sgn w':=⟨cell_kept hb h.1,cell_kept hb h.2⟩
theorem ix0 (w:World):(Instr.index 48 (.agg #[.int .i64 (-1),.int .i64 1]) (.int .i64 0)).run Tryz.prog w = .ok (.int .i64 (-1)) w:=by kernel_rfl
theorem ix1 (w:World):(Instr.index 48 (.agg #[.int .i64 (-1),.int .i64 1]) (.int .i64 1)).run Tryz.prog w = .ok (.int .i64 1) w:=by kernel_rfl
def wtE (n:Nat) (W:Nat→Int) (v:Int):Int:=if v.natAbs < n then W v.natAbs else 0
set_option maxRecDepth 4000 in
set_option maxHeartbeats 4000000 in
theorem weight54 (a:Option Addr) (n c:Nat) (W:Nat→Int) (v:Int) (w:World) (h:Sl w 1 a n c (nuR W)) (hs:Sgn w) (hv:-4000000≤v∧v≤4000000) :
  Calls Tryz.prog 54 #[.agg #[.slice a n c],.int .i64 v] w fun e w'=>e = .returned (.int .i64 (wtE n W v))∧Below w.heap.size w w':=by
 have hlm:=h.hm
 have hlc:=h.hc
 have B0:Hid (Below w.heap.size w (w.alloc (.cells #[.slice a n c] 40))):=Lib.hid (by (repeat' (first | with_reducible (first | exact Below.refl _ _ | assumption | refine Below.drew ?_ | refine below_drewN ?_ _ | refine Below.alloc ?_ ?_ _ | refine Below.setCell ?_ ?_ _) | go_size)));have X0:=Lib.hid (al_at w (.cells #[.slice a n c] 40) rfl);obtain ⟨w1,hw0⟩:∃ w1,w1 = w.alloc (.cells #[.slice a n c] 40):=⟨_,rfl⟩;rw[←hw0] at B0 X0;have HW0:=Lib.hid hw0;clear hw0;have z0:=szs (block_lt X0.out);have x0_0:=cell_at X0.out 0
 have H:=Lib.hid (h.below B0.out)
 obtain ⟨s0,s1⟩:=hs.below B0.out
 clear h hs
 have z0':=szs (cell_lt s0)
 try dsimp only at z0'
 have i0:=ix0 w1
 have i1:=ix1 w1
 have e1:(1:Int) * v = v:=Int.one_mul v
 have e2:(-1:Int) * v = -v:=by omega
 go_enter Tryz.func54,Tryz.ntmps54
 go_simp
 ((repeat ((fail_if_success (rw[←HW0.out]));go_step));rw[←HW0.out])
 go_wp2_with fail
 go_loopw [9] (fun s wr=>∃ j:Nat,s = .int .i64 j∧j≤2∧Hid ((1≤j→¬ (-v≥0∧-v < (n:Int)))∧(2≤j→¬ (v≥0∧v < (n:Int))))∧wr = w1) (fun s _=>2 - (intOf s).toNat)
 case atStart=>exact ⟨0,rfl,by omega,Lib.hid ⟨fun q=>absurd q (by omega),fun q=>absurd q (by omega)⟩,rfl⟩
 case round =>
  obtain ⟨j,rfl,hj,hok,rfl⟩:=hrel
  have HOK:=hok
  clear hok
  rcases (by omega:j = 0∨j = 1∨j = 2) with rfl | rfl | rfl
  ·by_cases k0:-v≥0∧-v < (n:Int)
   ·have d0:decide (-v≥0) = true:=decide_eq_true k0.1
    have d0o:decide (0≤-v) = true:=decide_eq_true k0.1
    have d0p:decide (v≤0) = true:=decide_eq_true (by omega)
    have d1:decide (-v < (n:Int)) = true:=decide_eq_true k0.2
    obtain ⟨g,o,rfl,hg,hcs⟩:=H.out.ints (by omega)
    have u0:=hcs v.natAbs (by omega)
    obtain ⟨m,rfl⟩:∃ m:Nat,v = -(m:Int):=⟨v.natAbs,by omega⟩
    have em:(-(m:Int)).natAbs = m:=by omega
    rw[em] at u0
    have en:-(-(m:Int)) = (m:Int):=by omega
    have e3:(-1:Int) * -(m:Int) = (m:Int):=by omega
    have HEM:=Lib.hid em
    clear hcs e2 em
    go_wp2_with fail
    go_returns
    refine ⟨?_,B0.out⟩
    unfold wtE
    rw[if_pos (by omega),HEM.out]
    rfl
   ·have HN:Hid ((1≤0+1→¬ (-v≥0∧-v < (n:Int)))∧(2≤0+1→¬ (v≥0∧v < (n:Int)))):=Lib.hid ⟨fun _=>k0,fun q=>absurd q (by omega)⟩
    by_cases k1:-v≥0
    ·have d0:decide (-v≥0) = true:=decide_eq_true k1
     have d0o:decide (0≤-v) = true:=decide_eq_true k1
     have d0p:decide (v≤0) = true:=decide_eq_true (by omega)
     have d1:decide (-v < (n:Int)) = false:=decide_eq_false (fun q=>k0 ⟨k1,q⟩)
     clear k0
     go_wp2_with fail
     go_roundw
     case rel=>exact ⟨1,by go_num,by omega,HN,trivial⟩
     case measure=>simp [intOf] <;> omega
    ·have d0:decide (-v≥0) = false:=decide_eq_false k1
     have d0o:decide (0≤-v) = false:=decide_eq_false k1
     have d0p:decide (v≤0) = false:=decide_eq_false (by omega)
     clear k0
     go_wp2_with fail
     go_roundw
     case rel=>exact ⟨1,by go_num,by omega,HN,trivial⟩
     case measure=>simp [intOf] <;> omega
  ·by_cases k0:v≥0∧v < (n:Int)
   ·have d0:decide (v≥0) = true:=decide_eq_true k0.1
    have d0o:decide (0≤v) = true:=decide_eq_true k0.1
    have d1:decide (v < (n:Int)) = true:=decide_eq_true k0.2
    obtain ⟨g,o,rfl,hg,hcs⟩:=H.out.ints (by omega)
    have u0:=hcs v.natAbs (by omega)
    obtain ⟨m,rfl⟩:∃ m:Nat,v = (m:Int):=⟨v.natAbs,by omega⟩
    rw[Int.natAbs_natCast] at u0
    have d1n:decide (m < n) = true:=decide_eq_true (by omega)
    clear hcs e2
    go_wp2_with fail
    go_returns
    refine ⟨?_,B0.out⟩
    unfold wtE
    rw[if_pos (by omega),Int.natAbs_natCast]
    rfl
   ·have HN:Hid ((1≤1+1→¬ (-v≥0∧-v < (n:Int)))∧(2≤1+1→¬ (v≥0∧v < (n:Int)))):=Lib.hid ⟨fun _=>HOK.out.1 (by omega),fun _=>k0⟩
    by_cases k1:v≥0
    ·have d0:decide (v≥0) = true:=decide_eq_true k1
     have d0o:decide (0≤v) = true:=decide_eq_true k1
     have d1:decide (v < (n:Int)) = false:=decide_eq_false (fun q=>k0 ⟨k1,q⟩)
     clear k0
     go_wp2_with fail
     go_roundw
     case rel=>exact ⟨2,by go_num,by omega,HN,trivial⟩
     case measure=>simp [intOf] <;> omega
    ·have d0:decide (v≥0) = false:=decide_eq_false k1
     have d0o:decide (0≤v) = false:=decide_eq_false k1
     clear k0
     go_wp2_with fail
     go_roundw
     case rel=>exact ⟨2,by go_num,by omega,HN,trivial⟩
     case measure=>simp [intOf] <;> omega
  ·have t3:decide ((2:Int) < 2) = false:=decide_eq_false (by omega)
   go_wp2_with fail
   go_returns
   exact ⟨by unfold wtE;have h1:=HOK.out.1 (by omega);have h2:=HOK.out.2 (by omega);rw[if_neg (by omega)];rfl,B0.out⟩
def WtE (n:Nat) (W:Nat→Int) (v:Int) (ok:Prop) (r:Int):Prop:=(ok→r = wtE n W v)∧(¬ ok→r = 0)
set_option maxRecDepth 4000 in
set_option maxHeartbeats 4000000 in
theorem Weight33 (a:Option Addr) (n c:Nat) (W:Nat→Int) (v:Int) (w:World) (h:Sl w 1 a n c (nuR W)) (hs:Sgn w) (hv:-4000000≤v∧v≤4000000) (hok:NOK n W) :
  Calls Tryz.prog 33 #[.agg #[.slice a n c],.int .i64 v] w fun e w'=>e = .returned (.int .i64 (wtE n W v))∧Below w.heap.size w w':=by
 have B0:Hid (Below w.heap.size w (w.alloc (.cells #[.slice a n c] 40))):=Lib.hid (by (repeat' (first | with_reducible (first | exact Below.refl _ _ | assumption | refine Below.drew ?_ | refine below_drewN ?_ _ | refine Below.alloc ?_ ?_ _ | refine Below.setCell ?_ ?_ _) | go_size)));have X0:=Lib.hid (al_at w (.cells #[.slice a n c] 40) rfl);obtain ⟨w1,hw0⟩:∃ w1,w1 = w.alloc (.cells #[.slice a n c] 40):=⟨_,rfl⟩;rw[←hw0] at B0 X0;have HW0:=Lib.hid hw0;clear hw0;have z0:=szs (block_lt X0.out);have x0_0:=cell_at X0.out 0
 have C1:=Lib.hid (check32 a n c W w1 (h.below B0.out))
 have C2:=Lib.hid (fun w' (b:Below w1.heap.size w1 w')=>weight54 a n c W v w' ((h.below B0.out).below b) ((hs.below B0.out).below b) hv)
 have HOK:=Lib.hid hok
 clear h hs hok
 go_enter Tryz.func33,Tryz.ntmps33
 go_simp
 ((repeat ((fail_if_success (rw[←HW0.out]));go_step));rw[←HW0.out])
 go_wp2_with fail
 refine C1.out.mono ?_
 rintro e w2 ⟨⟨r,rfl,hr⟩,b2⟩
 have B2:=Lib.hid b2
 obtain rfl:r = 0:=hr.2 HOK.out
 have x2:=cell_kept b2 x0_0
 have z2:=szs (Nat.lt_of_lt_of_le z0.1 b2.size)
 try dsimp only at x2
 clear hr b2 x0_0 z0
 go_wp2_with fail
 refine (C2.out _ B2.out).mono ?_
 rintro e w3 ⟨rfl,b3⟩
 have B3:=Lib.hid (B0.out.trans ((B2.out.trans (b3.mono B2.out.size)).mono B0.out.size))
 clear b3 C1 C2
 go_wp2_with fail
 go_returns
 exact ⟨rfl,B3.out⟩
end Go.Proofs.YtdpoppilnokniaaGreatDoor
