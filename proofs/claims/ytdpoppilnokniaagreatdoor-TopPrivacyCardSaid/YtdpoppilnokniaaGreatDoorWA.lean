/- Theorems of this seat. -/
import Derived.Test.YtdpoppilnokniaaGreatDoorProg
import Derived.Test.YtdpoppilnokniaaGreatDoorWBB
import Derived.Test.YtdpoppilnokniaaGreatDoorWBA
import Derived.Test.YtdpoppilnokniaaGreatDoorWBC
import Derived.BigQuiet
import Derived.WalkLawsBesides
import Derived.BigRegion
namespace Go.Proofs.YtdpoppilnokniaaGreatDoor
open Go.RowKit Go.ChangeShapes Go.WideShapes Go.Deep
set_option linter.unusedVariables false
set_option linter.unusedSimpArgs false
theorem mixed:Tryz.prog.follows .mixedOrders = true:=by kernel_rfl
def inB (n lo hi:Int):Bool:=decide (lo≤n) && decide (n≤hi)
theorem inB_iff {n lo hi:Int}:inB n lo hi = true↔lo≤n∧n≤hi:=by simp [inB]
theorem within75 (n lo hi:Int) (w:World):Calls Tryz.prog 75 #[.int .i64 n,.int .i64 lo,.int .i64 hi] w fun e w'=>e = .returned (.bool (inB n lo hi))∧w = w':=by
 by_cases h:lo≤n
 ·have e:inB n lo hi = decide (n≤hi):=by simp [inB,h]
  have HE:=Lib.hid e
  clear e
  go_enter Tryz.func75,Tryz.ntmps75
  go_wp2_with fail
  go_returns
  exact ⟨by rw[HE.out];rfl,rfl⟩
 ·have e:inB n lo hi = false:=by simp [inB,h]
  have HE:=Lib.hid e
  have hl:n < lo:=by omega
  clear e h
  go_enter Tryz.func75,Tryz.ntmps75
  go_wp2_with fail
  go_returns
  exact ⟨by rw[HE.out];rfl,rfl⟩
def nf (F:Nat→Int):Nat→List Value:=fun i=>[.int .i64 (F i)]
theorem Sl.num {w:World}{ao:Option Addr}{m c:Nat}{F:Nat→Int}(h:Sl w 1 ao m c (nf F)) {i:Nat}(hi:i < m):∃ g o,ao = some ⟨g,o,none⟩∧g < w.heap.size∧w.cell? ⟨g,o+i,none⟩ = some (.int .i64 (F i)):=by
 obtain ⟨g,o,e,hc⟩:=h.cell hi
 have h0:w.cell? ⟨g,o+i * 1+0,none⟩ = some (.int .i64 (F i)):=hc 0 (by decide)
 rw[Nat.mul_one,Nat.add_zero] at h0
 exact ⟨g,o,e,cell_lt h0,h0⟩
def allB (F:Nat→Int) (most:Int):Nat→Bool
 | 0=>true
 | n+1=>allB F most n && inB (F n) 1 most
theorem allB_no {F:Nat→Int}{most:Int}{k:Nat}(h:inB (F k) 1 most = false):∀ {n:Nat},k < n→allB F most n = false
 | n+1,hk=>by
  unfold allB
  by_cases e:k = n
  ·subst e;rw[h];simp
  ·rw[allB_no h (by omega)];rfl
set_option maxHeartbeats 1000000 in
theorem all76 (ao:Option Addr) (m c:Nat) (F:Nat→Int) (most:Int) (w:World) (h:Sl w 1 ao m c (nf F)):Calls Tryz.prog 76 #[.slice ao m c,.int .i64 most] w fun e w'=>e = .returned (.bool (allB F most m))∧Below w.heap.size w w':=by
 have hmc:=h.hm
 have hcc:=h.hc
 have HS:=Lib.hid h
 clear h
 go_enter Tryz.func76,Tryz.ntmps76
 go_wp2_with fail
 go_loopw [9] (fun i wr=>∃ j:Nat,i = .int .i64 j∧j≤m∧Hid (allB F most j = true∧Below w.heap.size w wr)) (fun i _=>m - (intOf i).toNat)
 case atStart=>exact ⟨0,rfl,by omega,Lib.hid ⟨rfl,by (repeat' (first | with_reducible (first | exact Below.refl _ _ | assumption | refine Below.drew ?_ | refine below_drewN ?_ _ | refine Below.alloc ?_ ?_ _ | refine Below.setCell ?_ ?_ _) | go_size))⟩⟩
 case round =>
  obtain ⟨j,rfl,hj,hrel⟩:=hrel
  by_cases hlt:j < m
  ·have tj:(j:Int) < (m:Int):=by omega
   obtain ⟨g,o,rfl,hg,e0⟩:=(HS.out.below hrel.out.2).num hlt
   have zg:=szs hg
   obtain ⟨x,hx⟩:∃ x,x = F j:=⟨_,rfl⟩
   rw[←hx] at e0
   have HX:=Lib.hid hx
   have CB:=Lib.hid (fun w'=>within75 x 1 most w')
   obtain ⟨b,hb⟩:∃ b,b = inB x 1 most:=⟨_,rfl⟩
   rw[←hb] at CB
   have HB:=Lib.hid hb
   have HR:=hrel
   clear hx hb hrel hg
   cases b
   ·have hr:allB F most m = false:=allB_no (k:=j) (by rw[←HX.out,←HB.out]) hlt
    have HRR:=Lib.hid hr
    clear hr
    go_wp2_with fail
    refine (CB.out _).mono ?_
    rintro e w1 ⟨rfl,rfl⟩
    go_wp2_with fail
    go_returns
    exact ⟨by rw[HRR.out];rfl,by have:=HR.out.2;(have hszz:=(this).size;(repeat' (first | with_reducible (first | exact Below.refl _ _ | assumption | refine Below.drew ?_ | refine below_drewN ?_ _ | refine Below.alloc ?_ ?_ _ | refine Below.setCell ?_ ?_ _) | go_size)))⟩
   ·go_wp2_with fail
    refine (CB.out _).mono ?_
    rintro e w1 ⟨rfl,rfl⟩
    go_wp2_with fail
    go_roundw
    case rel=>exact ⟨j+1,by go_num,by omega,Lib.hid ⟨by unfold allB;rw[HR.out.1,←HX.out,←HB.out];rfl,by have:=HR.out.2;(have hszz:=(this).size;(repeat' (first | with_reducible (first | exact Below.refl _ _ | assumption | refine Below.drew ?_ | refine below_drewN ?_ _ | refine Below.alloc ?_ ?_ _ | refine Below.setCell ?_ ?_ _) | go_size)))⟩⟩
    case measure=>simp [intOf];omega
  ·obtain rfl:j = m:=by omega
   go_wp2_with fail
   go_returns
   exact ⟨by rw[hrel.out.1];rfl,hrel.out.2⟩
structure Fl where
 bikes:Int
 riders:Int
 devs:Int
 ad:Option Addr
 nd:Nat
 cd:Nat
 D:Nat→Int
 a2:Option Addr
 nt:Nat
 ct:Nat
 T:Nat→Int
def Fl.cells (f:Fl):Array Value:=#[.int .i64 f.bikes,.int .i64 f.riders,.int .i64 f.devs,.slice f.ad f.nd f.cd,.slice f.a2 f.nt f.ct]
structure Fl.In (f:Fl) (w:World):Prop where
 docks:Sl w 1 f.ad f.nd f.cd (nf f.D)
 trucks:Sl w 1 f.a2 f.nt f.ct (nf f.T)
theorem Fl.In.below {f:Fl}{w w':World}(h:f.In w) (hb:Below w.heap.size w w'):f.In w':=⟨h.docks.below hb,h.trucks.below hb⟩
def fleetE (f:Fl):Int :=
 if (inB f.bikes 1 128 && inB f.riders 1 128 && inB f.devs 1 256) = false then 1 else if 32 < f.nd∨8 < f.nt then 8 else if (allB f.D 32 f.nd && allB f.T 32 f.nt) = false then 1 else 0
set_option maxHeartbeats 4000000 in
theorem fleet55 (f:Fl) (w:World) (h:f.In w):Calls Tryz.prog 55 #[.agg f.cells] w fun e w'=>e = .returned (.int .i64 (fleetE f))∧Below w.heap.size w w':=by
 have h1:=h.docks.hm
 have h2:=h.docks.hc
 have h3:=h.trucks.hm
 have h4:=h.trucks.hc
 have HI:=Lib.hid h
 obtain ⟨r,hf⟩:∃ r,r = fleetE f:=⟨_,rfl⟩
 rw[←hf]
 unfold fleetE at hf
 obtain ⟨bk,rd,dv,ad,nd,cd,D,a2,nt,ct,T⟩:=f
 dsimp only at h1 h2 h3 h4 hf
 have C1:=Lib.hid (fun w'=>within75 bk 1 128 w')
 have C2:=Lib.hid (fun w'=>within75 rd 1 128 w')
 have C3:=Lib.hid (fun w'=>within75 dv 1 256 w')
 generalize inB bk 1 128 = b1 at *
 generalize inB rd 1 128 = b2 at *
 generalize inB dv 1 256 = b3 at *
 unfold Fl.cells
 dsimp only
 by_cases hb:(b1 && b2 && b3) = false
 ·rw[if_pos hb] at hf
  have HF:=Lib.hid hf
  clear h hf
  rcases b1 with _ | _
  all_goals (try rcases b2 with _ | _)
  all_goals (try rcases b3 with _ | _)
  all_goals (first | (exact absurd hb (by decide)) | skip)
  all_goals clear hb
  all_goals go_enter Tryz.func55,Tryz.ntmps55
  all_goals go_wp2_with fail
  all_goals refine (C1.out _).mono ?_
  all_goals rintro e w1 ⟨rfl,rfl⟩
  all_goals go_wp2_with fail
  all_goals (try refine (C2.out _).mono ?_)
  all_goals (try rintro e w1 ⟨rfl,rfl⟩)
  all_goals (try go_wp2_with fail)
  all_goals (try refine (C3.out _).mono ?_)
  all_goals (try rintro e w1 ⟨rfl,rfl⟩)
  all_goals (try go_wp2_with fail)
  all_goals go_returns
  all_goals exact ⟨by rw[HF.out];rfl,by (repeat' (first | with_reducible (first | exact Below.refl _ _ | assumption | refine Below.drew ?_ | refine below_drewN ?_ _ | refine Below.alloc ?_ ?_ _ | refine Below.setCell ?_ ?_ _) | go_size))⟩
 ·rw[if_neg hb] at hf
  have hbb:b1 = true∧b2 = true∧b3 = true:=by cases b1 <;> cases b2 <;> cases b3 <;> simp at hb ⊢
  obtain ⟨rfl,rfl,rfl⟩:=hbb
  clear hb h
  have A1:=Lib.hid (fun w' (b:Below w.heap.size w w')=>all76 ad nd cd D 32 w' (HI.out.docks.below b))
  have A2:=Lib.hid (fun w' (b:Below w.heap.size w w')=>all76 a2 nt ct T 32 w' (HI.out.trucks.below b))
  clear HI
  by_cases hd:32 < nd
  ·rw[if_pos (.inl hd)] at hf
   have HF:=Lib.hid hf
   have td:(32:Int) < (nd:Int):=by omega
   clear hf hd A1 A2
   go_enter Tryz.func55,Tryz.ntmps55
   go_wp2_with fail
   refine (C1.out _).mono ?_
   rintro e w1 ⟨rfl,rfl⟩
   go_wp2_with fail
   refine (C2.out _).mono ?_
   rintro e w1 ⟨rfl,rfl⟩
   go_wp2_with fail
   refine (C3.out _).mono ?_
   rintro e w1 ⟨rfl,rfl⟩
   go_wp2_with fail
   go_returns
   exact ⟨by rw[HF.out];rfl,by (repeat' (first | with_reducible (first | exact Below.refl _ _ | assumption | refine Below.drew ?_ | refine below_drewN ?_ _ | refine Below.alloc ?_ ?_ _ | refine Below.setCell ?_ ?_ _) | go_size))⟩
  ·by_cases ht:8 < nt
   ·rw[if_pos (.inr ht)] at hf
    have HF:=Lib.hid hf
    have td:(nd:Int)≤32:=by omega
    have tt:(8:Int) < (nt:Int):=by omega
    clear hf hd ht A1 A2
    go_enter Tryz.func55,Tryz.ntmps55
    go_wp2_with fail
    refine (C1.out _).mono ?_
    rintro e w1 ⟨rfl,rfl⟩
    go_wp2_with fail
    refine (C2.out _).mono ?_
    rintro e w1 ⟨rfl,rfl⟩
    go_wp2_with fail
    refine (C3.out _).mono ?_
    rintro e w1 ⟨rfl,rfl⟩
    go_wp2_with fail
    go_returns
    exact ⟨by rw[HF.out];rfl,by (repeat' (first | with_reducible (first | exact Below.refl _ _ | assumption | refine Below.drew ?_ | refine below_drewN ?_ _ | refine Below.alloc ?_ ?_ _ | refine Below.setCell ?_ ?_ _) | go_size))⟩
   ·rw[if_neg (by omega)] at hf
    have td:(nd:Int)≤32:=by omega
    have tt:(nt:Int)≤8:=by omega
    generalize allB D 32 nd = x1 at *
    generalize allB T 32 nt = x2 at *
    have HF:=Lib.hid hf
    clear hf hd ht
    have B0:Hid (Below w.heap.size w (w.alloc (.cells #[.int .i64 bk,.int .i64 rd,.int .i64 dv,.slice ad nd cd,.slice a2 nt ct] 24))):=Lib.hid ((Below.refl _ _).alloc (Nat.le_refl _) _)
    have x0:(w.alloc (.cells #[.int .i64 bk,.int .i64 rd,.int .i64 dv,.slice ad nd cd,.slice a2 nt ct] 24)).heap[w.heap.size]? = some (.cells #[.int .i64 bk,.int .i64 rd,.int .i64 dv,.slice ad nd cd,.slice a2 nt ct] 24):=heap_alloc_new w _
    have X0:=Lib.hid x0
    clear x0
    go_enter Tryz.func55,Tryz.ntmps55
    go_wp2_with fail
    refine (C1.out _).mono ?_
    rintro e w1 ⟨rfl,rfl⟩
    go_wp2_with fail
    refine (C2.out _).mono ?_
    rintro e w1 ⟨rfl,rfl⟩
    go_wp2_with fail
    refine (C3.out _).mono ?_
    rintro e w1 ⟨rfl,rfl⟩
    go_wp2_with fail
    refine (A1.out _ B0.out).mono ?_
    rintro e w1 ⟨rfl,b1⟩
    have B1:=Lib.hid (B0.out.trans (b1.mono B0.out.size))
    have e4:w1.cell? ⟨w.heap.size,4,none⟩ = some (.slice a2 nt ct):=cell_at ((b1.block _ (block_lt X0.out)).trans X0.out) 4
    have z4:=szs (cell_lt e4)
    dsimp only at z4
    clear b1 X0
    cases x1
    ·go_wp2_with fail
     go_returns
     exact ⟨by rw[HF.out];rfl,B1.out⟩
    ·go_wp2_with fail
     refine (A2.out _ B1.out).mono ?_
     rintro e w2 ⟨rfl,b2⟩
     have B2:=Lib.hid (B1.out.trans (b2.mono B1.out.size))
     clear b2
     cases x2
     all_goals
      go_wp2_with fail
      go_returns
      exact ⟨by rw[HF.out];rfl,B2.out⟩
end Go.Proofs.YtdpoppilnokniaaGreatDoor
