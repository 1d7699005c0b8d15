/- Theorems of this seat. -/
import Derived.Test.YtdpoppilnokniaaGreatDoorWA
namespace Go.Proofs.YtdpoppilnokniaaGreatDoor
open Go.RowKit Go.ChangeShapes Go.WideShapes Go.Deep
set_option linter.unusedVariables false
set_option linter.unusedSimpArgs false
def eC (e:Ev):Array Value:=#[.int .i64 e.dev,.int .i64 e.seq,.int .i64 e.at',.int .i64 e.late,.int .i64 e.kind,.int .i64 e.bike,.int .i64 e.place,.int .i64 e.rider,.int .i64 e.ride]
def placeB (f:Fl) (e:Ev):Bool :=
 if e.kind = 1 then decide (0≤e.place) && (decide (e.place / 32 < f.nd) && decide (e.place % 32 < f.D (e.place / 32).toNat))
 else if e.kind = 2 then inB e.place 0 63 else if e.kind = 7 then inB e.place 0 ((f.nt:Int) - 1) else e.place == 0
def nameB (f:Fl) (e:Ev):Bool :=
 (if e.kind = 3 then inB e.rider 0 (f.riders - 1) else e.rider == 0) && (if e.kind = 3∨e.kind = 4 then inB e.ride 1 1000000 else e.ride == 0)
set_option maxHeartbeats 4000000 in
theorem place84 (f:Fl) (v:Ev) (w:World) (h:f.In w) (hbp:v.place≤9223372036854775807):Calls Tryz.prog 84 #[.agg f.cells,.agg (eC v)] w fun e w'=>e = .returned (.bool (placeB f v))∧Below w.heap.size w w':=by
 have h1:=h.docks.hm
 have h2:=h.docks.hc
 have h3:=h.trucks.hm
 have h4:=h.trucks.hc
 have HD:=Lib.hid h.docks
 obtain ⟨r,hr⟩:∃ r,r = placeB f v:=⟨_,rfl⟩
 rw[←hr]
 unfold placeB at hr
 obtain ⟨bk,rd,dv,ad,nd,cd,D,a2,nt,ct,T⟩:=f
 obtain ⟨e0,e1,e2,e3,kd,e5,pl,e7,e8⟩:=v
 dsimp only at h1 h2 h3 h4 hr HD hbp
 unfold Fl.cells eC
 dsimp only
 clear h
 by_cases k1:kd = 1
 ·rw[if_pos k1] at hr
  have t1:(kd == 1) = true:=by simp [k1]
  clear k1
  by_cases hp:0≤pl
  ·obtain ⟨p,rfl⟩:∃ p:Nat,pl = (p:Int):=⟨pl.toNat,by omega⟩
   have w1:Int.tdiv (p:Int) 32 = ((p / 32:Nat):Int):=by rw[Int.tdiv_eq_ediv_of_nonneg (by omega)];rfl
   have w2:Int.tmod (p:Int) 32 = ((p % 32:Nat):Int):=by rw[Int.tmod_eq_emod_of_nonneg (by omega)];rfl
   rw[show ((p:Int) / 32) = ((p / 32:Nat):Int) from rfl,show ((p:Int) % 32) = ((p % 32:Nat):Int) from rfl,Int.toNat_natCast] at hr
   obtain ⟨q,hq⟩:∃ q,q = p / 32:=⟨_,rfl⟩
   obtain ⟨s,hs⟩:∃ s,s = p % 32:=⟨_,rfl⟩
   rw[←hq] at w1 hr
   rw[←hs] at w2 hr
   have hpp:p≤9223372036854775807:=by omega
   have hqp:q≤p:=by rw[hq];exact Nat.div_le_self _ _
   have w3:IntKind.i64.wrap ((q:Nat):Int) = (q:Int):=IntWalk.i64_in _ (by omega)
   clear hq hs
   by_cases hn:q < nd
   ·obtain ⟨g,o,rfl,hg,c0⟩:=HD.out.num hn
    have zg:=szs hg
    have tq:(q:Int) < (nd:Int):=by omega
    have hr':r = decide ((s:Int) < D q):=by rw[hr];simp [tq]
    obtain ⟨dq,hdq⟩:∃ dq,dq = D q:=⟨_,rfl⟩
    rw[←hdq] at c0 hr'
    have HR:=Lib.hid hr'
    clear hr hr' hg hdq
    go_enter Tryz.func84,Tryz.ntmps84
    go_wp2_with fail
    (refine region_all (fun i:Nat=>World.drewN _ i) mixed (by kernel_rfl) ⟨1,rfl⟩ ?_;(repeat (any_goals (first | go_big_quiet_step (fail) | quiet_step (fail) | (refine wpQuiet_step (fun K hK=>?_);go_simp;split <;> (refine hK _ ?_;clear hK K)))));(all_goals (refine wpQuiet_nil (fun nq=>?_))))
    go_wp2_with fail
    go_returns
    exact ⟨by rw[HR.out];rfl,by (repeat' (first | with_reducible (first | exact Below.refl _ _ | assumption | refine Below.drew ?_ | refine below_drewN ?_ _ | refine Below.alloc ?_ ?_ _ | refine Below.setCell ?_ ?_ _) | go_size))⟩
   ·have hr':r = false:=by rw[hr];simp;omega
    have HR:=Lib.hid hr'
    have tq:(nd:Int)≤(q:Int):=by omega
    clear hr hr' hn
    go_enter Tryz.func84,Tryz.ntmps84
    go_wp2_with fail
    (refine region_all (fun i:Nat=>World.drewN _ i) mixed (by kernel_rfl) ⟨1,rfl⟩ ?_;(repeat (any_goals (first | go_big_quiet_step (fail) | quiet_step (fail) | (refine wpQuiet_step (fun K hK=>?_);go_simp;split <;> (refine hK _ ?_;clear hK K)))));(all_goals (refine wpQuiet_nil (fun nq=>?_))))
    go_wp2_with fail
    go_returns
    exact ⟨by rw[HR.out];rfl,by (repeat' (first | with_reducible (first | exact Below.refl _ _ | assumption | refine Below.drew ?_ | refine below_drewN ?_ _ | refine Below.alloc ?_ ?_ _ | refine Below.setCell ?_ ?_ _) | go_size))⟩
  ·have hr':r = false:=by rw[hr];simp [hp]
   have HR:=Lib.hid hr'
   have tq:pl < 0:=by omega
   clear hr hr' hp
   go_enter Tryz.func84,Tryz.ntmps84
   go_wp2_with fail
   (refine region_all (fun i:Nat=>World.drewN _ i) mixed (by kernel_rfl) ⟨1,rfl⟩ ?_;(repeat (any_goals (first | go_big_quiet_step (fail) | quiet_step (fail) | (refine wpQuiet_step (fun K hK=>?_);go_simp;split <;> (refine hK _ ?_;clear hK K)))));(all_goals (refine wpQuiet_nil (fun nq=>?_))))
   go_wp2_with fail
   go_returns
   exact ⟨by rw[HR.out];rfl,by (repeat' (first | with_reducible (first | exact Below.refl _ _ | assumption | refine Below.drew ?_ | refine below_drewN ?_ _ | refine Below.alloc ?_ ?_ _ | refine Below.setCell ?_ ?_ _) | go_size))⟩
 ·rw[if_neg k1] at hr
  have t1:(kd == 1) = false:=by simp [k1]
  by_cases k2:kd = 2
  ·rw[if_pos k2] at hr
   have t2:(kd == 2) = true:=by simp [k2]
   have C:=Lib.hid (fun w'=>within75 pl 0 63 w')
   rw[←hr] at C
   clear k1 k2 hr
   go_enter Tryz.func84,Tryz.ntmps84
   go_wp2_with fail
   refine (C.out _).mono ?_
   rintro e w1 ⟨rfl,rfl⟩
   go_wp2_with fail
   go_returns
   exact ⟨rfl,by (repeat' (first | with_reducible (first | exact Below.refl _ _ | assumption | refine Below.drew ?_ | refine below_drewN ?_ _ | refine Below.alloc ?_ ?_ _ | refine Below.setCell ?_ ?_ _) | go_size))⟩
  ·rw[if_neg k2] at hr
   have t2:(kd == 2) = false:=by simp [k2]
   by_cases k7:kd = 7
   ·rw[if_pos k7] at hr
    have t7:(kd == 7) = true:=by simp [k7]
    have C:=Lib.hid (fun w'=>within75 pl 0 ((nt:Int) - 1) w')
    have w3:IntKind.i64.wrap ((nt:Int) - 1) = (nt:Int) - 1:=IntWalk.i64_in _ (by omega)
    rw[←hr] at C
    clear k1 k2 k7 hr
    go_enter Tryz.func84,Tryz.ntmps84
    go_wp2_with fail
    refine (C.out _).mono ?_
    rintro e w1 ⟨rfl,rfl⟩
    go_wp2_with fail
    go_returns
    exact ⟨rfl,by (repeat' (first | with_reducible (first | exact Below.refl _ _ | assumption | refine Below.drew ?_ | refine below_drewN ?_ _ | refine Below.alloc ?_ ?_ _ | refine Below.setCell ?_ ?_ _) | go_size))⟩
   ·rw[if_neg k7] at hr
    have t7:(kd == 7) = false:=by simp [k7]
    have HR:=Lib.hid hr
    clear k1 k2 k7 hr
    go_enter Tryz.func84,Tryz.ntmps84
    go_wp2_with fail
    go_returns
    exact ⟨by rw[HR.out];rfl,by (repeat' (first | with_reducible (first | exact Below.refl _ _ | assumption | refine Below.drew ?_ | refine below_drewN ?_ _ | refine Below.alloc ?_ ?_ _ | refine Below.setCell ?_ ?_ _) | go_size))⟩
set_option maxHeartbeats 4000000 in
theorem name85 (f:Fl) (v:Ev) (w:World) (hr1:1≤f.riders) (hr2:f.riders≤128):Calls Tryz.prog 85 #[.agg f.cells,.agg (eC v)] w fun e w'=>e = .returned (.bool (nameB f v))∧Below w.heap.size w w':=by
 obtain ⟨r,hr⟩:∃ r,r = nameB f v:=⟨_,rfl⟩
 rw[←hr]
 unfold nameB at hr
 obtain ⟨bk,rd,dv,ad,nd,cd,D,a2,nt,ct,T⟩:=f
 obtain ⟨e0,e1,e2,e3,kd,e5,pl,e7,e8⟩:=v
 dsimp only at hr1 hr2 hr
 unfold Fl.cells eC
 dsimp only
 have w1:IntKind.i64.wrap (rd - 1) = rd - 1:=IntWalk.i64_in _ (by omega)
 by_cases k3:kd = 3
 ·rw[if_pos k3,if_pos (.inl k3)] at hr
  have t3:(kd == 3) = true:=by simp [k3]
  have C1:=Lib.hid (fun w'=>within75 e7 0 (rd - 1) w')
  have C2:=Lib.hid (fun w'=>within75 e8 1 1000000 w')
  generalize inB e7 0 (rd - 1) = b1 at *
  generalize inB e8 1 1000000 = b2 at *
  have HR:=Lib.hid hr
  clear k3 hr
  go_enter Tryz.func85,Tryz.ntmps85
  go_wp2_with fail
  (refine region_all (fun i:Nat=>World.drewN _ i) mixed (by kernel_rfl) ⟨1,rfl⟩ ?_;(repeat (any_goals (first | go_big_quiet_step (fail) | quiet_step (fail) | (refine wpQuiet_step (fun K hK=>?_);go_simp;split <;> (refine hK _ ?_;clear hK K)))));(all_goals (refine wpQuiet_nil (fun nq=>?_))))
  go_wp2_with fail
  refine (C1.out _).mono ?_
  rintro e w1 ⟨rfl,rfl⟩
  go_wp2_with fail
  refine (C2.out _).mono ?_
  rintro e w2 ⟨rfl,rfl⟩
  cases b1
  all_goals
   go_wp2_with fail
   go_returns
   exact ⟨by rw[HR.out];rfl,by (repeat' (first | with_reducible (first | exact Below.refl _ _ | assumption | refine Below.drew ?_ | refine below_drewN ?_ _ | refine Below.alloc ?_ ?_ _ | refine Below.setCell ?_ ?_ _) | go_size))⟩
 ·have t3:(kd == 3) = false:=by simp [k3]
  by_cases k4:kd = 4
  ·rw[if_neg k3,if_pos (.inr k4)] at hr
   have t4:(kd == 4) = true:=by simp [k4]
   have C2:=Lib.hid (fun w'=>within75 e8 1 1000000 w')
   generalize inB e8 1 1000000 = b2 at *
   obtain ⟨b1,hb1⟩:∃ b1,b1 = (e7 == 0):=⟨_,rfl⟩
   rw[←hb1] at hr
   have hb1':=hb1.symm
   have HR:=Lib.hid hr
   clear k3 k4 hr hb1
   cases b1
   all_goals
    go_enter Tryz.func85,Tryz.ntmps85
    go_wp2_with fail
    (focus (refine region_all (fun i:Nat=>World.drewN _ i) mixed (by kernel_rfl) ⟨1,rfl⟩ ?_;(repeat (any_goals (first | go_big_quiet_step (fail) | quiet_step (fail) | (refine wpQuiet_step (fun K hK=>?_);go_simp;split <;> (refine hK _ ?_;clear hK K)))));(all_goals (refine wpQuiet_nil (fun nq=>?_)))))
    go_wp2_with fail
    refine (C2.out _).mono ?_
    rintro e w2 ⟨rfl,rfl⟩
    go_wp2_with fail
    go_returns
    exact ⟨by rw[HR.out];rfl,by (repeat' (first | with_reducible (first | exact Below.refl _ _ | assumption | refine Below.drew ?_ | refine below_drewN ?_ _ | refine Below.alloc ?_ ?_ _ | refine Below.setCell ?_ ?_ _) | go_size))⟩
  ·rw[if_neg k3,if_neg (fun h=>h.elim k3 k4)] at hr
   have t4:(kd == 4) = false:=by simp [k4]
   obtain ⟨b1,hb1⟩:∃ b1,b1 = (e7 == 0):=⟨_,rfl⟩
   rw[←hb1] at hr
   have hb1':=hb1.symm
   have HR:=Lib.hid hr
   clear k3 k4 hr hb1
   cases b1
   all_goals
    go_enter Tryz.func85,Tryz.ntmps85
    go_wp2_with fail
    (focus (refine region_all (fun i:Nat=>World.drewN _ i) mixed (by kernel_rfl) ⟨1,rfl⟩ ?_;(repeat (any_goals (first | go_big_quiet_step (fail) | quiet_step (fail) | (refine wpQuiet_step (fun K hK=>?_);go_simp;split <;> (refine hK _ ?_;clear hK K)))));(all_goals (refine wpQuiet_nil (fun nq=>?_)))))
    go_wp2_with fail
    go_returns
    exact ⟨by rw[HR.out];rfl,by (repeat' (first | with_reducible (first | exact Below.refl _ _ | assumption | refine Below.drew ?_ | refine below_drewN ?_ _ | refine Below.alloc ?_ ?_ _ | refine Below.setCell ?_ ?_ _) | go_size))⟩
end Go.Proofs.YtdpoppilnokniaaGreatDoor
