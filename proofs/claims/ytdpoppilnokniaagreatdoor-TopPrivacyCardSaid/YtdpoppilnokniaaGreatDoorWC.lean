/- Theorems of this seat. -/
import Derived.Test.YtdpoppilnokniaaGreatDoorWB
namespace Go.Proofs.YtdpoppilnokniaaGreatDoor
open Go.RowKit Go.ChangeShapes Go.WideShapes Go.Deep
set_option linter.unusedVariables false
set_option linter.unusedSimpArgs false
def checkE (f:Fl) (v:Ev):Int :=
 if fleetE f ≠ 0 then fleetE f
 else if (inB v.dev 0 (f.devs - 1) && (inB v.seq 1 1048576 && (decide (0≤v.at') && (decide (v.at'≤v.late) && decide (v.late≤4294943999))))) = false then 1
 else if inB v.kind 1 10 = false then 14
 else if (inB v.bike 0 (f.bikes - 1) && !(decide (v.kind = 10) && !decide (v.bike = 0))) = false then 1
 else if placeB f v = false then 7 else if nameB f v = false then 1 else 0
theorem fleetE_zero {f:Fl}(h:fleetE f = 0):(1≤f.bikes∧f.bikes≤128)∧(1≤f.riders∧f.riders≤128)∧(1≤f.devs∧f.devs≤256)∧f.nd≤32∧f.nt≤8∧allB f.D 32 f.nd = true∧allB f.T 32 f.nt = true:=by
 unfold fleetE at h
 by_cases h1:(inB f.bikes 1 128 && inB f.riders 1 128 && inB f.devs 1 256) = false
 ·rw[if_pos h1] at h;cases h
 ·rw[if_neg h1] at h
  by_cases h2:32 < f.nd∨8 < f.nt
  ·rw[if_pos h2] at h;cases h
  ·rw[if_neg h2] at h
   by_cases h3:(allB f.D 32 f.nd && allB f.T 32 f.nt) = false
   ·rw[if_pos h3] at h;cases h
   ·have e1:(inB f.bikes 1 128 && inB f.riders 1 128 && inB f.devs 1 256) = true:=by cases h:(inB f.bikes 1 128 && inB f.riders 1 128 && inB f.devs 1 256);exact absurd h h1;rfl
    have e3:(allB f.D 32 f.nd && allB f.T 32 f.nt) = true:=by cases h:(allB f.D 32 f.nd && allB f.T 32 f.nt);exact absurd h h3;rfl
    simp only[Bool.and_eq_true] at e1 e3
    exact ⟨inB_iff.1 e1.1.1,inB_iff.1 e1.1.2,inB_iff.1 e1.2,by omega,by omega,e3.1,e3.2⟩
set_option maxHeartbeats 8000000 in
theorem check58 (f:Fl) (v:Ev) (w:World) (h:f.In w) (hbp:v.place≤9223372036854775807):Calls Tryz.prog 58 #[.agg f.cells,.agg (eC v)] w fun e w'=>e = .returned (.int .i64 (checkE f v))∧Below w.heap.size w w':=by
 have HF:=Lib.hid (fun w' (b:Below w.heap.size w w')=>fleet55 f w' (h.below b))
 have HP:=Lib.hid (fun w' (b:Below w.heap.size w w')=>place84 f v w' (h.below b) hbp)
 have HN:=Lib.hid (fun w'=>name85 f v w')
 obtain ⟨r,hr⟩:∃ r,r = checkE f v:=⟨_,rfl⟩
 rw[←hr]
 unfold checkE at hr
 have hz:=fun (h:fleetE f = 0)=>fleetE_zero h
 obtain ⟨ce,hce⟩:∃ ce,ce = fleetE f:=⟨_,rfl⟩
 rw[←hce] at HF hr hz
 obtain ⟨pb,hpb⟩:∃ pb,pb = placeB f v:=⟨_,rfl⟩
 obtain ⟨nb,hnb⟩:∃ nb,nb = nameB f v:=⟨_,rfl⟩
 rw[←hpb] at HP hr
 rw[←hnb] at HN hr
 clear hce hpb hnb h
 obtain ⟨bk,rd,dv,ad,nd,cd,D,a2,nt,ct,T⟩:=f
 obtain ⟨e0,e1,e2,e3,kd,e5,pl,e7,e8⟩:=v
 unfold Fl.cells eC at *
 dsimp only at hr hz HF HP HN ⊢
 have C1:=Lib.hid (fun w'=>within75 e0 0 (dv - 1) w')
 have C2:=Lib.hid (fun w'=>within75 e1 1 1048576 w')
 have C3:=Lib.hid (fun w'=>within75 kd 1 10 w')
 have C4:=Lib.hid (fun w'=>within75 e5 0 (bk - 1) w')
 generalize inB e0 0 (dv - 1) = b1 at *
 generalize inB e1 1 1048576 = b2 at *
 generalize inB kd 1 10 = b3 at *
 generalize inB e5 0 (bk - 1) = b4 at *
 have HRR:=Lib.hid hr
 have HZ:=Lib.hid hz
 clear hr hz
 obtain ⟨w0,hw0⟩:∃ w0,w0 = (w.alloc (.cells #[.int .i64 bk,.int .i64 rd,.int .i64 dv,.slice ad nd cd,.slice a2 nt ct] 24)).alloc (.cells #[.int .i64 e0,.int .i64 e1,.int .i64 e2,.int .i64 e3,.int .i64 kd,.int .i64 e5,.int .i64 pl,.int .i64 e7,.int .i64 e8] 81):=⟨_,rfl⟩
 have B0:Hid (Below w.heap.size w w0):=Lib.hid (by rw[hw0];exact ((Below.refl _ _).alloc (Nat.le_refl _) _).alloc (by simp) _)
 have X1:Hid (w0.heap[w.heap.size]? = some (.cells #[.int .i64 bk,.int .i64 rd,.int .i64 dv,.slice ad nd cd,.slice a2 nt ct] 24)):=Lib.hid (by
  have h1:=heap_alloc_new w (.cells #[.int .i64 bk,.int .i64 rd,.int .i64 dv,.slice ad nd cd,.slice a2 nt ct] 24)
  rw[hw0]
  exact (((Below.refl _ _).alloc (Nat.le_refl _) _).block _ (block_lt h1)).trans h1)
 have X2:Hid (w0.heap[w.heap.size+1]? = some (.cells #[.int .i64 e0,.int .i64 e1,.int .i64 e2,.int .i64 e3,.int .i64 kd,.int .i64 e5,.int .i64 pl,.int .i64 e7,.int .i64 e8] 81)):=Lib.hid (by
  have h1:=heap_alloc_new (w.alloc (.cells #[.int .i64 bk,.int .i64 rd,.int .i64 dv,.slice ad nd cd,.slice a2 nt ct] 24)) (.cells #[.int .i64 e0,.int .i64 e1,.int .i64 e2,.int .i64 e3,.int .i64 kd,.int .i64 e5,.int .i64 pl,.int .i64 e7,.int .i64 e8] 81)
  rw[show (w.alloc (.cells #[.int .i64 bk,.int .i64 rd,.int .i64 dv,.slice ad nd cd,.slice a2 nt ct] 24)).heap.size = w.heap.size+1 by simp] at h1
  rw[hw0];exact h1)
 have HW0:=Lib.hid hw0
 clear hw0
 go_enter Tryz.func58,Tryz.ntmps58
 go_wp2_with fail
 rw[←HW0.out]
 clear HW0
 refine (HF.out _ B0.out).mono ?_
 rintro e w1 ⟨rfl,b1'⟩
 have B1:=Lib.hid (B0.out.trans (b1'.mono B0.out.size))
 have x1:=(b1'.block _ (block_lt X1.out)).trans X1.out
 have x2:=(b1'.block _ (block_lt X2.out)).trans X2.out
 have Y1:=Lib.hid x1
 have Y2:=Lib.hid x2
 have z1:=szs (block_lt x1)
 have z2:=szs (block_lt x2)
 have f0:w1.cell? ⟨w.heap.size,0,none⟩ = some (.int .i64 bk):=cell_at x1 0
 have f1:w1.cell? ⟨w.heap.size,1,none⟩ = some (.int .i64 rd):=cell_at x1 1
 have f2:w1.cell? ⟨w.heap.size,2,none⟩ = some (.int .i64 dv):=cell_at x1 2
 have f3:w1.cell? ⟨w.heap.size,3,none⟩ = some (.slice ad nd cd):=cell_at x1 3
 have f4:w1.cell? ⟨w.heap.size,4,none⟩ = some (.slice a2 nt ct):=cell_at x1 4
 have g0:w1.cell? ⟨w.heap.size+1,0,none⟩ = some (.int .i64 e0):=cell_at x2 0
 have g1:w1.cell? ⟨w.heap.size+1,1,none⟩ = some (.int .i64 e1):=cell_at x2 1
 have g2:w1.cell? ⟨w.heap.size+1,2,none⟩ = some (.int .i64 e2):=cell_at x2 2
 have g3:w1.cell? ⟨w.heap.size+1,3,none⟩ = some (.int .i64 e3):=cell_at x2 3
 have g4:w1.cell? ⟨w.heap.size+1,4,none⟩ = some (.int .i64 kd):=cell_at x2 4
 have g5:w1.cell? ⟨w.heap.size+1,5,none⟩ = some (.int .i64 e5):=cell_at x2 5
 have g6:w1.cell? ⟨w.heap.size+1,6,none⟩ = some (.int .i64 pl):=cell_at x2 6
 have g7:w1.cell? ⟨w.heap.size+1,7,none⟩ = some (.int .i64 e7):=cell_at x2 7
 have g8:w1.cell? ⟨w.heap.size+1,8,none⟩ = some (.int .i64 e8):=cell_at x2 8
 clear b1' x1 x2 X1 X2 B0 HF
 by_cases hc:ce = 0
 ·subst hc
  obtain ⟨⟨k1,k2⟩,⟨k3,k4⟩,⟨k5,k6⟩,_⟩:=HZ.out rfl
  have w3:IntKind.i64.wrap (dv - 1) = dv - 1:=IntWalk.i64_in _ (by omega)
  have w4:IntKind.i64.wrap (bk - 1) = bk - 1:=IntWalk.i64_in _ (by omega)
  go_wp2_with fail
  refine (C1.out _).mono ?_
  rintro e wa ⟨rfl,rfl⟩
  cases b1
  ·have HR:Hid (r = 1):=Lib.hid (by rw[HRR.out];simp)
   clear HRR
   go_wp2_with fail
   go_returns
   exact ⟨by rw[HR.out];rfl,B1.out⟩
  go_wp2_with fail
  refine (C2.out _).mono ?_
  rintro e wa ⟨rfl,rfl⟩
  cases b2
  ·have HR:Hid (r = 1):=Lib.hid (by rw[HRR.out];simp)
   clear HRR
   go_wp2_with fail
   go_returns
   exact ⟨by rw[HR.out];rfl,B1.out⟩
  by_cases h1:e2 < 0
  ·have HR:Hid (r = 1):=Lib.hid (by rw[HRR.out];simp [show ¬ 0≤e2 by omega])
   clear HRR
   go_wp2_with fail
   go_returns
   exact ⟨by rw[HR.out];rfl,B1.out⟩
  by_cases h2:e3 < e2
  ·have h1':0≤e2:=by omega
   have HR:Hid (r = 1):=Lib.hid (by rw[HRR.out];simp [show ¬ e2≤e3 by omega])
   clear HRR
   go_wp2_with fail
   go_returns
   exact ⟨by rw[HR.out];rfl,B1.out⟩
  by_cases h3:4294943999 < e3
  ·have h1':0≤e2:=by omega
   have h2':e2≤e3:=by omega
   have HR:Hid (r = 1):=Lib.hid (by rw[HRR.out];simp [show ¬ e3≤4294943999 by omega])
   clear HRR
   go_wp2_with fail
   go_returns
   exact ⟨by rw[HR.out];rfl,B1.out⟩
  have h1':0≤e2:=by omega
  have h2':e2≤e3:=by omega
  have h3':e3≤4294943999:=by omega
  clear h1 h2 h3
  go_wp2_with fail
  refine (C3.out _).mono ?_
  rintro e wa ⟨rfl,rfl⟩
  cases b3
  ·
   have HR:Hid (r = 14):=Lib.hid (by rw[HRR.out];simp [h1',h2',h3'])
   clear HRR
   go_wp2_with fail
   go_returns
   exact ⟨by rw[HR.out];rfl,B1.out⟩
  go_wp2_with fail
  refine (C4.out _).mono ?_
  rintro e wa ⟨rfl,rfl⟩
  cases b4
  ·
   have HR:Hid (r = 1):=Lib.hid (by rw[HRR.out];simp [h1',h2',h3'])
   clear HRR
   go_wp2_with fail
   go_returns
   exact ⟨by rw[HR.out];rfl,B1.out⟩
  by_cases kt:kd = 10
  ·have t10:(kd == 10) = true:=by simp [kt]
   by_cases kb:e5 = 0
   ·have tb:(e5 != 0) = false:=by simp [kb]
    have HRX:=Lib.hid (And.intro kt kb)
    clear kt kb
    go_wp2_with fail
    refine (HP.out _ B1.out).mono ?_
    rintro e w2 ⟨rfl,b2'⟩
    have B2:=Lib.hid (B1.out.trans (b2'.mono B1.out.size))
    have x1:=(b2'.block _ (block_lt Y1.out)).trans Y1.out
    have x2:=(b2'.block _ (block_lt Y2.out)).trans Y2.out
    have z3:=szs (block_lt x1)
    have z4:=szs (block_lt x2)
    have f0:w2.cell? ⟨w.heap.size,0,none⟩ = some (.int .i64 bk):=cell_at x1 0
    have f1:w2.cell? ⟨w.heap.size,1,none⟩ = some (.int .i64 rd):=cell_at x1 1
    have f2:w2.cell? ⟨w.heap.size,2,none⟩ = some (.int .i64 dv):=cell_at x1 2
    have f3:w2.cell? ⟨w.heap.size,3,none⟩ = some (.slice ad nd cd):=cell_at x1 3
    have f4:w2.cell? ⟨w.heap.size,4,none⟩ = some (.slice a2 nt ct):=cell_at x1 4
    have g0:w2.cell? ⟨w.heap.size+1,0,none⟩ = some (.int .i64 e0):=cell_at x2 0
    have g1:w2.cell? ⟨w.heap.size+1,1,none⟩ = some (.int .i64 e1):=cell_at x2 1
    have g2:w2.cell? ⟨w.heap.size+1,2,none⟩ = some (.int .i64 e2):=cell_at x2 2
    have g3:w2.cell? ⟨w.heap.size+1,3,none⟩ = some (.int .i64 e3):=cell_at x2 3
    have g4:w2.cell? ⟨w.heap.size+1,4,none⟩ = some (.int .i64 kd):=cell_at x2 4
    have g5:w2.cell? ⟨w.heap.size+1,5,none⟩ = some (.int .i64 e5):=cell_at x2 5
    have g6:w2.cell? ⟨w.heap.size+1,6,none⟩ = some (.int .i64 pl):=cell_at x2 6
    have g7:w2.cell? ⟨w.heap.size+1,7,none⟩ = some (.int .i64 e7):=cell_at x2 7
    have g8:w2.cell? ⟨w.heap.size+1,8,none⟩ = some (.int .i64 e8):=cell_at x2 8
    clear b2' x1 x2
    cases pb
    ·have HR:Hid (r = 7):=Lib.hid (by rw[HRR.out];simp [h1',h2',h3',HRX.out.1,HRX.out.2])
     clear HRR
     go_wp2_with fail
     go_returns
     exact ⟨by rw[HR.out];rfl,B2.out⟩
    ·go_wp2_with fail
     refine (HN.out _ k3 k4).mono ?_
     rintro e w3 ⟨rfl,b3'⟩
     have B3:=Lib.hid (B2.out.trans (b3'.mono B2.out.size))
     clear b3'
     cases nb
     ·have HR:Hid (r = 1):=Lib.hid (by rw[HRR.out];simp [h1',h2',h3',HRX.out.1,HRX.out.2])
      clear HRR
      go_wp2_with fail
      go_returns
      exact ⟨by rw[HR.out];rfl,B3.out⟩
     ·have HR:Hid (r = 0):=Lib.hid (by rw[HRR.out];simp [h1',h2',h3',HRX.out.1,HRX.out.2])
      clear HRR
      go_wp2_with fail
      go_returns
      exact ⟨by rw[HR.out];rfl,B3.out⟩
   ·have tb:(e5 != 0) = true:=by simp [kb]
    have HRX:=Lib.hid (And.intro kt kb)
    clear kt kb
    have HR:Hid (r = 1):=Lib.hid (by rw[HRR.out];simp [h1',h2',h3',HRX.out.1,HRX.out.2])
    clear HRR
    go_wp2_with fail
    go_returns
    exact ⟨by rw[HR.out];rfl,B1.out⟩
  ·have t10:(kd == 10) = false:=by simp [kt]
   have HRX:=Lib.hid kt
   clear kt
   go_wp2_with fail
   refine (HP.out _ B1.out).mono ?_
   rintro e w2 ⟨rfl,b2'⟩
   have B2:=Lib.hid (B1.out.trans (b2'.mono B1.out.size))
   have x1:=(b2'.block _ (block_lt Y1.out)).trans Y1.out
   have x2:=(b2'.block _ (block_lt Y2.out)).trans Y2.out
   have z3:=szs (block_lt x1)
   have z4:=szs (block_lt x2)
   have f0:w2.cell? ⟨w.heap.size,0,none⟩ = some (.int .i64 bk):=cell_at x1 0
   have f1:w2.cell? ⟨w.heap.size,1,none⟩ = some (.int .i64 rd):=cell_at x1 1
   have f2:w2.cell? ⟨w.heap.size,2,none⟩ = some (.int .i64 dv):=cell_at x1 2
   have f3:w2.cell? ⟨w.heap.size,3,none⟩ = some (.slice ad nd cd):=cell_at x1 3
   have f4:w2.cell? ⟨w.heap.size,4,none⟩ = some (.slice a2 nt ct):=cell_at x1 4
   have g0:w2.cell? ⟨w.heap.size+1,0,none⟩ = some (.int .i64 e0):=cell_at x2 0
   have g1:w2.cell? ⟨w.heap.size+1,1,none⟩ = some (.int .i64 e1):=cell_at x2 1
   have g2:w2.cell? ⟨w.heap.size+1,2,none⟩ = some (.int .i64 e2):=cell_at x2 2
   have g3:w2.cell? ⟨w.heap.size+1,3,none⟩ = some (.int .i64 e3):=cell_at x2 3
   have g4:w2.cell? ⟨w.heap.size+1,4,none⟩ = some (.int .i64 kd):=cell_at x2 4
   have g5:w2.cell? ⟨w.heap.size+1,5,none⟩ = some (.int .i64 e5):=cell_at x2 5
   have g6:w2.cell? ⟨w.heap.size+1,6,none⟩ = some (.int .i64 pl):=cell_at x2 6
   have g7:w2.cell? ⟨w.heap.size+1,7,none⟩ = some (.int .i64 e7):=cell_at x2 7
   have g8:w2.cell? ⟨w.heap.size+1,8,none⟩ = some (.int .i64 e8):=cell_at x2 8
   clear b2' x1 x2
   cases pb
   ·have HR:Hid (r = 7):=Lib.hid (by rw[HRR.out];simp [h1',h2',h3',HRX.out])
    clear HRR
    go_wp2_with fail
    go_returns
    exact ⟨by rw[HR.out];rfl,B2.out⟩
   ·go_wp2_with fail
    refine (HN.out _ k3 k4).mono ?_
    rintro e w3 ⟨rfl,b3'⟩
    have B3:=Lib.hid (B2.out.trans (b3'.mono B2.out.size))
    clear b3'
    cases nb
    ·have HR:Hid (r = 1):=Lib.hid (by rw[HRR.out];simp [h1',h2',h3',HRX.out])
     clear HRR
     go_wp2_with fail
     go_returns
     exact ⟨by rw[HR.out];rfl,B3.out⟩
    ·have HR:Hid (r = 0):=Lib.hid (by rw[HRR.out];simp [h1',h2',h3',HRX.out])
     clear HRR
     go_wp2_with fail
     go_returns
     exact ⟨by rw[HR.out];rfl,B3.out⟩
 ·have hr:r = ce:=by rw[HRR.out];simp [hc]
  have HR:=Lib.hid hr
  have tb:(ce != 0) = true:=by simp;exact hc
  clear hr HRR hc HZ
  go_wp2_with fail
  go_returns
  exact ⟨by rw[HR.out];rfl,B1.out⟩
end Go.Proofs.YtdpoppilnokniaaGreatDoor
