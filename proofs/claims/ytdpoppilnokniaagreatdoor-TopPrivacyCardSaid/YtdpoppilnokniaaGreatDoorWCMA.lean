/- Theorems of this seat. -/
import Derived.Test.YtdpoppilnokniaaGreatDoorWBC
import Derived.Test.YtdpoppilnokniaaGreatDoorWCUA
import Derived.Test.YtdpoppilnokniaaGreatDoorWEVA
import Derived.Test.YtdpoppilnokniaaGreatDoorWKA
import Derived.Maps.RangeWalk
import Derived.BigQuiet
namespace Go.Proofs.YtdpoppilnokniaaGreatDoor
def nums (v:Ev):List Int:=[v.dev,v.seq,v.at',v.late,v.kind,v.bike,v.place,v.rider,v.ride]
def inN (v:Ev):Prop:=∀ x∈nums v,-9223372036854775808≤x∧x≤9223372036854775807
end Go.Proofs.YtdpoppilnokniaaGreatDoor
namespace Go.Proofs.YtdpoppilnokniaaGreatDoor
open Go.RowKit Go.ChangeShapes Go.WideShapes Go.Deep Go.Maps
set_option linter.unusedVariables false
set_option linter.unusedSimpArgs false
def spv (x:Sp):List Value:=[.int .i64 x.wh,.int .i64 x.pl,.int .i64 x.rd,.bool x.ps]
def SpRow (w:World) (base b n:Nat) (F:Nat→Sp):Prop:=Row w base 112 4 (.slice (some ⟨b,0,none⟩) n n) n (fun i=>spv (F i))
structure SpAt (w:World) (b o:Nat) (x:Sp):Prop where
 c0:w.cell? ⟨b,o,none⟩ = some (.int .i64 x.wh)
 c1:w.cell? ⟨b,o+1,none⟩ = some (.int .i64 x.pl)
 c2:w.cell? ⟨b,o+2,none⟩ = some (.int .i64 x.rd)
 c3:w.cell? ⟨b,o+3,none⟩ = some (.bool x.ps)
theorem SpRow.at {w:World}{base b n:Nat}{F:Nat→Sp}(h:SpRow w base b n F) {i:Nat}(hi:i < n):SpAt w b (i * 4) (F i) :=
 have hc:=fun j (hj:j < 4)=>Row.cell h (fun _=>rfl) (i:=i) (j:=j) hi hj
 ⟨hc 0 (by decide),hc 1 (by decide),hc 2 (by decide),hc 3 (by decide)⟩
theorem SpRow.put {w:World}{base b n:Nat}{F:Nat→Sp}(h:SpRow w base b n F) {i:Nat}(hi:i < n) (x:Sp):SpRow (putCells w b (i * 4) (spv x)) base b n (upd F i x) :=
 Row.congr (Row.put h (fun i=>rfl) hi (spv x) rfl) fun j _=>by
  by_cases hj:j = i
  ·subst hj;rw[upd_same,upd_same]
  ·rw[upd_ne hj,upd_ne hj]
def ptR (v:Value):Option (DataW Unit×List MemPlace) :=
 match v with
 | .pointer (some ⟨b,0,none⟩)=>some (.lit (.int .i64 (b:Int)),[])
 | .pointer none=>some (.lit (.int .i64 (-1)),[])
 | _=>none
theorem ptR_inv {v:Value}{z:DataW Unit×List MemPlace}(h:ptR v = some z):(v = .pointer none∧z = (.lit (.int .i64 (-1)),[]))∨∃ b:Nat,v = .pointer (some ⟨b,0,none⟩)∧z = (.lit (.int .i64 (b:Int)),[]):=by
 unfold ptR at h
 split at h
 ·cases h;exact .inr ⟨_,rfl,rfl⟩
 ·cases h;exact .inl ⟨rfl,rfl⟩
 ·cases h
def ridV (s:CSt) (P:Nat→Nat) (id:Int):Int:=if 0≤findI s.G id s.k∧(s.G (findI s.G id s.k).toNat).opn = true then (P (findI s.G id s.k).toNat:Int) else -1
def OpenM (w:World) (b n:Nat) (s:CSt) (P:Nat→Nat):Prop :=
 ∃ D:DataW Unit,w.ownsMap Tryz.prog 3 ptR b n D∧IsMap D∧(∀ id,D.atKey (.int .i64 id) (.lit (.int .i64 (-1))) = .lit (.int .i64 (ridV s P id)))∧∀ id,has D (.int .i64 id) = decide (0≤ridV s P id)
structure Lay where
 sb:Nat
 sp:Nat
 om:Nat
 um:Nat
 P:Nat→Nat
structure CM (base lo:Nat) (f:Fl) (L:Lay) (s:CSt) (w:World):Prop where
 m0:w.heap[L.sb]? = some (.cells #[.int .i64 f.bikes,.int .i64 f.riders,.int .i64 f.devs,.slice f.ad f.nd f.cd,.slice f.a2 f.nt f.ct,.slice (some ⟨L.sp,0,none⟩) f.bikes.toNat f.bikes.toNat,.map (some L.om),.map (some L.um)] 148 (0,0))
 rows:SpRow w base L.sp f.bikes.toNat s.F
 opn:OpenM w L.om s.k s L.P
 used:IntSet Tryz.prog 3 4 w L.um s.k (fun id=>decide (0≤findI s.G id s.k))
 trip:∀ i,i < s.k→(s.G i).opn = true→w.heap[L.P i]? = some (.cells #[.int .i64 (s.G i).rider,.int .i64 (s.G i).bike,.bool (s.F (s.G i).bike.toNat).ps] 161 (0,0))
 b0:base≤L.sb∧base≤L.sp∧base≤L.om∧base≤L.um
 l0:L.sb < lo∧L.sp < lo∧L.om < lo∧L.um < lo
 ne:L.sb ≠ L.sp∧L.sb ≠ L.om∧L.sb ≠ L.um∧L.sp ≠ L.om∧L.sp ≠ L.um∧L.om ≠ L.um
 pl:∀ i,i < s.k→lo≤L.P i∧L.P i < w.heap.size
 pd:∀ i j,i < s.k→j < s.k→L.P i = L.P j→i = j
 hi:lo≤w.heap.size
def Lay.own (L:Lay) (k:Nat) (b:Nat):Prop:=b = L.sp∨b = L.om∨b = L.um∨∃ i,i < k∧b = L.P i
section
variable {base lo:Nat} {f:Fl} {L:Lay} {s:CSt} {w w':World}
theorem OpenM.off {X:Nat→Prop}{b n:Nat}{P:Nat→Nat}(h:OpenM w b n s P) (ho:Off X w w') (hX:¬ X b):OpenM w' b n s P:=by
 obtain ⟨D,⟨es,clock,hb,r⟩,h2⟩:=h
 exact ⟨D,⟨es,clock,(ho.block b (Array.getElem?_eq_some_iff.1 hb).1 hX).trans hb,r⟩,h2⟩
theorem CM.off {X:Nat→Prop}(h:CM base lo f L s w) (ho:Off X w w') (h1:¬ X L.sb) (h2:∀ b,L.own s.k b→¬ X b):CM base lo f L s w':=by
 refine ⟨(ho.block _ (block_lt h.m0) h1).trans h.m0,Row.off h.rows ho (fun g hg=>by cases hg;exact h2 _ (.inl rfl)),h.opn.off ho (h2 _ (.inr (.inl rfl))),h.used.off ho (h2 _ (.inr (.inr (.inl rfl)))),fun i hi hop=>?_,h.b0,h.l0,h.ne,
  fun i hi=>⟨(h.pl i hi).1,Nat.lt_of_lt_of_le (h.pl i hi).2 ho.size⟩,h.pd,Nat.le_trans h.hi ho.size⟩
 have ht:=h.trip i hi hop
 exact (ho.block _ (block_lt ht) (h2 _ (.inr (.inr (.inr ⟨i,hi,rfl⟩))))).trans ht
theorem CM.below (h:CM base lo f L s w) (hb:Below w.heap.size w w'):CM base lo f L s w':=h.off (X:=fun _=>False) (Off.of_below hb) (fun h=>h) (fun _ _ h=>h)
theorem CM.law:Keyed Tryz.prog 3:=int_keyed (q:=.i64) Tryz.underlying3
def ridP (x:Int):Value:=if x < 0 then .pointer none else .pointer (some ⟨x.toNat,0,none⟩)
theorem ridP_none:ridP (-1) = .pointer none:=rfl
theorem ridP_some (b:Nat):ridP (b:Int) = .pointer (some ⟨b,0,none⟩):=by unfold ridP;rw[if_neg (by omega),Int.toNat_natCast]
theorem CM.zero (w:World):(zeroValue 157).run Tryz.prog w = .ok (.pointer none) w:=by kernel_rfl
theorem CM.zeroB (w:World):(zeroValue 4).run Tryz.prog w = .ok (.bool false) w:=by kernel_rfl
theorem OpenM.look {b n:Nat}{P:Nat→Nat}(h:OpenM w b n s P) (id:Int) (hw:(Lit.int .i64 id).wf = true):(Instr.lookup 146 (.map (some b)) (.int .i64 id) false).run Tryz.prog w = .ok (ridP (ridV s P id)) w:=by
 obtain ⟨D,hown,hmap,hat,hhas⟩:=h
 obtain ⟨v,ps,hrun,hv⟩:=hown.lookup CM.law Tryz.underlying146 (CM.zero w) (zd:=.lit (.int .i64 (-1))) (zp:=[]) rfl (keyOf_int_mk Tryz.underlying3 hw)
 rw[hat] at hv
 suffices key:v = ridP (ridV s P id) by rw[hrun,key]
 rcases ptR_inv hv with ⟨rfl,h2⟩ | ⟨b',rfl,h2⟩
 ·have:ridV s P id = -1:=by simpa using congrArg (fun z=>z.1) h2
  rw[this];rfl
 ·have:ridV s P id = (b':Int):=by simpa using congrArg (fun z=>z.1) h2
  rw[this,ridP_some]
theorem IntSet.find {b n:Nat}{S:Int→Bool}(h:IntSet Tryz.prog 3 4 w b n S) (id:Int) (hw:(Lit.int .i64 id).wf = true):(Instr.lookup 122 (.map (some b)) (.int .i64 id) false).run Tryz.prog w = .ok (.bool (S id)) w :=
 h.look Tryz.underlying3 Tryz.underlying122 Tryz.underlying4 (CM.zeroB w) id hw
end
end Go.Proofs.YtdpoppilnokniaaGreatDoor
namespace Go.Proofs.YtdpoppilnokniaaGreatDoor
open Go.RowKit Go.ChangeShapes Go.WideShapes Go.Deep Go.Maps
set_option linter.unusedVariables false
set_option linter.unusedSimpArgs false
theorem refused86 (no:Bool) (x:Int) (w:World):Calls Tryz.prog 86 #[.bool no,.int .i64 x] w fun e w'=>e = .returned (.int .i64 (if no = true then x else 0))∧w = w':=by
 cases no with
 | false =>
  go_enter Tryz.func86,Tryz.ntmps86
  go_wp2_with fail
  go_returns
  exact ⟨rfl,rfl⟩
 | true =>
  go_enter Tryz.func86,Tryz.ntmps86
  go_wp2_with fail
  go_returns
  exact ⟨rfl,rfl⟩
theorem parked87 (x:Sp) (w:World):Calls Tryz.prog 87 #[.agg #[.int .i64 x.wh,.int .i64 x.pl,.int .i64 x.rd,.bool x.ps]] w fun e w'=>e = .returned (.bool (parkB x))∧Below w.heap.size w w':=by
 have BW:Below w.heap.size w (w.alloc (.cells #[.int .i64 x.wh,.int .i64 x.pl,.int .i64 x.rd,.bool x.ps] 112)):=by (repeat' (first | with_reducible (first | exact Below.refl _ _ | assumption | refine Below.drew ?_ | refine below_drewN ?_ _ | refine Below.alloc ?_ ?_ _ | refine Below.setCell ?_ ?_ _) | go_size))
 obtain ⟨r,hr⟩:∃ r,r = parkB x:=⟨_,rfl⟩
 rw[←hr]
 unfold parkB at hr
 obtain ⟨a,b,c,d⟩:=x
 dsimp only at hr BW ⊢
 have HB:=Lib.hid BW
 clear BW
 by_cases h1:a = 1
 ·subst h1
  obtain rfl:r = true:=by rw[hr];rfl
  clear hr
  go_enter Tryz.func87,Tryz.ntmps87
  go_wp2_with fail
  go_returns
  exact ⟨rfl,HB.out⟩
 ·have t1:(a == 1) = false:=by simpa using h1
  by_cases h2:a = 2
  ·subst h2
   obtain rfl:r = true:=by rw[hr];rfl
   clear hr h1 t1
   go_enter Tryz.func87,Tryz.ntmps87
   go_wp2_with fail
   go_returns
   exact ⟨rfl,HB.out⟩
  ·have t2:(a == 2) = false:=by simpa using h2
   obtain rfl:r = false:=by rw[hr];simp [h1,h2]
   clear hr
   go_enter Tryz.func87,Tryz.ntmps87
   go_wp2_with fail
   go_returns
   exact ⟨rfl,HB.out⟩
set_option maxRecDepth 4000 in
set_option maxHeartbeats 4000000 in
theorem count88 {base lo:Nat}{f:Fl}{L:Lay}{s:CSt}{w:World}(h:CM base lo f L s w) (wh pl:Int) (hn:f.bikes.toNat≤1000) :
  Calls Tryz.prog 88 #[.pointer (some ⟨L.sb,0,none⟩),.int .i64 wh,.int .i64 pl] w fun e w'=>e = .returned (.int .i64 (cntN s.F wh pl f.bikes.toNat:Int))∧Below w.heap.size w w':=by
 have HR:=Lib.hid h.rows
 have c5:=cell_at h.m0 5
 have z:=szs (block_lt h.m0)
 obtain ⟨C,hC0,hCs,hCl,hCn⟩:∃ C:Nat→Nat,C 0 = 0∧(∀ k,C (k+1) = C k+if (s.F k).wh = wh∧(s.F k).pl = pl then 1 else 0)∧(∀ k,C k≤k)∧C f.bikes.toNat = cntN s.F wh pl f.bikes.toNat :=
  ⟨fun k=>cntN s.F wh pl k,rfl,fun _=>rfl,fun k=>cntN_le s.F wh pl k,rfl⟩
 have HC0:=Lib.hid hC0
 have HS:=Lib.hid hCs
 have HL:=Lib.hid hCl
 rw[←hCn]
 clear h hC0 hCs hCl hCn
 generalize f.bikes.toNat = n at *
 generalize s.F = F at *
 obtain ⟨sb,sp,om,um,P⟩:=L
 dsimp only at *
 go_enter Tryz.func88,Tryz.ntmps88
 go_wp2_with fail
 go_loopw [7,15] (fun s7 s15 wr=>∃ k:Nat,s15 = .int .i64 k∧k≤n∧s7 = .int .i64 (C k:Int)∧Hid (Below w.heap.size w wr)) (fun _ s15 _=>n - (intOf s15).toNat)
 case atStart=>exact ⟨0,rfl,by omega,by rw[HC0.out];rfl,Lib.hid (Below.refl _ _)⟩
 case round =>
  obtain ⟨k,rfl,hk,rfl,hb⟩:=hrel
  have BW:=hb
  clear hb
  by_cases hlt:k < n
  ·have tk:(k:Int) < (n:Int):=by omega
   obtain ⟨a0,a1,a2,a3⟩:=SpRow.at (Row.off (X:=fun _=>False) HR.out (Off.of_below BW.out) (fun _ _ h=>h)) hlt
   have HS1:=Lib.hid (HS.out k)
   have hC:=HL.out k
   clear HS HL
   obtain ⟨c,hc⟩:∃ c,c = C k:=⟨_,rfl⟩
   obtain ⟨c',hc'⟩:∃ c',c' = C (k+1):=⟨_,rfl⟩
   rw[←hc,←hc'] at HS1
   rw[←hc] at hC ⊢
   have HCC:=Lib.hid hc'
   clear hc hc'
   generalize F k = x at *
   obtain ⟨xa,xb,xc,xd⟩:=x
   dsimp only at a0 a1 a2 a3 HS1
   have zg:=szs (cell_lt a0)
   dsimp only at zg
   have BA:Hid (Below w.heap.size w (wr.alloc (.cells #[.int .i64 xa,.int .i64 xb,.int .i64 xc,.bool xd] 112))):=Lib.hid (BW.out.alloc BW.out.size _)
   by_cases h1:xa = wh
   ·subst h1
    have t1:(xa == xa) = true:=by simp
    by_cases h2:xb = pl
    ·subst h2
     have t2:(xb == xb) = true:=by simp
     obtain rfl:c' = c+1:=by rw[HS1.out,if_pos ⟨rfl,rfl⟩]
     clear HS1
     go_wp2_with fail
     go_roundw
     case rel=>exact ⟨k+1,by go_num,by omega,by rw[←HCC.out];go_num,BA⟩
     case measure=>simp [intOf];omega
    ·have t2:(xb == pl) = false:=by simpa using h2
     obtain rfl:c' = c:=by rw[HS1.out,if_neg (fun h=>h2 h.2)];rfl
     clear HS1
     go_wp2_with fail
     go_roundw
     case rel=>exact ⟨k+1,by go_num,by omega,by rw[←HCC.out],BA⟩
     case measure=>simp [intOf];omega
   ·have t1:(xa == wh) = false:=by simpa using h1
    obtain rfl:c' = c:=by rw[HS1.out,if_neg (fun h=>h1 h.1)];rfl
    clear HS1
    go_wp2_with fail
    go_roundw
    case rel=>exact ⟨k+1,by go_num,by omega,by rw[←HCC.out],BA⟩
    case measure=>simp [intOf];omega
  ·obtain rfl:k = n:=by omega
   go_wp2_with fail
   go_returns
   exact ⟨rfl,BW.out⟩
theorem rides_ridV {s:CSt}{n:Nat}(h:Inv n s) (P:Nat→Nat) (rider:Int):ridesB s.G rider s.k = true↔∃ (i:Nat) (id:Int),i < s.k∧ridV s P id = (P i:Int)∧(s.G i).id = id∧(s.G i).opn = true∧(s.G i).rider = rider:=by
 rw[ridesB_iff]
 constructor
 ·rintro ⟨i,h1,h2,h3⟩
  refine ⟨i,(s.G i).id,h1,?_,rfl,h2,h3⟩
  unfold ridV
  rw[h.find h1,Int.toNat_natCast,if_pos ⟨by omega,h2⟩]
 ·rintro ⟨i,id,h1,h2,h3,h4,h5⟩
  exact ⟨i,h1,h4,h5⟩
theorem ridV_open {s:CSt}{P:Nat→Nat}{id:Int}(h:0≤ridV s P id):∃ i,i < s.k∧ridV s P id = (P i:Int)∧(s.G i).id = id∧(s.G i).opn = true:=by
 unfold ridV at h ⊢
 split at h
 ·rename_i hh
  rw[if_pos hh]
  rcases findI_spec (G:=s.G) (id:=id) (k:=s.k) with ⟨h1,_⟩ | ⟨i,h1,h2,h3,_⟩
  ·omega
  ·rw[h1,Int.toNat_natCast] at hh ⊢
   exact ⟨i,h2,rfl,h3,hh.2⟩
 ·omega
theorem Inv.ridV_of {s:CSt}{n:Nat}(h:Inv n s) {P:Nat→Nat}{i:Nat}(hi:i < s.k) (ho:(s.G i).opn = true):ridV s P (s.G i).id = (P i:Int):=by
 unfold ridV
 rw[h.find hi,Int.toNat_natCast,if_pos ⟨by omega,ho⟩]
def ptK:Option Nat→Value
 | none=>.pointer none
 | some b=>.pointer (some ⟨b,0,none⟩)
theorem ptK_inv {v:Value}{y:DataW Unit×List MemPlace}(h:ptR v = some y):∃ c,v = ptK c:=by
 rcases ptR_inv h with ⟨rfl,_⟩ | ⟨b,rfl,_⟩
 ·exact ⟨none,rfl⟩
 ·exact ⟨some b,rfl⟩
set_option maxRecDepth 4000 in
set_option maxHeartbeats 4000000 in
theorem riding89 {base lo:Nat}{f:Fl}{L:Lay}{s:CSt}{w:World}(h:CM base lo f L s w) (hI:Inv f.bikes.toNat s) (rider:Int) :
  Calls Tryz.prog 89 #[.pointer (some ⟨L.sb,0,none⟩),.int .i64 rider] w fun e w'=>e = .returned (.bool (ridesB s.G rider s.k))∧Below w.heap.size w w':=by
 have c6:=cell_at h.m0 6
 have z:=szs (block_lt h.m0)
 have HT:=Lib.hid h.trip
 obtain ⟨D,hown,hmap,hat,hhas⟩:=h.opn
 have HOW:=Lib.hid hown
 have HAT:=Lib.hid hat
 have HHAS:=Lib.hid hhas
 have HRO:=Lib.hid (fun (id:Int) h=>ridV_open (s:=s) (P:=L.P) (id:=id) h)
 have HRR:=Lib.hid (rides_ridV hI L.P rider)
 obtain ⟨r,hr⟩:∃ r,r = ridesB s.G rider s.k:=⟨_,rfl⟩
 rw[←hr] at HRR ⊢
 have hbl:=hown.lt
 clear hown hmap hat hhas hr h
 obtain ⟨sb,sp,om,um,P⟩:=L
 dsimp only at *
 go_enter Tryz.func89,Tryz.ntmps89
 go_wp2_with (first | (at_range;refine wpList_range_own _ rfl _ 146 rfl 3 157 CM.law Tryz.underlying146 ptR om s.k D rfl HOW.out ?_;intro w0 hrg0 hg0 hs0) | fail)
 go_frame
 have HG0:=Lib.hid (Off.of_grown hg0)
 have HRG0:=Lib.hid hrg0
 clear hrg0 hg0 hs0
 go_loopw [6] (fun s6 wr=>∃ left cnt,Hid (wr.ranges Tryz.prog 3 ptR om w.heap.size s.k D left cnt)∧Hid (Below w.heap.size w wr)∧Hid (∀ i,i < s.k→(s.G i).opn = true→left (.int .i64 (s.G i).id) = false→(s.G i).rider ≠ rider)) (fun _ wr=>wr.rangeLeft om w.heap.size)
 case atStart =>
  refine ⟨_,_,HRG0,Lib.hid (HG0.out.toBelow (Nat.le_refl _) (fun k _ h=>by simp at h)),Lib.hid (fun i hi ho hl=>?_)⟩
  rw[HHAS.out,hI.ridV_of hi ho] at hl
  simp at hl
 case round =>
  obtain ⟨left,cnt,hrg,hb,hv⟩:=hrel
  have HRG:=hrg
  have BW:=hb
  have HV:=hv
  clear hrg hb hv
  go_wp2_with (first | (at_next;refine wpList_next_ranges (α:=Int) (β:=Option Nat) _ rfl _ rfl 3 CM.law ptR (Value.int .i64) ptK (fun key kl hkey=>by obtain ⟨x,rfl,_⟩:=Maps.keyOf_int_inv Tryz.underlying3 hkey;exact ⟨x,rfl⟩) (fun v y hv=>ptK_inv hv) om w.heap.size s.k _ _ _ rfl HRG.out ?_ ?_) | fail)
  ·intro _ hl0
   have hr:r = false:=by
    cases hh:r with
    | false=>rfl
    | true =>
     obtain ⟨i,id,h1,h2,h3,h4,h5⟩:=HRR.out.1 hh
     exact absurd h5 (HV.out i h1 h4 (hl0 _))
   subst hr
   clear HRR hl0
   go_wp2_with fail
   go_returns
   exact ⟨rfl,BW.out⟩
  ·intro x c kl y ps w1 cnt1 hkey hlk hv hat1 hrg1 hlt hg1 hs1 hen
   obtain ⟨x',ex,rfl,_⟩:=Maps.keyOf_int_inv Tryz.underlying3 hkey
   cases ex
   have hy:=(hat1 (.lit (.int .i64 (-1)))).symm.trans (HAT.out x)
   have hh:has D (.int .i64 x) = true:=has_true_of_atKey hat1
   rw[HHAS.out,decide_eq_true_iff] at hh
   obtain ⟨i,i1,i2,i3,i4⟩:=HRO.out x hh
   rw[i2] at hy
   subst hy
   obtain ⟨rfl⟩:c = some (P i):=by
    cases c with
    | none =>
     have:ptR (.pointer none) = some (.lit (.int .i64 (P i:Int)),ps):=hv
     simp [ptR] at this
    | some b =>
     have:ptR (.pointer (some ⟨b,0,none⟩)) = some (.lit (.int .i64 (P i:Int)),ps):=hv
     simp [ptR] at this
     have:b = P i:=by omega
     rw[this]
   have b1:Below w.heap.size wr w1:=(Off.of_grown hg1).toBelow BW.out.size (fun k hk h=>by simp at h;omega)
   have B1:=Lib.hid (BW.out.trans b1)
   have ht:=HT.out i i1 i4
   have ht1:=(B1.out.block _ (block_lt ht)).trans ht
   have t0:=cell_at ht1 0
   have zt:=szs (block_lt ht1)
   have HRG1:=Lib.hid hrg1
   have HLT:=Lib.hid hlt
   have hen':Sem.run Tryz.prog (Instr.entry (Value.pointer (some { block:=w.heap.size,off:=0 }))) w1 = Result.ok (Value.tuple #[Value.int IntKind.i64 x,Value.pointer (some { block:=P i,off:=0 })]) w1:=hen
   have HONE:=Lib.hid hI.one
   have HRT:Hid ((s.G i).rider = rider→r = true):=Lib.hid (fun h=>HRR.out.2 ⟨i,x,i1,i2,i3,i4,h⟩)
   have HID:=Lib.hid i3
   clear hkey hlk hv hat1 hrg1 hlt hg1 hs1 hen hh i2 i3 i4 ht ht1 b1 BW HRR HRO HHAS HAT hI
   generalize hrd:(s.G i).rider = rd at *
   have HRD:=Lib.hid hrd
   clear hrd
   by_cases hq:rd = rider
   ·have hr:=HRT.out hq
    subst hr hq
    have te:(rd == rd) = true:=by simp
    go_wp2_with fail
    go_returns
    exact ⟨rfl,B1.out⟩
   ·have te:(rd == rider) = false:=by simpa using hq
    go_wp2_with fail
    go_roundw
    case rel =>
     refine ⟨_,_,HRG1,B1,Lib.hid (fun j hj ho hl=>?_)⟩
     rw[Bool.and_eq_false_iff] at hl
     rcases hl with hl | hl
     ·exact HV.out j hj ho hl
     ·have:(s.G j).id = x:=by
       have hl:(Lit.int .i64 (s.G j).id).sameKey (.int .i64 x) = true:=by simpa using hl
       simpa [Lit.sameKey] using hl
      obtain rfl:j = i:=HONE.out j i hj i1 (by rw[this,HID.out])
      rw[HRD.out];exact hq
    case measure=>rw[HRG1.out.left_eq,HRG.out.left_eq];exact HLT.out
end Go.Proofs.YtdpoppilnokniaaGreatDoor
namespace Go.Proofs.YtdpoppilnokniaaGreatDoor
open Go.RowKit Go.ChangeShapes Go.WideShapes Go.Deep Go.Maps
set_option linter.unusedVariables false
set_option linter.unusedSimpArgs false
theorem check_fleet {f:Fl}{e:Ev}(h:checkE f e = 0):fleetE f = 0:=by
 unfold checkE at h
 split at h
 ·rename_i h1;exact absurd h h1
 ·rename_i h1;exact Decidable.not_not.1 h1
theorem check_place {f:Fl}{e:Ev}(h:checkE f e = 0) (hk:e.kind = 7):0≤e.place∧e.place < f.nt:=by
 unfold checkE at h
 split at h
 ·rename_i h1;exact absurd h h1
 split at h
 ·simp at h
 split at h
 ·simp at h
 split at h
 ·simp at h
 split at h
 ·simp at h
 rename_i h5
 unfold placeB at h5
 rw[if_neg (by omega),if_neg (by omega),if_pos hk] at h5
 have:=inB_iff.1 (by simpa using h5)
 omega
theorem ridV_cases (s:CSt) (P:Nat→Nat) (id:Int):(ridV s P id = -1∧(findI s.G id s.k < 0∨(s.G (findI s.G id s.k).toNat).opn = false))∨(∃ i:Nat,i < s.k∧findI s.G id s.k = (i:Int)∧(s.G i).opn = true∧ridV s P id = (P i:Int)):=by
 unfold ridV
 by_cases h:0≤findI s.G id s.k∧(s.G (findI s.G id s.k).toNat).opn = true
 ·right
  rw[if_pos h]
  rcases findI_spec (G:=s.G) (id:=id) (k:=s.k) with ⟨h1,_⟩ | ⟨i,h1,h2,h3,_⟩
  ·omega
  ·rw[h1,Int.toNat_natCast] at h ⊢
   exact ⟨i,h2,rfl,h.2,rfl⟩
 ·left
  rw[if_neg h]
  refine ⟨rfl,?_⟩
  rcases Int.lt_or_le (findI s.G id s.k) 0 with h1 | h1
  ·exact .inl h1
  ·right
   cases hh:(s.G (findI s.G id s.k).toNat).opn
   ·rfl
   ·exact absurd ⟨h1,hh⟩ h
end Go.Proofs.YtdpoppilnokniaaGreatDoor
namespace Go.Proofs.YtdpoppilnokniaaGreatDoor
open Go.RowKit Go.ChangeShapes Go.WideShapes Go.Deep Go.Maps
set_option linter.unusedVariables false
set_option linter.unusedSimpArgs false
set_option maxRecDepth 8000 in
set_option maxHeartbeats 16000000 in
theorem check65_A {base lo:Nat}{f:Fl}{L:Lay}{s:CSt}{w:World}(h:CM base lo f L s w) (hI:Inv f.bikes.toNat s) (e:Ev) (hin:inN e) (hc:checkE f e = 0) (hk:e.kind ≠ 10) (hF:f.In w) (hlo:1≤e.kind) (hhi:e.kind≤3) :
  Calls Tryz.prog 59 #[.pointer (some ⟨L.sb,0,none⟩),.agg (eC e)] w fun x w'=>x = .returned (.int .i64 (faultK f s e))∧Below w.heap.size w w':=by
 obtain ⟨k1,k2⟩:=kind_in hc
 obtain ⟨b1,b2⟩:=bike_in hc
 have hfb:f.bikes≤128:=(fleetE_zero (check_fleet hc)).1.2
 obtain ⟨b,hb⟩:=Int.eq_ofNat_of_zero_le b1
 have hbn:b < f.bikes.toNat:=by omega
 have hwr:(Lit.int .i64 e.ride).wf = true:=WalkArith.wf_i64 (hin _ (by simp [nums]))
 have HFK:Hid (faultK f s e = faultK f s e):=Lib.hid rfl
 have HCM:=Lib.hid h
 obtain ⟨a0,a1,a2,a3⟩:=h.rows.at hbn
 have c4:=cell_at h.m0 4
 have c5:=cell_at h.m0 5
 have c6:=cell_at h.m0 6
 have c7:=cell_at h.m0 7
 simp only[List.getElem?_toArray,List.getElem?_cons_succ,List.getElem?_cons_zero] at c4 c5 c6 c7
 have zs:=szs (block_lt h.m0)
 have zp:=szs (cell_lt a0)
 dsimp only at zp
 have HFI:=Lib.hid hF
 clear hF
 have B0:Hid (Below w.heap.size w (w.alloc (.cells (eC e) 81))):=Lib.hid (by (repeat' (first | with_reducible (first | exact Below.refl _ _ | assumption | refine Below.drew ?_ | refine below_drewN ?_ _ | refine Below.alloc ?_ ?_ _ | refine Below.setCell ?_ ?_ _) | go_size)))
 have X0:Hid ((w.alloc (.cells (eC e) 81)).heap[w.heap.size]? = some (.cells (eC e) 81 (0,0))):=Lib.hid (heap_alloc_new w _)
 obtain ⟨w1,hw1⟩:∃ w1,w1 = w.alloc (.cells (eC e) 81):=⟨_,rfl⟩
 rw[←hw1] at B0 X0
 have HW1:=Lib.hid hw1
 obtain ⟨r,hr⟩:∃ r,r = faultK f s e:=⟨_,rfl⟩
 rw[←hr]
 have HR:=Lib.hid hr
 unfold faultK at hr
 rw[hb,Int.toNat_natCast] at hr
 generalize hx:s.F b = x at *
 obtain ⟨xa,xb,xc,xd⟩:=x
 dsimp only at a0 a1 a2 a3 hr
 have HRR:=Lib.hid hr
 have HI:=Lib.hid hI
 have HPL:Hid (e.kind = 7→0≤e.place∧e.place < f.nt):=Lib.hid (fun h=>check_place hc h)
 clear hr hw1 hc hI h HFK
 obtain ⟨v1,v2,v3,v4,v5,v6,v7,v8,v9⟩:=e
 dsimp only at hb hk k1 k2 hlo hhi b1 b2 hwr HRR HPL
 subst hb
 unfold eC at *
 dsimp only at X0 HW1 ⊢
 obtain ⟨sb,sp,om,um,P⟩:=L
 dsimp only at *
 obtain ⟨n,hn⟩:∃ n,n = f.bikes.toNat:=⟨_,rfl⟩
 have HN:=Lib.hid hn
 rw[←hn] at hbn c5 HRR
 have hn128:n≤128:=by omega
 clear hn hfb b2
 go_enter Tryz.func59,Tryz.ntmps59
 go_wp2_with fail
 rw[←HW1.out]
 have ey:=X0.out
 have y0:=cell_at ey 0
 have y1:=cell_at ey 1
 have y2:=cell_at ey 2
 have y3:=cell_at ey 3
 have y4:=cell_at ey 4
 have y5:=cell_at ey 5
 have y6:=cell_at ey 6
 have y7:=cell_at ey 7
 have y8:=cell_at ey 8
 replace a0:=cell_kept B0.out a0
 replace a1:=cell_kept B0.out a1
 replace a2:=cell_kept B0.out a2
 replace a3:=cell_kept B0.out a3
 replace c4:=cell_kept B0.out c4
 replace c5:=cell_kept B0.out c5
 replace c6:=cell_kept B0.out c6
 replace c7:=cell_kept B0.out c7
 have M1:=Lib.hid (HCM.out.below B0.out)
 have FI1:=Lib.hid (HFI.out.below B0.out)
 clear HCM HFI HW1 ey zs zp
 (obtain ⟨ι,hne,Fw,fb,hF⟩:=grow_family w1);have hF:∀ w',(gPlan w1 (fun _=>undef) [] [] []).D () w'→∃ i,w' = Fw i:=hF
 have fc5:=fun i=>cell_kept (fb i) c5
 have fy5:=fun i=>cell_kept (fb i) y5
 have fa0:=fun i=>cell_kept (fb i) a0
 have fa1:=fun i=>cell_kept (fb i) a1
 have fa2:=fun i=>cell_kept (fb i) a2
 have fa3:=fun i=>cell_kept (fb i) a3
 (refine region_chain (gPlan w1 (fun _=>undef) [] [(8,fun b=>.pointer (some ⟨b,0,none⟩),.cells #[.int .i64 0,.int .i64 0,.int .i64 0,.bool false] 112)] [(9,8)]) () [] [0,1,2,3,4,5,6,7,8,9] [] mixed (by kernel_rfl) (by kernel_rfl) (gPlan_ok (by simp) (by simp)) (gPlan_start _ _ _ _ _) ?_;refine wpPure_nil ?_;simp only[List.map_cons,List.map_nil,Array.getD_eq_getD_getElem?,List.getElem?_toArray,List.getElem?_cons_zero,List.getElem?_cons_succ,Option.getD_some])
 (repeat (first | (refine wpChain_skip rfl ?_;simp only[Act.put,List.setIfInBounds_toArray,List.set_cons_succ,List.set_cons_zero]) | (refine wpChain_quiet hF rfl rfl rfl ?_;intro K hK;go_big_quiet_op;go_big_quiet_on) | (refine wpChain_pure _ rfl rfl (fun w' _=>by go_simp;try rfl) ?_;simp only[Act.put,List.setIfInBounds_toArray,List.set_cons_succ,List.set_cons_zero])))
 (refine wpChain_alloc _ _ rfl (List.mem_cons_self ..) rfl (fun w'=>by go_simp) (fun q1 hq1=>?_);simp only[Act.put,List.setIfInBounds_toArray,List.set_cons_succ,List.set_cons_zero])
 (refine wpChain_store 8 q1 (.cells #[.int .i64 0,.int .i64 0,.int .i64 0,.bool false] 112) (.cells #[.int .i64 xa,.int .i64 xb,.int .i64 xc,.bool xd] 112) rfl (by simp [gPlan]) (by simp [setB]) (by simp [setB]) rfl (fun w' hw'=>by have c0:=cell_at hw' 0;have c1:=cell_at hw' 1;have c2:=cell_at hw' 2;have c3:=cell_at hw' 3;have g0:=free_at hw';have hlt:=block_lt hw';go_simp;rw[setCell_at hw',setAt_setCell hlt,setAt_setCell hlt,setAt_setCell hlt];rfl) ?_;simp only[Act.put,List.setIfInBounds_toArray,List.set_cons_succ,List.set_cons_zero])
 refine wpChain_nil (fun w2 hb2 hl2=>?_)
 have hx2:w2.heap[q1]? = some (.cells #[.int .i64 xa,.int .i64 xb,.int .i64 xc,.bool xd] 112 (0,0)):=(hl2.2 (8,q1,.cells #[.int .i64 xa,.int .i64 xb,.int .i64 xc,.bool xd] 112) (by simp [setB])).2
 have hb2':Below w1.heap.size w1 w2:=hb2
 have B2:=Lib.hid (B0.out.trans (hb2'.mono B0.out.size))
 have M2:=Lib.hid (M1.out.below hb2')
 have FI2:=Lib.hid (FI1.out.below hb2')
 replace y0:=cell_kept hb2' y0
 replace y1:=cell_kept hb2' y1
 replace y2:=cell_kept hb2' y2
 replace y3:=cell_kept hb2' y3
 replace y4:=cell_kept hb2' y4
 replace y5:=cell_kept hb2' y5
 replace y6:=cell_kept hb2' y6
 replace y7:=cell_kept hb2' y7
 replace y8:=cell_kept hb2' y8
 replace c4:=cell_kept hb2' c4
 replace c6:=cell_kept hb2' c6
 replace c7:=cell_kept hb2' c7
 have t0:=cell_at hx2 0
 have t1:=cell_at hx2 1
 have t2:=cell_at hx2 2
 have t3:=cell_at hx2 3
 have zy:=szs (cell_lt y0)
 have zc:=szs (cell_lt c4)
 have zt:=szs (block_lt hx2)
 dsimp only at zy zc
 clear hb2 hb2' hl2 hx2 hF fb hne fc5 fy5 fa0 fa1 fa2 fa3 a0 a1 a2 a3 c5 hq1 M1 FI1 B0 X0
 have LK:∀ i,Sem.run Tryz.prog (Instr.lookup 146 (.map (some om)) (.int .i64 v9) false) (w2.drewN i) = .ok (ridP (ridV s P v9)) (w2.drewN i):=fun i=>(M2.out.opn.off (X:=fun _=>False) (Off.of_below (below_drewN (Below.refl _ _) i)) (fun h=>h)).look v9 hwr
 refine onlyN_intro ?_
 go_wp2_with fail
 (refine region_all (fun i:Nat=>World.drewN _ i) mixed (by kernel_rfl) ⟨1,rfl⟩ ?_;(repeat (any_goals (first | go_big_quiet_step (fail) | quiet_step (fail) | (refine wpQuiet_step (fun K hK=>?_);go_simp;split <;> (refine hK _ ?_;clear hK K)))));(all_goals (refine wpQuiet_nil (fun nq=>?_))))
 have b3:Below w2.heap.size w2 (w2.drewN nq):=below_drewN (Below.refl _ _) nq
 have B3:=B2
 have M3:=M2
 have FI3:=FI2
 clear B2 M2 FI2 LK
 generalize w2.drewN nq = w3 at *
 replace y0:=cell_kept b3 y0
 replace y1:=cell_kept b3 y1
 replace y2:=cell_kept b3 y2
 replace y3:=cell_kept b3 y3
 replace y4:=cell_kept b3 y4
 replace y5:=cell_kept b3 y5
 replace y6:=cell_kept b3 y6
 replace y7:=cell_kept b3 y7
 replace y8:=cell_kept b3 y8
 replace c4:=cell_kept b3 c4
 replace c6:=cell_kept b3 c6
 replace c7:=cell_kept b3 c7
 replace t0:=cell_kept b3 t0
 replace t1:=cell_kept b3 t1
 replace t2:=cell_kept b3 t2
 replace t3:=cell_kept b3 t3
 replace B3:=Lib.hid (B3.out.trans (Below.mono b3 B3.out.size))
 replace M3:=Lib.hid (M3.out.below b3)
 replace FI3:=Lib.hid (FI3.out.below b3)
 clear zy zc zt b3
 have zy:=szs (cell_lt y0)
 have zc:=szs (cell_lt c4)
 have zt:=szs (cell_lt t0)
 dsimp only at zy zc zt
 have PK:=Lib.hid (fun w'=>parked87 ⟨xa,xb,xc,xd⟩ w')
 dsimp only at PK
 obtain ⟨p,hp⟩:∃ p,p = parkB ⟨xa,xb,xc,xd⟩:=⟨_,rfl⟩
 rw[←hp] at PK HRR
 clear hp
 have RF:=Lib.hid (fun no x w'=>refused86 no x w')
 by_cases k1:v5 = 1
 ·subst k1
  rw[if_pos rfl] at HRR
  obtain ⟨C,hC⟩:∃ C,C = cntN s.F 1 v7 n:=⟨_,rfl⟩
  rw[←hC] at HRR
  have HCC:=Lib.hid hC
  clear hC
  cases p with
  | true =>
   obtain rfl:r = 23:=by rw[HRR.out,if_pos rfl]
   clear HRR HR HCC
   go_wp2_with fail
   refine (PK.out _).mono ?_
   rintro e w4 ⟨rfl,bb⟩
   replace y0:=cell_kept bb y0
   replace y1:=cell_kept bb y1
   replace y2:=cell_kept bb y2
   replace y3:=cell_kept bb y3
   replace y4:=cell_kept bb y4
   replace y5:=cell_kept bb y5
   replace y6:=cell_kept bb y6
   replace y7:=cell_kept bb y7
   replace y8:=cell_kept bb y8
   replace c4:=cell_kept bb c4
   replace c6:=cell_kept bb c6
   replace c7:=cell_kept bb c7
   replace t0:=cell_kept bb t0
   replace t1:=cell_kept bb t1
   replace t2:=cell_kept bb t2
   replace t3:=cell_kept bb t3
   replace B3:=Lib.hid (B3.out.trans (Below.mono bb B3.out.size))
   replace M3:=Lib.hid (M3.out.below bb)
   replace FI3:=Lib.hid (FI3.out.below bb)
   clear zy zc zt bb
   have zy:=szs (cell_lt y0)
   have zc:=szs (cell_lt c4)
   have zt:=szs (cell_lt t0)
   dsimp only at zy zc zt
   go_wp2_with fail
   refine (PK.out _).mono ?_
   rintro e w5 ⟨rfl,bb⟩
   replace y0:=cell_kept bb y0
   replace y1:=cell_kept bb y1
   replace y2:=cell_kept bb y2
   replace y3:=cell_kept bb y3
   replace y4:=cell_kept bb y4
   replace y5:=cell_kept bb y5
   replace y6:=cell_kept bb y6
   replace y7:=cell_kept bb y7
   replace y8:=cell_kept bb y8
   replace c4:=cell_kept bb c4
   replace c6:=cell_kept bb c6
   replace c7:=cell_kept bb c7
   replace t0:=cell_kept bb t0
   replace t1:=cell_kept bb t1
   replace t2:=cell_kept bb t2
   replace t3:=cell_kept bb t3
   replace B3:=Lib.hid (B3.out.trans (Below.mono bb B3.out.size))
   replace M3:=Lib.hid (M3.out.below bb)
   replace FI3:=Lib.hid (FI3.out.below bb)
   clear zy zc zt bb
   have zy:=szs (cell_lt y0)
   have zc:=szs (cell_lt c4)
   have zt:=szs (cell_lt t0)
   dsimp only at zy zc zt
   go_wp2_with fail
   refine (RF.out _ _ _).mono ?_
   rintro e w6 ⟨rfl,rfl⟩
   go_wp2_with fail
   go_returns
   exact ⟨rfl,B3.out⟩
  | false =>
   by_cases hc:0 < C
   ·obtain rfl:r = 22:=by rw[HRR.out,if_neg (by simp),if_pos hc]
    have tc:(0:Int) < (C:Int):=by omega
    clear HRR HR
    go_wp2_with fail
    refine (PK.out _).mono ?_
    rintro e w4 ⟨rfl,bb⟩
    replace y0:=cell_kept bb y0
    replace y1:=cell_kept bb y1
    replace y2:=cell_kept bb y2
    replace y3:=cell_kept bb y3
    replace y4:=cell_kept bb y4
    replace y5:=cell_kept bb y5
    replace y6:=cell_kept bb y6
    replace y7:=cell_kept bb y7
    replace y8:=cell_kept bb y8
    replace c4:=cell_kept bb c4
    replace c6:=cell_kept bb c6
    replace c7:=cell_kept bb c7
    replace t0:=cell_kept bb t0
    replace t1:=cell_kept bb t1
    replace t2:=cell_kept bb t2
    replace t3:=cell_kept bb t3
    replace B3:=Lib.hid (B3.out.trans (Below.mono bb B3.out.size))
    replace M3:=Lib.hid (M3.out.below bb)
    replace FI3:=Lib.hid (FI3.out.below bb)
    clear zy zc zt bb
    have zy:=szs (cell_lt y0)
    have zc:=szs (cell_lt c4)
    have zt:=szs (cell_lt t0)
    dsimp only at zy zc zt
    go_wp2_with fail
    have CC:=count88 M3.out 1 v7 (by rw[←HN.out];omega)
    rw[←HN.out] at CC
    dsimp only at CC
    rw[←HCC.out] at CC
    refine CC.mono ?_
    rintro e w5 ⟨rfl,bb⟩
    replace y0:=cell_kept bb y0
    replace y1:=cell_kept bb y1
    replace y2:=cell_kept bb y2
    replace y3:=cell_kept bb y3
    replace y4:=cell_kept bb y4
    replace y5:=cell_kept bb y5
    replace y6:=cell_kept bb y6
    replace y7:=cell_kept bb y7
    replace y8:=cell_kept bb y8
    replace c4:=cell_kept bb c4
    replace c6:=cell_kept bb c6
    replace c7:=cell_kept bb c7
    replace t0:=cell_kept bb t0
    replace t1:=cell_kept bb t1
    replace t2:=cell_kept bb t2
    replace t3:=cell_kept bb t3
    replace B3:=Lib.hid (B3.out.trans (Below.mono bb B3.out.size))
    replace M3:=Lib.hid (M3.out.below bb)
    replace FI3:=Lib.hid (FI3.out.below bb)
    clear zy zc zt bb
    have zy:=szs (cell_lt y0)
    have zc:=szs (cell_lt c4)
    have zt:=szs (cell_lt t0)
    dsimp only at zy zc zt
    clear CC
    go_wp2_with fail
    go_returns
    exact ⟨rfl,B3.out⟩
   ·obtain rfl:r = 0:=by rw[HRR.out,if_neg (by simp),if_neg hc]
    obtain rfl:C = 0:=by omega
    clear HRR HR
    go_wp2_with fail
    refine (PK.out _).mono ?_
    rintro e w4 ⟨rfl,bb⟩
    replace y0:=cell_kept bb y0
    replace y1:=cell_kept bb y1
    replace y2:=cell_kept bb y2
    replace y3:=cell_kept bb y3
    replace y4:=cell_kept bb y4
    replace y5:=cell_kept bb y5
    replace y6:=cell_kept bb y6
    replace y7:=cell_kept bb y7
    replace y8:=cell_kept bb y8
    replace c4:=cell_kept bb c4
    replace c6:=cell_kept bb c6
    replace c7:=cell_kept bb c7
    replace t0:=cell_kept bb t0
    replace t1:=cell_kept bb t1
    replace t2:=cell_kept bb t2
    replace t3:=cell_kept bb t3
    replace B3:=Lib.hid (B3.out.trans (Below.mono bb B3.out.size))
    replace M3:=Lib.hid (M3.out.below bb)
    replace FI3:=Lib.hid (FI3.out.below bb)
    clear zy zc zt bb
    have zy:=szs (cell_lt y0)
    have zc:=szs (cell_lt c4)
    have zt:=szs (cell_lt t0)
    dsimp only at zy zc zt
    go_wp2_with fail
    have CC:=count88 M3.out 1 v7 (by rw[←HN.out];omega)
    rw[←HN.out] at CC
    dsimp only at CC
    rw[←HCC.out] at CC
    refine CC.mono ?_
    rintro e w5 ⟨rfl,bb⟩
    replace y0:=cell_kept bb y0
    replace y1:=cell_kept bb y1
    replace y2:=cell_kept bb y2
    replace y3:=cell_kept bb y3
    replace y4:=cell_kept bb y4
    replace y5:=cell_kept bb y5
    replace y6:=cell_kept bb y6
    replace y7:=cell_kept bb y7
    replace y8:=cell_kept bb y8
    replace c4:=cell_kept bb c4
    replace c6:=cell_kept bb c6
    replace c7:=cell_kept bb c7
    replace t0:=cell_kept bb t0
    replace t1:=cell_kept bb t1
    replace t2:=cell_kept bb t2
    replace t3:=cell_kept bb t3
    replace B3:=Lib.hid (B3.out.trans (Below.mono bb B3.out.size))
    replace M3:=Lib.hid (M3.out.below bb)
    replace FI3:=Lib.hid (FI3.out.below bb)
    clear zy zc zt bb
    have zy:=szs (cell_lt y0)
    have zc:=szs (cell_lt c4)
    have zt:=szs (cell_lt t0)
    dsimp only at zy zc zt
    clear CC
    go_wp2_with fail
    refine (PK.out _).mono ?_
    rintro e w6 ⟨rfl,bb⟩
    replace y0:=cell_kept bb y0
    replace y1:=cell_kept bb y1
    replace y2:=cell_kept bb y2
    replace y3:=cell_kept bb y3
    replace y4:=cell_kept bb y4
    replace y5:=cell_kept bb y5
    replace y6:=cell_kept bb y6
    replace y7:=cell_kept bb y7
    replace y8:=cell_kept bb y8
    replace c4:=cell_kept bb c4
    replace c6:=cell_kept bb c6
    replace c7:=cell_kept bb c7
    replace t0:=cell_kept bb t0
    replace t1:=cell_kept bb t1
    replace t2:=cell_kept bb t2
    replace t3:=cell_kept bb t3
    replace B3:=Lib.hid (B3.out.trans (Below.mono bb B3.out.size))
    replace M3:=Lib.hid (M3.out.below bb)
    replace FI3:=Lib.hid (FI3.out.below bb)
    clear zy zc zt bb
    have zy:=szs (cell_lt y0)
    have zc:=szs (cell_lt c4)
    have zt:=szs (cell_lt t0)
    dsimp only at zy zc zt
    go_wp2_with fail
    refine (RF.out _ _ _).mono ?_
    rintro e w7 ⟨rfl,rfl⟩
    go_wp2_with fail
    go_returns
    exact ⟨rfl,B3.out⟩
 rw[if_neg k1] at HRR
 by_cases k2:v5 = 2
 ·subst k2
  rw[if_pos rfl] at HRR
  cases p with
  | true =>
   obtain rfl:r = 23:=by rw[HRR.out,if_pos rfl]
   clear HRR HR
   go_wp2_with fail
   refine (PK.out _).mono ?_
   rintro e w4 ⟨rfl,bb⟩
   replace y0:=cell_kept bb y0
   replace y1:=cell_kept bb y1
   replace y2:=cell_kept bb y2
   replace y3:=cell_kept bb y3
   replace y4:=cell_kept bb y4
   replace y5:=cell_kept bb y5
   replace y6:=cell_kept bb y6
   replace y7:=cell_kept bb y7
   replace y8:=cell_kept bb y8
   replace c4:=cell_kept bb c4
   replace c6:=cell_kept bb c6
   replace c7:=cell_kept bb c7
   replace t0:=cell_kept bb t0
   replace t1:=cell_kept bb t1
   replace t2:=cell_kept bb t2
   replace t3:=cell_kept bb t3
   replace B3:=Lib.hid (B3.out.trans (Below.mono bb B3.out.size))
   replace M3:=Lib.hid (M3.out.below bb)
   replace FI3:=Lib.hid (FI3.out.below bb)
   clear zy zc zt bb
   have zy:=szs (cell_lt y0)
   have zc:=szs (cell_lt c4)
   have zt:=szs (cell_lt t0)
   dsimp only at zy zc zt
   go_wp2_with fail
   refine (RF.out _ _ _).mono ?_
   rintro e w5 ⟨rfl,rfl⟩
   go_wp2_with fail
   go_returns
   exact ⟨rfl,B3.out⟩
  | false =>
   obtain rfl:r = 0:=by rw[HRR.out,if_neg (by simp)]
   clear HRR HR
   go_wp2_with fail
   refine (PK.out _).mono ?_
   rintro e w4 ⟨rfl,bb⟩
   replace y0:=cell_kept bb y0
   replace y1:=cell_kept bb y1
   replace y2:=cell_kept bb y2
   replace y3:=cell_kept bb y3
   replace y4:=cell_kept bb y4
   replace y5:=cell_kept bb y5
   replace y6:=cell_kept bb y6
   replace y7:=cell_kept bb y7
   replace y8:=cell_kept bb y8
   replace c4:=cell_kept bb c4
   replace c6:=cell_kept bb c6
   replace c7:=cell_kept bb c7
   replace t0:=cell_kept bb t0
   replace t1:=cell_kept bb t1
   replace t2:=cell_kept bb t2
   replace t3:=cell_kept bb t3
   replace B3:=Lib.hid (B3.out.trans (Below.mono bb B3.out.size))
   replace M3:=Lib.hid (M3.out.below bb)
   replace FI3:=Lib.hid (FI3.out.below bb)
   clear zy zc zt bb
   have zy:=szs (cell_lt y0)
   have zc:=szs (cell_lt c4)
   have zt:=szs (cell_lt t0)
   dsimp only at zy zc zt
   go_wp2_with fail
   refine (RF.out _ _ _).mono ?_
   rintro e w5 ⟨rfl,rfl⟩
   go_wp2_with fail
   go_returns
   exact ⟨rfl,B3.out⟩
 rw[if_neg k2] at HRR
 by_cases k3:v5 = 3
 ·subst k3
  rw[if_pos rfl] at HRR
  cases p with
  | false =>
   obtain rfl:r = 23:=by rw[HRR.out,if_pos rfl]
   clear HRR HR
   go_wp2_with fail
   refine (PK.out _).mono ?_
   rintro e w4 ⟨rfl,bb⟩
   replace y0:=cell_kept bb y0
   replace y1:=cell_kept bb y1
   replace y2:=cell_kept bb y2
   replace y3:=cell_kept bb y3
   replace y4:=cell_kept bb y4
   replace y5:=cell_kept bb y5
   replace y6:=cell_kept bb y6
   replace y7:=cell_kept bb y7
   replace y8:=cell_kept bb y8
   replace c4:=cell_kept bb c4
   replace c6:=cell_kept bb c6
   replace c7:=cell_kept bb c7
   replace t0:=cell_kept bb t0
   replace t1:=cell_kept bb t1
   replace t2:=cell_kept bb t2
   replace t3:=cell_kept bb t3
   replace B3:=Lib.hid (B3.out.trans (Below.mono bb B3.out.size))
   replace M3:=Lib.hid (M3.out.below bb)
   replace FI3:=Lib.hid (FI3.out.below bb)
   clear zy zc zt bb
   have zy:=szs (cell_lt y0)
   have zc:=szs (cell_lt c4)
   have zt:=szs (cell_lt t0)
   dsimp only at zy zc zt
   go_wp2_with fail
   go_returns
   exact ⟨rfl,B3.out⟩
  | true =>
   rw[if_neg (by simp)] at HRR
   obtain ⟨u,hu⟩:∃ u,u = decide (0≤findI s.G v9 s.k):=⟨_,rfl⟩
   have UF:Hid (∀ w',Below w3.heap.size w3 w'→∀ i,Sem.run Tryz.prog (Instr.lookup 122 (.map (some um)) (.int .i64 v9) false) (w'.drewN i) = .ok (.bool u) (w'.drewN i)):=Lib.hid (fun w' hb i=>by
    rw[hu]
    exact ((M3.out.below hb).used.below (below_drewN (Below.refl _ _) i)).find v9 hwr)
   have HU:=Lib.hid hu
   clear hu
   go_wp2_with fail
   refine (PK.out _).mono ?_
   rintro e w4 ⟨rfl,bb⟩
   have LU:=UF.out w4 bb
   clear UF
   replace y0:=cell_kept bb y0
   replace y1:=cell_kept bb y1
   replace y2:=cell_kept bb y2
   replace y3:=cell_kept bb y3
   replace y4:=cell_kept bb y4
   replace y5:=cell_kept bb y5
   replace y6:=cell_kept bb y6
   replace y7:=cell_kept bb y7
   replace y8:=cell_kept bb y8
   replace c4:=cell_kept bb c4
   replace c6:=cell_kept bb c6
   replace c7:=cell_kept bb c7
   replace t0:=cell_kept bb t0
   replace t1:=cell_kept bb t1
   replace t2:=cell_kept bb t2
   replace t3:=cell_kept bb t3
   replace B3:=Lib.hid (B3.out.trans (Below.mono bb B3.out.size))
   replace M3:=Lib.hid (M3.out.below bb)
   replace FI3:=Lib.hid (FI3.out.below bb)
   clear zy zc zt bb
   have zy:=szs (cell_lt y0)
   have zc:=szs (cell_lt c4)
   have zt:=szs (cell_lt t0)
   dsimp only at zy zc zt
   go_wp2_with fail
   (refine region_all (fun i:Nat=>World.drewN _ i) mixed (by kernel_rfl) ⟨1,rfl⟩ ?_;(repeat (any_goals (first | go_big_quiet_step (fail) | quiet_step (fail) | (refine wpQuiet_step (fun K hK=>?_);go_simp;split <;> (refine hK _ ?_;clear hK K)))));(all_goals (refine wpQuiet_nil (fun nq=>?_))))
   have b3:Below w4.heap.size w4 (w4.drewN nq):=below_drewN (Below.refl _ _) nq
   clear LU
   generalize w4.drewN nq = w5 at *
   replace y0:=cell_kept b3 y0
   replace y1:=cell_kept b3 y1
   replace y2:=cell_kept b3 y2
   replace y3:=cell_kept b3 y3
   replace y4:=cell_kept b3 y4
   replace y5:=cell_kept b3 y5
   replace y6:=cell_kept b3 y6
   replace y7:=cell_kept b3 y7
   replace y8:=cell_kept b3 y8
   replace c4:=cell_kept b3 c4
   replace c6:=cell_kept b3 c6
   replace c7:=cell_kept b3 c7
   replace t0:=cell_kept b3 t0
   replace t1:=cell_kept b3 t1
   replace t2:=cell_kept b3 t2
   replace t3:=cell_kept b3 t3
   replace B3:=Lib.hid (B3.out.trans (Below.mono b3 B3.out.size))
   replace M3:=Lib.hid (M3.out.below b3)
   replace FI3:=Lib.hid (FI3.out.below b3)
   clear zy zc zt b3
   have zy:=szs (cell_lt y0)
   have zc:=szs (cell_lt c4)
   have zt:=szs (cell_lt t0)
   dsimp only at zy zc zt
   cases u with
   | true =>
    obtain rfl:r = 6:=by rw[HRR.out,if_pos (of_decide_eq_true HU.out.symm)]
    clear HRR HR HU
    go_wp2_with fail
    go_returns
    exact ⟨rfl,B3.out⟩
   | false =>
    rw[if_neg (of_decide_eq_false HU.out.symm)] at HRR
    have RD:=riding89 M3.out HI.out v8
    obtain ⟨y,hy⟩:∃ y,y = ridesB s.G v8 s.k:=⟨_,rfl⟩
    rw[←hy] at RD HRR
    replace RD:=Lib.hid RD
    clear hy HU
    go_wp2_with fail
    refine RD.out.mono ?_
    rintro e w6 ⟨rfl,bb⟩
    clear RD
    replace y0:=cell_kept bb y0
    replace y1:=cell_kept bb y1
    replace y2:=cell_kept bb y2
    replace y3:=cell_kept bb y3
    replace y4:=cell_kept bb y4
    replace y5:=cell_kept bb y5
    replace y6:=cell_kept bb y6
    replace y7:=cell_kept bb y7
    replace y8:=cell_kept bb y8
    replace c4:=cell_kept bb c4
    replace c6:=cell_kept bb c6
    replace c7:=cell_kept bb c7
    replace t0:=cell_kept bb t0
    replace t1:=cell_kept bb t1
    replace t2:=cell_kept bb t2
    replace t3:=cell_kept bb t3
    replace B3:=Lib.hid (B3.out.trans (Below.mono bb B3.out.size))
    replace M3:=Lib.hid (M3.out.below bb)
    replace FI3:=Lib.hid (FI3.out.below bb)
    clear zy zc zt bb
    have zy:=szs (cell_lt y0)
    have zc:=szs (cell_lt c4)
    have zt:=szs (cell_lt t0)
    dsimp only at zy zc zt
    cases y with
    | true =>
     obtain rfl:r = 22:=by rw[HRR.out,if_pos rfl]
     clear HRR HR
     go_wp2_with fail
     refine (RF.out _ _ _).mono ?_
     rintro e w7 ⟨rfl,rfl⟩
     go_wp2_with fail
     go_returns
     exact ⟨rfl,B3.out⟩
    | false =>
     obtain rfl:r = 0:=by rw[HRR.out,if_neg (by simp)]
     clear HRR HR
     go_wp2_with fail
     refine (RF.out _ _ _).mono ?_
     rintro e w7 ⟨rfl,rfl⟩
     go_wp2_with fail
     go_returns
     exact ⟨rfl,B3.out⟩
 rw[if_neg k3] at HRR
 omega
end Go.Proofs.YtdpoppilnokniaaGreatDoor
namespace Go.Proofs.YtdpoppilnokniaaGreatDoor
open Go.RowKit Go.ChangeShapes Go.WideShapes Go.Deep Go.Maps
set_option linter.unusedVariables false
set_option linter.unusedSimpArgs false
set_option maxRecDepth 8000 in
set_option maxHeartbeats 16000000 in
theorem check65_B {base lo:Nat}{f:Fl}{L:Lay}{s:CSt}{w:World}(h:CM base lo f L s w) (hI:Inv f.bikes.toNat s) (e:Ev) (hin:inN e) (hc:checkE f e = 0) (hk:e.kind ≠ 10) (hF:f.In w) (hlo:4≤e.kind) (hhi:e.kind≤6) :
  Calls Tryz.prog 59 #[.pointer (some ⟨L.sb,0,none⟩),.agg (eC e)] w fun x w'=>x = .returned (.int .i64 (faultK f s e))∧Below w.heap.size w w':=by
 obtain ⟨k1,k2⟩:=kind_in hc
 obtain ⟨b1,b2⟩:=bike_in hc
 have hfb:f.bikes≤128:=(fleetE_zero (check_fleet hc)).1.2
 obtain ⟨b,hb⟩:=Int.eq_ofNat_of_zero_le b1
 have hbn:b < f.bikes.toNat:=by omega
 have hwr:(Lit.int .i64 e.ride).wf = true:=WalkArith.wf_i64 (hin _ (by simp [nums]))
 have HFK:Hid (faultK f s e = faultK f s e):=Lib.hid rfl
 have HCM:=Lib.hid h
 obtain ⟨a0,a1,a2,a3⟩:=h.rows.at hbn
 have c4:=cell_at h.m0 4
 have c5:=cell_at h.m0 5
 have c6:=cell_at h.m0 6
 have c7:=cell_at h.m0 7
 simp only[List.getElem?_toArray,List.getElem?_cons_succ,List.getElem?_cons_zero] at c4 c5 c6 c7
 have zs:=szs (block_lt h.m0)
 have zp:=szs (cell_lt a0)
 dsimp only at zp
 have HFI:=Lib.hid hF
 clear hF
 have B0:Hid (Below w.heap.size w (w.alloc (.cells (eC e) 81))):=Lib.hid (by (repeat' (first | with_reducible (first | exact Below.refl _ _ | assumption | refine Below.drew ?_ | refine below_drewN ?_ _ | refine Below.alloc ?_ ?_ _ | refine Below.setCell ?_ ?_ _) | go_size)))
 have X0:Hid ((w.alloc (.cells (eC e) 81)).heap[w.heap.size]? = some (.cells (eC e) 81 (0,0))):=Lib.hid (heap_alloc_new w _)
 obtain ⟨w1,hw1⟩:∃ w1,w1 = w.alloc (.cells (eC e) 81):=⟨_,rfl⟩
 rw[←hw1] at B0 X0
 have HW1:=Lib.hid hw1
 obtain ⟨r,hr⟩:∃ r,r = faultK f s e:=⟨_,rfl⟩
 rw[←hr]
 have HR:=Lib.hid hr
 unfold faultK at hr
 rw[hb,Int.toNat_natCast] at hr
 generalize hx:s.F b = x at *
 obtain ⟨xa,xb,xc,xd⟩:=x
 dsimp only at a0 a1 a2 a3 hr
 have HRR:=Lib.hid hr
 have HI:=Lib.hid hI
 have HPL:Hid (e.kind = 7→0≤e.place∧e.place < f.nt):=Lib.hid (fun h=>check_place hc h)
 clear hr hw1 hc hI h HFK
 obtain ⟨v1,v2,v3,v4,v5,v6,v7,v8,v9⟩:=e
 dsimp only at hb hk k1 k2 hlo hhi b1 b2 hwr HRR HPL
 subst hb
 unfold eC at *
 dsimp only at X0 HW1 ⊢
 obtain ⟨sb,sp,om,um,P⟩:=L
 dsimp only at *
 obtain ⟨n,hn⟩:∃ n,n = f.bikes.toNat:=⟨_,rfl⟩
 have HN:=Lib.hid hn
 rw[←hn] at hbn c5 HRR
 have hn128:n≤128:=by omega
 clear hn hfb b2
 go_enter Tryz.func59,Tryz.ntmps59
 go_wp2_with fail
 rw[←HW1.out]
 have ey:=X0.out
 have y0:=cell_at ey 0
 have y1:=cell_at ey 1
 have y2:=cell_at ey 2
 have y3:=cell_at ey 3
 have y4:=cell_at ey 4
 have y5:=cell_at ey 5
 have y6:=cell_at ey 6
 have y7:=cell_at ey 7
 have y8:=cell_at ey 8
 replace a0:=cell_kept B0.out a0
 replace a1:=cell_kept B0.out a1
 replace a2:=cell_kept B0.out a2
 replace a3:=cell_kept B0.out a3
 replace c4:=cell_kept B0.out c4
 replace c5:=cell_kept B0.out c5
 replace c6:=cell_kept B0.out c6
 replace c7:=cell_kept B0.out c7
 have M1:=Lib.hid (HCM.out.below B0.out)
 have FI1:=Lib.hid (HFI.out.below B0.out)
 clear HCM HFI HW1 ey zs zp
 (obtain ⟨ι,hne,Fw,fb,hF⟩:=grow_family w1);have hF:∀ w',(gPlan w1 (fun _=>undef) [] [] []).D () w'→∃ i,w' = Fw i:=hF
 have fc5:=fun i=>cell_kept (fb i) c5
 have fy5:=fun i=>cell_kept (fb i) y5
 have fa0:=fun i=>cell_kept (fb i) a0
 have fa1:=fun i=>cell_kept (fb i) a1
 have fa2:=fun i=>cell_kept (fb i) a2
 have fa3:=fun i=>cell_kept (fb i) a3
 (refine region_chain (gPlan w1 (fun _=>undef) [] [(8,fun b=>.pointer (some ⟨b,0,none⟩),.cells #[.int .i64 0,.int .i64 0,.int .i64 0,.bool false] 112)] [(9,8)]) () [] [0,1,2,3,4,5,6,7,8,9] [] mixed (by kernel_rfl) (by kernel_rfl) (gPlan_ok (by simp) (by simp)) (gPlan_start _ _ _ _ _) ?_;refine wpPure_nil ?_;simp only[List.map_cons,List.map_nil,Array.getD_eq_getD_getElem?,List.getElem?_toArray,List.getElem?_cons_zero,List.getElem?_cons_succ,Option.getD_some])
 (repeat (first | (refine wpChain_skip rfl ?_;simp only[Act.put,List.setIfInBounds_toArray,List.set_cons_succ,List.set_cons_zero]) | (refine wpChain_quiet hF rfl rfl rfl ?_;intro K hK;go_big_quiet_op;go_big_quiet_on) | (refine wpChain_pure _ rfl rfl (fun w' _=>by go_simp;try rfl) ?_;simp only[Act.put,List.setIfInBounds_toArray,List.set_cons_succ,List.set_cons_zero])))
 (refine wpChain_alloc _ _ rfl (List.mem_cons_self ..) rfl (fun w'=>by go_simp) (fun q1 hq1=>?_);simp only[Act.put,List.setIfInBounds_toArray,List.set_cons_succ,List.set_cons_zero])
 (refine wpChain_store 8 q1 (.cells #[.int .i64 0,.int .i64 0,.int .i64 0,.bool false] 112) (.cells #[.int .i64 xa,.int .i64 xb,.int .i64 xc,.bool xd] 112) rfl (by simp [gPlan]) (by simp [setB]) (by simp [setB]) rfl (fun w' hw'=>by have c0:=cell_at hw' 0;have c1:=cell_at hw' 1;have c2:=cell_at hw' 2;have c3:=cell_at hw' 3;have g0:=free_at hw';have hlt:=block_lt hw';go_simp;rw[setCell_at hw',setAt_setCell hlt,setAt_setCell hlt,setAt_setCell hlt];rfl) ?_;simp only[Act.put,List.setIfInBounds_toArray,List.set_cons_succ,List.set_cons_zero])
 refine wpChain_nil (fun w2 hb2 hl2=>?_)
 have hx2:w2.heap[q1]? = some (.cells #[.int .i64 xa,.int .i64 xb,.int .i64 xc,.bool xd] 112 (0,0)):=(hl2.2 (8,q1,.cells #[.int .i64 xa,.int .i64 xb,.int .i64 xc,.bool xd] 112) (by simp [setB])).2
 have hb2':Below w1.heap.size w1 w2:=hb2
 have B2:=Lib.hid (B0.out.trans (hb2'.mono B0.out.size))
 have M2:=Lib.hid (M1.out.below hb2')
 have FI2:=Lib.hid (FI1.out.below hb2')
 replace y0:=cell_kept hb2' y0
 replace y1:=cell_kept hb2' y1
 replace y2:=cell_kept hb2' y2
 replace y3:=cell_kept hb2' y3
 replace y4:=cell_kept hb2' y4
 replace y5:=cell_kept hb2' y5
 replace y6:=cell_kept hb2' y6
 replace y7:=cell_kept hb2' y7
 replace y8:=cell_kept hb2' y8
 replace c4:=cell_kept hb2' c4
 replace c6:=cell_kept hb2' c6
 replace c7:=cell_kept hb2' c7
 have t0:=cell_at hx2 0
 have t1:=cell_at hx2 1
 have t2:=cell_at hx2 2
 have t3:=cell_at hx2 3
 have zy:=szs (cell_lt y0)
 have zc:=szs (cell_lt c4)
 have zt:=szs (block_lt hx2)
 dsimp only at zy zc
 clear hb2 hb2' hl2 hx2 hF fb hne fc5 fy5 fa0 fa1 fa2 fa3 a0 a1 a2 a3 c5 hq1 M1 FI1 B0 X0
 have LK:∀ i,Sem.run Tryz.prog (Instr.lookup 146 (.map (some om)) (.int .i64 v9) false) (w2.drewN i) = .ok (ridP (ridV s P v9)) (w2.drewN i):=fun i=>(M2.out.opn.off (X:=fun _=>False) (Off.of_below (below_drewN (Below.refl _ _) i)) (fun h=>h)).look v9 hwr
 refine onlyN_intro ?_
 go_wp2_with fail
 (refine region_all (fun i:Nat=>World.drewN _ i) mixed (by kernel_rfl) ⟨1,rfl⟩ ?_;(repeat (any_goals (first | go_big_quiet_step (fail) | quiet_step (fail) | (refine wpQuiet_step (fun K hK=>?_);go_simp;split <;> (refine hK _ ?_;clear hK K)))));(all_goals (refine wpQuiet_nil (fun nq=>?_))))
 have b3:Below w2.heap.size w2 (w2.drewN nq):=below_drewN (Below.refl _ _) nq
 have B3:=B2
 have M3:=M2
 have FI3:=FI2
 clear B2 M2 FI2 LK
 generalize w2.drewN nq = w3 at *
 replace y0:=cell_kept b3 y0
 replace y1:=cell_kept b3 y1
 replace y2:=cell_kept b3 y2
 replace y3:=cell_kept b3 y3
 replace y4:=cell_kept b3 y4
 replace y5:=cell_kept b3 y5
 replace y6:=cell_kept b3 y6
 replace y7:=cell_kept b3 y7
 replace y8:=cell_kept b3 y8
 replace c4:=cell_kept b3 c4
 replace c6:=cell_kept b3 c6
 replace c7:=cell_kept b3 c7
 replace t0:=cell_kept b3 t0
 replace t1:=cell_kept b3 t1
 replace t2:=cell_kept b3 t2
 replace t3:=cell_kept b3 t3
 replace B3:=Lib.hid (B3.out.trans (Below.mono b3 B3.out.size))
 replace M3:=Lib.hid (M3.out.below b3)
 replace FI3:=Lib.hid (FI3.out.below b3)
 clear zy zc zt b3
 have zy:=szs (cell_lt y0)
 have zc:=szs (cell_lt c4)
 have zt:=szs (cell_lt t0)
 dsimp only at zy zc zt
 have PK:=Lib.hid (fun w'=>parked87 ⟨xa,xb,xc,xd⟩ w')
 dsimp only at PK
 obtain ⟨p,hp⟩:∃ p,p = parkB ⟨xa,xb,xc,xd⟩:=⟨_,rfl⟩
 rw[←hp] at PK HRR
 clear hp
 have RF:=Lib.hid (fun no x w'=>refused86 no x w')
 have k1:¬ v5 = 1:=by omega
 have k2:¬ v5 = 2:=by omega
 have k3:¬ v5 = 3:=by omega
 rw[if_neg k1,if_neg k2,if_neg k3] at HRR
 by_cases k4:v5 = 4
 ·subst k4
  rw[if_pos rfl] at HRR
  rcases ridV_cases s P v9 with ⟨hv,hf⟩ | ⟨i,i1,i2,i3,hv⟩
  ·obtain rfl:r = 7:=by rw[HRR.out,if_pos hf]
   rw[hv,ridP_none]
   have te:Sem.run Tryz.prog (binOp BinOp.eql 157 (Value.pointer none) (Value.pointer none)) w3 = .ok (.bool true) w3:=by kernel_rfl
   clear HRR HR hv hf
   go_wp2_with fail
   go_returns
   exact ⟨rfl,B3.out⟩
  ·rw[i2,Int.toNat_natCast,if_neg (by rw[i3];simp)] at HRR
   rw[hv,ridP_some]
   have te:Sem.run Tryz.prog (binOp BinOp.eql 157 (Value.pointer (some ⟨P i,0,none⟩)) (Value.pointer none)) w3 = .ok (.bool false) w3:=by kernel_rfl
   have ht:=M3.out.trip i i1 i3
   have HTR:=Lib.hid ht
   clear hv i2 ht
   cases p with
   | false =>
    obtain rfl:r = 23:=by rw[HRR.out,if_pos rfl]
    clear HRR HR
    go_wp2_with fail
    refine (PK.out _).mono ?_
    rintro e w4 ⟨rfl,bb⟩
    replace y0:=cell_kept bb y0
    replace y1:=cell_kept bb y1
    replace y2:=cell_kept bb y2
    replace y3:=cell_kept bb y3
    replace y4:=cell_kept bb y4
    replace y5:=cell_kept bb y5
    replace y6:=cell_kept bb y6
    replace y7:=cell_kept bb y7
    replace y8:=cell_kept bb y8
    replace c4:=cell_kept bb c4
    replace c6:=cell_kept bb c6
    replace c7:=cell_kept bb c7
    replace t0:=cell_kept bb t0
    replace t1:=cell_kept bb t1
    replace t2:=cell_kept bb t2
    replace t3:=cell_kept bb t3
    replace B3:=Lib.hid (B3.out.trans (Below.mono bb B3.out.size))
    replace M3:=Lib.hid (M3.out.below bb)
    replace FI3:=Lib.hid (FI3.out.below bb)
    clear zy zc zt bb
    have zy:=szs (cell_lt y0)
    have zc:=szs (cell_lt c4)
    have zt:=szs (cell_lt t0)
    dsimp only at zy zc zt
    go_wp2_with fail
    go_returns
    exact ⟨rfl,B3.out⟩
   | true =>
    rw[if_neg (by simp)] at HRR
    go_wp2_with fail
    refine (PK.out _).mono ?_
    rintro e w4 ⟨rfl,bb⟩
    have ht:=(bb.block _ (block_lt HTR.out)).trans HTR.out
    have u2:=cell_at ht 2
    have zu:=szs (block_lt ht)
    clear HTR ht
    replace y0:=cell_kept bb y0
    replace y1:=cell_kept bb y1
    replace y2:=cell_kept bb y2
    replace y3:=cell_kept bb y3
    replace y4:=cell_kept bb y4
    replace y5:=cell_kept bb y5
    replace y6:=cell_kept bb y6
    replace y7:=cell_kept bb y7
    replace y8:=cell_kept bb y8
    replace c4:=cell_kept bb c4
    replace c6:=cell_kept bb c6
    replace c7:=cell_kept bb c7
    replace t0:=cell_kept bb t0
    replace t1:=cell_kept bb t1
    replace t2:=cell_kept bb t2
    replace t3:=cell_kept bb t3
    replace B3:=Lib.hid (B3.out.trans (Below.mono bb B3.out.size))
    replace M3:=Lib.hid (M3.out.below bb)
    replace FI3:=Lib.hid (FI3.out.below bb)
    clear zy zc zt bb
    have zy:=szs (cell_lt y0)
    have zc:=szs (cell_lt c4)
    have zt:=szs (cell_lt t0)
    dsimp only at zy zc zt
    generalize (s.F (s.G i).bike.toNat).ps = ps at *
    cases ps with
    | true =>
     obtain rfl:r = 12:=by rw[HRR.out,if_pos rfl]
     clear HRR HR
     go_wp2_with fail
     refine (RF.out _ _ _).mono ?_
     rintro e w7 ⟨rfl,rfl⟩
     go_wp2_with fail
     go_returns
     exact ⟨rfl,B3.out⟩
    | false =>
     obtain rfl:r = 0:=by rw[HRR.out,if_neg (by simp)]
     clear HRR HR
     go_wp2_with fail
     refine (RF.out _ _ _).mono ?_
     rintro e w7 ⟨rfl,rfl⟩
     go_wp2_with fail
     go_returns
     exact ⟨rfl,B3.out⟩
 rw[if_neg k4] at HRR
 by_cases k5:v5 = 5
 ·subst k5
  rw[if_pos rfl] at HRR
  by_cases hw:xa = 3
  ·subst hw
   rw[if_neg (by simp)] at HRR
   cases xd with
   | true =>
    obtain ⟨q,hq⟩:∃ q:Bool,q = (true == true):=⟨_,rfl⟩
    clear HR
    go_wp2_with fail
    refine (RF.out _ _ _).mono ?_
    rintro e w7 ⟨rfl,rfl⟩
    go_wp2_with fail
    go_returns
    exact ⟨by rw[HRR.out];rfl,B3.out⟩
   | false =>
    clear HR
    go_wp2_with fail
    refine (RF.out _ _ _).mono ?_
    rintro e w7 ⟨rfl,rfl⟩
    go_wp2_with fail
    go_returns
    exact ⟨by rw[HRR.out];rfl,B3.out⟩
  ·obtain rfl:r = 23:=by rw[HRR.out,if_pos hw]
   have tw:(xa != 3) = true:=by simpa using hw
   clear HRR HR
   go_wp2_with fail
   go_returns
   exact ⟨rfl,B3.out⟩
 rw[if_neg k5] at HRR
 by_cases k6:v5 = 6
 ·subst k6
  rw[if_pos rfl] at HRR
  by_cases hw:xa = 3
  ·subst hw
   rw[if_neg (by simp)] at HRR
   cases xd with
   | true =>
    obtain ⟨q,hq⟩:∃ q:Bool,q = (true == false):=⟨_,rfl⟩
    clear HR
    go_wp2_with fail
    refine (RF.out _ _ _).mono ?_
    rintro e w7 ⟨rfl,rfl⟩
    go_wp2_with fail
    go_returns
    exact ⟨by rw[HRR.out];rfl,B3.out⟩
   | false =>
    clear HR
    go_wp2_with fail
    refine (RF.out _ _ _).mono ?_
    rintro e w7 ⟨rfl,rfl⟩
    go_wp2_with fail
    go_returns
    exact ⟨by rw[HRR.out];rfl,B3.out⟩
  ·obtain rfl:r = 23:=by rw[HRR.out,if_pos hw]
   have tw:(xa != 3) = true:=by simpa using hw
   clear HRR HR
   go_wp2_with fail
   go_returns
   exact ⟨rfl,B3.out⟩
 rw[if_neg k6] at HRR
 omega
end Go.Proofs.YtdpoppilnokniaaGreatDoor
namespace Go.Proofs.YtdpoppilnokniaaGreatDoor
open Go.RowKit Go.ChangeShapes Go.WideShapes Go.Deep Go.Maps
set_option linter.unusedVariables false
set_option linter.unusedSimpArgs false
set_option maxRecDepth 8000 in
set_option maxHeartbeats 16000000 in
theorem check65_C {base lo:Nat}{f:Fl}{L:Lay}{s:CSt}{w:World}(h:CM base lo f L s w) (hI:Inv f.bikes.toNat s) (e:Ev) (hin:inN e) (hc:checkE f e = 0) (hk:e.kind ≠ 10) (hF:f.In w) (hlo:7≤e.kind) (hhi:e.kind≤9) :
  Calls Tryz.prog 59 #[.pointer (some ⟨L.sb,0,none⟩),.agg (eC e)] w fun x w'=>x = .returned (.int .i64 (faultK f s e))∧Below w.heap.size w w':=by
 obtain ⟨k1,k2⟩:=kind_in hc
 obtain ⟨b1,b2⟩:=bike_in hc
 have hfb:f.bikes≤128:=(fleetE_zero (check_fleet hc)).1.2
 obtain ⟨b,hb⟩:=Int.eq_ofNat_of_zero_le b1
 have hbn:b < f.bikes.toNat:=by omega
 have hwr:(Lit.int .i64 e.ride).wf = true:=WalkArith.wf_i64 (hin _ (by simp [nums]))
 have HFK:Hid (faultK f s e = faultK f s e):=Lib.hid rfl
 have HCM:=Lib.hid h
 obtain ⟨a0,a1,a2,a3⟩:=h.rows.at hbn
 have c4:=cell_at h.m0 4
 have c5:=cell_at h.m0 5
 have c6:=cell_at h.m0 6
 have c7:=cell_at h.m0 7
 simp only[List.getElem?_toArray,List.getElem?_cons_succ,List.getElem?_cons_zero] at c4 c5 c6 c7
 have zs:=szs (block_lt h.m0)
 have zp:=szs (cell_lt a0)
 dsimp only at zp
 have HFI:=Lib.hid hF
 clear hF
 have B0:Hid (Below w.heap.size w (w.alloc (.cells (eC e) 81))):=Lib.hid (by (repeat' (first | with_reducible (first | exact Below.refl _ _ | assumption | refine Below.drew ?_ | refine below_drewN ?_ _ | refine Below.alloc ?_ ?_ _ | refine Below.setCell ?_ ?_ _) | go_size)))
 have X0:Hid ((w.alloc (.cells (eC e) 81)).heap[w.heap.size]? = some (.cells (eC e) 81 (0,0))):=Lib.hid (heap_alloc_new w _)
 obtain ⟨w1,hw1⟩:∃ w1,w1 = w.alloc (.cells (eC e) 81):=⟨_,rfl⟩
 rw[←hw1] at B0 X0
 have HW1:=Lib.hid hw1
 obtain ⟨r,hr⟩:∃ r,r = faultK f s e:=⟨_,rfl⟩
 rw[←hr]
 have HR:=Lib.hid hr
 unfold faultK at hr
 rw[hb,Int.toNat_natCast] at hr
 generalize hx:s.F b = x at *
 obtain ⟨xa,xb,xc,xd⟩:=x
 dsimp only at a0 a1 a2 a3 hr
 have HRR:=Lib.hid hr
 have HI:=Lib.hid hI
 have HPL:Hid (e.kind = 7→0≤e.place∧e.place < f.nt):=Lib.hid (fun h=>check_place hc h)
 clear hr hw1 hc hI h HFK
 obtain ⟨v1,v2,v3,v4,v5,v6,v7,v8,v9⟩:=e
 dsimp only at hb hk k1 k2 hlo hhi b1 b2 hwr HRR HPL
 subst hb
 unfold eC at *
 dsimp only at X0 HW1 ⊢
 obtain ⟨sb,sp,om,um,P⟩:=L
 dsimp only at *
 obtain ⟨n,hn⟩:∃ n,n = f.bikes.toNat:=⟨_,rfl⟩
 have HN:=Lib.hid hn
 rw[←hn] at hbn c5 HRR
 have hn128:n≤128:=by omega
 clear hn hfb b2
 go_enter Tryz.func59,Tryz.ntmps59
 go_wp2_with fail
 rw[←HW1.out]
 have ey:=X0.out
 have y0:=cell_at ey 0
 have y1:=cell_at ey 1
 have y2:=cell_at ey 2
 have y3:=cell_at ey 3
 have y4:=cell_at ey 4
 have y5:=cell_at ey 5
 have y6:=cell_at ey 6
 have y7:=cell_at ey 7
 have y8:=cell_at ey 8
 replace a0:=cell_kept B0.out a0
 replace a1:=cell_kept B0.out a1
 replace a2:=cell_kept B0.out a2
 replace a3:=cell_kept B0.out a3
 replace c4:=cell_kept B0.out c4
 replace c5:=cell_kept B0.out c5
 replace c6:=cell_kept B0.out c6
 replace c7:=cell_kept B0.out c7
 have M1:=Lib.hid (HCM.out.below B0.out)
 have FI1:=Lib.hid (HFI.out.below B0.out)
 clear HCM HFI HW1 ey zs zp
 (obtain ⟨ι,hne,Fw,fb,hF⟩:=grow_family w1);have hF:∀ w',(gPlan w1 (fun _=>undef) [] [] []).D () w'→∃ i,w' = Fw i:=hF
 have fc5:=fun i=>cell_kept (fb i) c5
 have fy5:=fun i=>cell_kept (fb i) y5
 have fa0:=fun i=>cell_kept (fb i) a0
 have fa1:=fun i=>cell_kept (fb i) a1
 have fa2:=fun i=>cell_kept (fb i) a2
 have fa3:=fun i=>cell_kept (fb i) a3
 (refine region_chain (gPlan w1 (fun _=>undef) [] [(8,fun b=>.pointer (some ⟨b,0,none⟩),.cells #[.int .i64 0,.int .i64 0,.int .i64 0,.bool false] 112)] [(9,8)]) () [] [0,1,2,3,4,5,6,7,8,9] [] mixed (by kernel_rfl) (by kernel_rfl) (gPlan_ok (by simp) (by simp)) (gPlan_start _ _ _ _ _) ?_;refine wpPure_nil ?_;simp only[List.map_cons,List.map_nil,Array.getD_eq_getD_getElem?,List.getElem?_toArray,List.getElem?_cons_zero,List.getElem?_cons_succ,Option.getD_some])
 (repeat (first | (refine wpChain_skip rfl ?_;simp only[Act.put,List.setIfInBounds_toArray,List.set_cons_succ,List.set_cons_zero]) | (refine wpChain_quiet hF rfl rfl rfl ?_;intro K hK;go_big_quiet_op;go_big_quiet_on) | (refine wpChain_pure _ rfl rfl (fun w' _=>by go_simp;try rfl) ?_;simp only[Act.put,List.setIfInBounds_toArray,List.set_cons_succ,List.set_cons_zero])))
 (refine wpChain_alloc _ _ rfl (List.mem_cons_self ..) rfl (fun w'=>by go_simp) (fun q1 hq1=>?_);simp only[Act.put,List.setIfInBounds_toArray,List.set_cons_succ,List.set_cons_zero])
 (refine wpChain_store 8 q1 (.cells #[.int .i64 0,.int .i64 0,.int .i64 0,.bool false] 112) (.cells #[.int .i64 xa,.int .i64 xb,.int .i64 xc,.bool xd] 112) rfl (by simp [gPlan]) (by simp [setB]) (by simp [setB]) rfl (fun w' hw'=>by have c0:=cell_at hw' 0;have c1:=cell_at hw' 1;have c2:=cell_at hw' 2;have c3:=cell_at hw' 3;have g0:=free_at hw';have hlt:=block_lt hw';go_simp;rw[setCell_at hw',setAt_setCell hlt,setAt_setCell hlt,setAt_setCell hlt];rfl) ?_;simp only[Act.put,List.setIfInBounds_toArray,List.set_cons_succ,List.set_cons_zero])
 refine wpChain_nil (fun w2 hb2 hl2=>?_)
 have hx2:w2.heap[q1]? = some (.cells #[.int .i64 xa,.int .i64 xb,.int .i64 xc,.bool xd] 112 (0,0)):=(hl2.2 (8,q1,.cells #[.int .i64 xa,.int .i64 xb,.int .i64 xc,.bool xd] 112) (by simp [setB])).2
 have hb2':Below w1.heap.size w1 w2:=hb2
 have B2:=Lib.hid (B0.out.trans (hb2'.mono B0.out.size))
 have M2:=Lib.hid (M1.out.below hb2')
 have FI2:=Lib.hid (FI1.out.below hb2')
 replace y0:=cell_kept hb2' y0
 replace y1:=cell_kept hb2' y1
 replace y2:=cell_kept hb2' y2
 replace y3:=cell_kept hb2' y3
 replace y4:=cell_kept hb2' y4
 replace y5:=cell_kept hb2' y5
 replace y6:=cell_kept hb2' y6
 replace y7:=cell_kept hb2' y7
 replace y8:=cell_kept hb2' y8
 replace c4:=cell_kept hb2' c4
 replace c6:=cell_kept hb2' c6
 replace c7:=cell_kept hb2' c7
 have t0:=cell_at hx2 0
 have t1:=cell_at hx2 1
 have t2:=cell_at hx2 2
 have t3:=cell_at hx2 3
 have zy:=szs (cell_lt y0)
 have zc:=szs (cell_lt c4)
 have zt:=szs (block_lt hx2)
 dsimp only at zy zc
 clear hb2 hb2' hl2 hx2 hF fb hne fc5 fy5 fa0 fa1 fa2 fa3 a0 a1 a2 a3 c5 hq1 M1 FI1 B0 X0
 have LK:∀ i,Sem.run Tryz.prog (Instr.lookup 146 (.map (some om)) (.int .i64 v9) false) (w2.drewN i) = .ok (ridP (ridV s P v9)) (w2.drewN i):=fun i=>(M2.out.opn.off (X:=fun _=>False) (Off.of_below (below_drewN (Below.refl _ _) i)) (fun h=>h)).look v9 hwr
 refine onlyN_intro ?_
 go_wp2_with fail
 (refine region_all (fun i:Nat=>World.drewN _ i) mixed (by kernel_rfl) ⟨1,rfl⟩ ?_;(repeat (any_goals (first | go_big_quiet_step (fail) | quiet_step (fail) | (refine wpQuiet_step (fun K hK=>?_);go_simp;split <;> (refine hK _ ?_;clear hK K)))));(all_goals (refine wpQuiet_nil (fun nq=>?_))))
 have b3:Below w2.heap.size w2 (w2.drewN nq):=below_drewN (Below.refl _ _) nq
 have B3:=B2
 have M3:=M2
 have FI3:=FI2
 clear B2 M2 FI2 LK
 generalize w2.drewN nq = w3 at *
 replace y0:=cell_kept b3 y0
 replace y1:=cell_kept b3 y1
 replace y2:=cell_kept b3 y2
 replace y3:=cell_kept b3 y3
 replace y4:=cell_kept b3 y4
 replace y5:=cell_kept b3 y5
 replace y6:=cell_kept b3 y6
 replace y7:=cell_kept b3 y7
 replace y8:=cell_kept b3 y8
 replace c4:=cell_kept b3 c4
 replace c6:=cell_kept b3 c6
 replace c7:=cell_kept b3 c7
 replace t0:=cell_kept b3 t0
 replace t1:=cell_kept b3 t1
 replace t2:=cell_kept b3 t2
 replace t3:=cell_kept b3 t3
 replace B3:=Lib.hid (B3.out.trans (Below.mono b3 B3.out.size))
 replace M3:=Lib.hid (M3.out.below b3)
 replace FI3:=Lib.hid (FI3.out.below b3)
 clear zy zc zt b3
 have zy:=szs (cell_lt y0)
 have zc:=szs (cell_lt c4)
 have zt:=szs (cell_lt t0)
 dsimp only at zy zc zt
 have PK:=Lib.hid (fun w'=>parked87 ⟨xa,xb,xc,xd⟩ w')
 dsimp only at PK
 obtain ⟨p,hp⟩:∃ p,p = parkB ⟨xa,xb,xc,xd⟩:=⟨_,rfl⟩
 rw[←hp] at PK HRR
 clear hp
 have RF:=Lib.hid (fun no x w'=>refused86 no x w')
 have k1:¬ v5 = 1:=by omega
 have k2:¬ v5 = 2:=by omega
 have k3:¬ v5 = 3:=by omega
 have k4:¬ v5 = 4:=by omega
 have k5:¬ v5 = 5:=by omega
 have k6:¬ v5 = 6:=by omega
 rw[if_neg k1,if_neg k2,if_neg k3,if_neg k4,if_neg k5,if_neg k6] at HRR
 by_cases k7:v5 = 7
 ·subst k7
  rw[if_pos rfl] at HRR
  by_cases hw3:xa = 3
  ·subst hw3
   obtain rfl:r = 23:=by rw[HRR.out,if_pos (.inl rfl)]
   clear HRR HR
   go_wp2_with fail
   go_returns
   exact ⟨rfl,B3.out⟩
  by_cases hw4:xa = 4
  ·subst hw4
   obtain rfl:r = 23:=by rw[HRR.out,if_pos (.inr rfl)]
   clear HRR HR hw3
   go_wp2_with fail
   go_returns
   exact ⟨rfl,B3.out⟩
  have tw3:(xa == 3) = false:=by simpa using hw3
  have tw4:(xa == 4) = false:=by simpa using hw4
  rw[if_neg (by omega)] at HRR
  obtain ⟨p1,p2⟩:=HPL.out rfl
  obtain ⟨q,rfl⟩:=Int.eq_ofNat_of_zero_le p1
  rw[Int.toNat_natCast] at HRR
  obtain ⟨g,o,hga,hgl,d0⟩:=FI3.out.trucks.num (i:=q) (by omega)
  obtain ⟨C,hC⟩:∃ C,C = cntN s.F 4 (q:Int) n:=⟨_,rfl⟩
  rw[←hC] at HRR
  have HCC:=Lib.hid hC
  have CC:Hid (∀ w',Below w3.heap.size w3 w'→Calls Tryz.prog 88 #[.pointer (some ⟨sb,0,none⟩),.int .i64 4,.int .i64 (q:Int)] w' fun e w''=>e = .returned (.int .i64 (C:Int))∧Below w'.heap.size w' w''):=Lib.hid (fun w' hb=>by
   have:=count88 (M3.out.below hb) 4 (q:Int) (by rw[←HN.out];omega)
   rw[←HN.out,←hC] at this
   exact this)
  have hF2:=FI3.out.trucks.hm
  have hF3:=FI3.out.trucks.hc
  have tq:(q:Int) < (f.nt:Int):=by omega
  generalize hT:f.T q = T at *
  rw[hga] at c4
  have zg:=szs hgl
  clear hC hT p1 p2 HPL
  by_cases hle:T≤(C:Int)
  ·obtain rfl:r = 24:=by rw[HRR.out,if_pos hle]
   clear HRR HR
   go_wp2_with fail
   (obtain ⟨ι,hne,Fw,fb,hF⟩:=grow_family w3);have hF:∀ w',(gPlan w3 (fun i=>if i = 4 then .int .i64 (C:Int) else .int .i64 24) [4,15] [] []).D () w'→∃ i,w' = Fw i:=hF
   have fc4:=fun i=>cell_kept (fb i) c4
   have fy6:=fun i=>cell_kept (fb i) y6
   have fd0:=fun i=>cell_kept (fb i) d0
   (refine region_chain (gPlan w3 (fun i=>if i = 4 then .int .i64 (C:Int) else .int .i64 24) [4,15] [] []) () [] [0,1,2,3,5,6,7,8,9,10,11,12,13,4,14,15,16] [] mixed (by kernel_rfl) (by kernel_rfl) (gPlan_ok (by simp) (by simp)) (gPlan_start _ _ _ _ _) ?_;refine wpPure_nil ?_;simp only[List.map_cons,List.map_nil,Array.getD_eq_getD_getElem?,List.getElem?_toArray,List.getElem?_cons_zero,List.getElem?_cons_succ,Option.getD_some])
   (repeat (first | (refine wpChain_skip rfl ?_;simp only[Act.put,List.setIfInBounds_toArray,List.set_cons_succ,List.set_cons_zero]) | (refine wpChain_quiet hF rfl rfl rfl ?_;intro K hK;go_big_quiet_op;go_big_quiet_on) | (refine wpChain_pure _ rfl rfl (fun w' _=>by go_simp;try rfl) ?_;simp only[Act.put,List.setIfInBounds_toArray,List.set_cons_succ,List.set_cons_zero])))
   refine wpChain_gcall 88 #[.pointer (some ⟨sb,0,none⟩),.int .i64 4,.int .i64 (q:Int)] rfl rfl (fun w'=>by go_simp) (fun w' hb=>CC.out w' hb) ?_
   simp only[Act.put,List.setIfInBounds_toArray,List.set_cons_succ,List.set_cons_zero]
   (repeat (first | (refine wpChain_skip rfl ?_;simp only[Act.put,List.setIfInBounds_toArray,List.set_cons_succ,List.set_cons_zero]) | (refine wpChain_quiet hF rfl rfl rfl ?_;intro K hK;go_big_quiet_op;go_big_quiet_on) | (refine wpChain_pure _ rfl rfl (fun w' _=>by go_simp;try rfl) ?_;simp only[Act.put,List.setIfInBounds_toArray,List.set_cons_succ,List.set_cons_zero])))
   refine wpChain_gcall 86 #[.bool true,.int .i64 24] rfl rfl (fun w'=>by go_simp) (fun w' hb=>(RF.out true 24 w').mono ?_) ?_
   ·rintro e w5 ⟨rfl,rfl⟩
    exact ⟨rfl,Below.refl _ _⟩
   simp only[Act.put,List.setIfInBounds_toArray,List.set_cons_succ,List.set_cons_zero]
   (repeat (first | (refine wpChain_skip rfl ?_;simp only[Act.put,List.setIfInBounds_toArray,List.set_cons_succ,List.set_cons_zero]) | (refine wpChain_quiet hF rfl rfl rfl ?_;intro K hK;go_big_quiet_op;go_big_quiet_on) | (refine wpChain_pure _ rfl rfl (fun w' _=>by go_simp;try rfl) ?_;simp only[Act.put,List.setIfInBounds_toArray,List.set_cons_succ,List.set_cons_zero])))
   refine wpChain_nil (fun w8 hb8 hl8=>?_)
   have B8:Hid (Below w3.heap.size w3 w8):=Lib.hid hb8
   clear hb8 hl8 hF fb hne fc4 fy6 fd0
   refine onlyN_intro ?_
   go_wp2_with fail
   go_returns
   exact ⟨rfl,B3.out.trans (B8.out.mono B3.out.size)⟩
  ·obtain rfl:r = 0:=by rw[HRR.out,if_neg hle]
   have hlt:(C:Int) < T:=by omega
   clear HRR HR
   go_wp2_with fail
   (obtain ⟨ι,hne,Fw,fb,hF⟩:=grow_family w3);have hF:∀ w',(gPlan w3 (fun i=>if i = 4 then .int .i64 (C:Int) else .int .i64 0) [4,15] [] []).D () w'→∃ i,w' = Fw i:=hF
   have fc4:=fun i=>cell_kept (fb i) c4
   have fy6:=fun i=>cell_kept (fb i) y6
   have fd0:=fun i=>cell_kept (fb i) d0
   (refine region_chain (gPlan w3 (fun i=>if i = 4 then .int .i64 (C:Int) else .int .i64 0) [4,15] [] []) () [] [0,1,2,3,5,6,7,8,9,10,11,12,13,4,14,15,16] [] mixed (by kernel_rfl) (by kernel_rfl) (gPlan_ok (by simp) (by simp)) (gPlan_start _ _ _ _ _) ?_;refine wpPure_nil ?_;simp only[List.map_cons,List.map_nil,Array.getD_eq_getD_getElem?,List.getElem?_toArray,List.getElem?_cons_zero,List.getElem?_cons_succ,Option.getD_some])
   (repeat (first | (refine wpChain_skip rfl ?_;simp only[Act.put,List.setIfInBounds_toArray,List.set_cons_succ,List.set_cons_zero]) | (refine wpChain_quiet hF rfl rfl rfl ?_;intro K hK;go_big_quiet_op;go_big_quiet_on) | (refine wpChain_pure _ rfl rfl (fun w' _=>by go_simp;try rfl) ?_;simp only[Act.put,List.setIfInBounds_toArray,List.set_cons_succ,List.set_cons_zero])))
   refine wpChain_gcall 88 #[.pointer (some ⟨sb,0,none⟩),.int .i64 4,.int .i64 (q:Int)] rfl rfl (fun w'=>by go_simp) (fun w' hb=>CC.out w' hb) ?_
   simp only[Act.put,List.setIfInBounds_toArray,List.set_cons_succ,List.set_cons_zero]
   (repeat (first | (refine wpChain_skip rfl ?_;simp only[Act.put,List.setIfInBounds_toArray,List.set_cons_succ,List.set_cons_zero]) | (refine wpChain_quiet hF rfl rfl rfl ?_;intro K hK;go_big_quiet_op;go_big_quiet_on) | (refine wpChain_pure _ rfl rfl (fun w' _=>by go_simp;try rfl) ?_;simp only[Act.put,List.setIfInBounds_toArray,List.set_cons_succ,List.set_cons_zero])))
   refine wpChain_gcall 86 #[.bool false,.int .i64 24] rfl rfl (fun w'=>by go_simp) (fun w' hb=>(RF.out false 24 w').mono ?_) ?_
   ·rintro e w5 ⟨rfl,rfl⟩
    exact ⟨rfl,Below.refl _ _⟩
   simp only[Act.put,List.setIfInBounds_toArray,List.set_cons_succ,List.set_cons_zero]
   (repeat (first | (refine wpChain_skip rfl ?_;simp only[Act.put,List.setIfInBounds_toArray,List.set_cons_succ,List.set_cons_zero]) | (refine wpChain_quiet hF rfl rfl rfl ?_;intro K hK;go_big_quiet_op;go_big_quiet_on) | (refine wpChain_pure _ rfl rfl (fun w' _=>by go_simp;try rfl) ?_;simp only[Act.put,List.setIfInBounds_toArray,List.set_cons_succ,List.set_cons_zero])))
   refine wpChain_nil (fun w8 hb8 hl8=>?_)
   have B8:Hid (Below w3.heap.size w3 w8):=Lib.hid hb8
   clear hb8 hl8 hF fb hne fc4 fy6 fd0
   refine onlyN_intro ?_
   go_wp2_with fail
   go_returns
   exact ⟨rfl,B3.out.trans (B8.out.mono B3.out.size)⟩
 rw[if_neg k7] at HRR
 by_cases k8:v5 = 8
 ·subst k8
  rw[if_pos rfl] at HRR
  by_cases h1:xa = 3
  ·subst h1
   obtain rfl:r = 23:=by rw[HRR.out,if_pos (.inl rfl)]
   clear HRR HR
   go_wp2_with fail
   refine (RF.out _ _ _).mono ?_
   rintro e w7 ⟨rfl,rfl⟩
   go_wp2_with fail
   go_returns
   exact ⟨rfl,B3.out⟩
  ·have te1:(xa == 3) = false:=by simpa using h1
   by_cases h2:xa = 5
   ·subst h2
    obtain rfl:r = 23:=by rw[HRR.out,if_pos (.inr rfl)]
    clear HRR HR h1 te1
    go_wp2_with fail
    refine (RF.out _ _ _).mono ?_
    rintro e w7 ⟨rfl,rfl⟩
    go_wp2_with fail
    go_returns
    exact ⟨rfl,B3.out⟩
   ·have te2:(xa == 5) = false:=by simpa using h2
    obtain rfl:r = 0:=by rw[HRR.out,if_neg (by omega)]
    clear HRR HR
    go_wp2_with fail
    refine (RF.out _ _ _).mono ?_
    rintro e w7 ⟨rfl,rfl⟩
    go_wp2_with fail
    go_returns
    exact ⟨rfl,B3.out⟩
 rw[if_neg k8] at HRR
 obtain rfl:v5 = 9:=by omega
 rw[if_pos rfl] at HRR
 by_cases h1:xa = 5
 ·subst h1
  obtain rfl:r = 23:=by rw[HRR.out,if_pos (.inl rfl)]
  clear HRR HR
  go_wp2_with fail
  refine (RF.out _ _ _).mono ?_
  rintro e w7 ⟨rfl,rfl⟩
  go_wp2_with fail
  go_returns
  exact ⟨rfl,B3.out⟩
 ·have te1:(xa == 5) = false:=by simpa using h1
  by_cases h2:xa = 6
  ·subst h2
   obtain rfl:r = 23:=by rw[HRR.out,if_pos (.inr rfl)]
   clear HRR HR h1 te1
   go_wp2_with fail
   refine (RF.out _ _ _).mono ?_
   rintro e w7 ⟨rfl,rfl⟩
   go_wp2_with fail
   go_returns
   exact ⟨rfl,B3.out⟩
  ·have te2:(xa == 6) = false:=by simpa using h2
   obtain rfl:r = 0:=by rw[HRR.out,if_neg (by omega)]
   clear HRR HR
   go_wp2_with fail
   refine (RF.out _ _ _).mono ?_
   rintro e w7 ⟨rfl,rfl⟩
   go_wp2_with fail
   go_returns
   exact ⟨rfl,B3.out⟩
end Go.Proofs.YtdpoppilnokniaaGreatDoor
namespace Go.Proofs.YtdpoppilnokniaaGreatDoor
open Go.RowKit Go.ChangeShapes Go.WideShapes Go.Deep Go.Maps
theorem check59 {base lo:Nat}{f:Fl}{L:Lay}{s:CSt}{w:World}(h:CM base lo f L s w) (hI:Inv f.bikes.toNat s) (e:Ev) (hin:inN e) (hc:checkE f e = 0) (hk:e.kind ≠ 10) (hF:f.In w) :
  Calls Tryz.prog 59 #[.pointer (some ⟨L.sb,0,none⟩),.agg (eC e)] w fun x w'=>x = .returned (.int .i64 (faultK f s e))∧Below w.heap.size w w':=by
 obtain ⟨k1,k2⟩:=kind_in hc
 by_cases h3:e.kind≤3
 ·exact check65_A h hI e hin hc hk hF k1 h3
 by_cases h6:e.kind≤6
 ·exact check65_B h hI e hin hc hk hF (by omega) h6
 ·exact check65_C h hI e hin hc hk hF (by omega) (by omega)
end Go.Proofs.YtdpoppilnokniaaGreatDoor
