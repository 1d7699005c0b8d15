/- Theorems of this seat. -/
import Derived.Test.YtdpoppilnokniaaGreatDoorWCMB
import Derived.Test.YtdpoppilnokniaaGreatDoorWCUA
namespace Go.Proofs.YtdpoppilnokniaaGreatDoor
open Go.RowKit Go.ChangeShapes Go.WideShapes Go.Deep Go.Maps
set_option linter.unusedVariables false
set_option linter.unusedSimpArgs false
theorem wpList_append_Eo {ops:Array Oper}{rest:List Oper}{o:Oper}{a:Act}{Q:Exit→Act→World→Prop}(w:World) (hgd:o.guard = none) (x1 x2:Operand) (ho:o.op = .call { callee:=.builtin .append,args:=#[x1,x2],argTypes:=#[25,25] })
  (base:Nat) (v:Value) (n:Nat) (F:Nat→Ev) (hs:a.eval x1 = v) (h1:EvRow w base v n F) (b1:Nat) (x:Ev) (hx:a.eval x2 = .slice (some ⟨b1,0,none⟩) 1 1) (ob:TypeId) (fz:Nat×Nat) (hb1:w.heap[b1]? = some (.cells (eC x) ob fz)) (hn:n≤1000000) (hb:base≤w.heap.size)
  (h:∀ g cap w',n+1≤cap→cap≤9223372036854775807→g < w'.heap.size→(v.ownBlock = some g∨w.heap.size≤g)→EvRow w' base (.slice (some ⟨g,0,none⟩) (n+1) cap) (n+1) (upd F n x)→Off (fun i=>v.ownBlock = some i) w w'→wpList Tryz.prog ops Q rest (a.put o.dst (.slice (some ⟨g,0,none⟩) (n+1) cap)) w'):wpList Tryz.prog ops Q (o :: rest) a w:=by
 obtain ⟨i0,hi,hz0,hz1,hz2⟩:=info_parts infoEv
 refine wpList_append_row w hgd x1 x2 25 ho base 81 i0 _ 9 72 Tryz.underlying25 hi hz0 hz1 hz2 rfl (by decide) v n (fun i=>evs (F i)) hs h1 (fun i=>evs_len _) b1 1 (evs x) hx rfl ob fz hb1 (evs_one x) (by omega) (by unfold maxLen;omega) hb ?_
 intro g cap w' k1 k2 k3 k4 k5 r b
 refine h g cap w' k1 k2 k4 k5 (Row.congr r (fun i _=>?_)) ((Off.of_grown b).mono (fun i _ h=>by first | exact h | exact h.symm))
 unfold upd
 split <;> rfl
structure Noted (O lo:Nat) (v:Value) (l:List Ev) (w:World):Prop where
 box:w.heap[O]? = some (.cells #[v] 25 (0,0))
 row:∃ R,EvRow w lo v l.length R∧ents R l.length = l
 apart:O < lo
theorem Noted.off {X:Nat→Prop}{O lo:Nat}{v:Value}{l:List Ev}{w w':World}(h:Noted O lo v l w) (ho:Off X w w') (h1:¬ X O) (h2:∀ g,v.ownBlock = some g→¬ X g):Noted O lo v l w':=by
 obtain ⟨R,r1,r2⟩:=h.row
 exact ⟨(ho.block _ (block_lt h.box) h1).trans h.box,⟨R,Row.off r1 ho h2,r2⟩,h.apart⟩
theorem Noted.start {O lo:Nat}{w:World}(h:w.heap[O]? = some (.cells #[.slice none 0 0] 25 (0,0))) (hl:O < lo):Noted O lo (.slice none 0 0) [] w :=
 ⟨h,⟨fun _=>⟨0,0,0,0,0,0,0,0,0⟩,⟨rfl,.inl ⟨rfl,rfl⟩⟩,rfl⟩,hl⟩
set_option maxRecDepth 8000 in
set_option maxHeartbeats 4000000 in
theorem note36 (sb O lo:Nat) (v:Value) (l:List Ev) (x:Ev) (err:Int) (w:World) (h:Noted O lo v l w) (hl:lo≤w.heap.size) (hn:l.length≤1000000) :
  Calls Tryz.prog 36 #[.pointer (some ⟨sb,0,none⟩),.agg (eC x),.int .i64 err,.pointer (some ⟨O,0,none⟩)] w fun e w'=>e = .returned (.tuple #[])∧∃ v',Noted O lo v' (if err = 0 then l ++ [x] else l) w' ∧
   (∀ g,v'.ownBlock = some g→v.ownBlock = some g∨w.heap.size≤g)∧Off (fun q=>q = O∨v.ownBlock = some q) w w':=by
 have HN:=Lib.hid h
 have o0:=cell_at h.box 0
 have f0:=free_at h.box 0
 have zo:=szs (block_lt h.box)
 have HOL:Hid (O < w.heap.size):=Lib.hid (block_lt h.box)
 clear h
 by_cases he:err = 0
 ·subst he
  obtain ⟨v1,v2,v3,v4,v5,v6,v7,v8,v9⟩:=x
  unfold eC at *
  dsimp only
  have BB:Hid (Below w.heap.size w ((w.alloc (.cells #[.int .i64 v1,.int .i64 v2,.int .i64 v3,.int .i64 v4,.int .i64 v5,.int .i64 v6,.int .i64 v7,.int .i64 v8,.int .i64 v9] 81)).alloc (.cells #[.int .i64 v1,.int .i64 v2,.int .i64 v3,.int .i64 v4,.int .i64 v5,.int .i64 v6,.int .i64 v7,.int .i64 v8,.int .i64 v9] 81))):=Lib.hid (by (repeat' (first | with_reducible (first | exact Below.refl _ _ | assumption | refine Below.drew ?_ | refine below_drewN ?_ _ | refine Below.alloc ?_ ?_ _ | refine Below.setCell ?_ ?_ _) | go_size)))
  have XB:Hid (((w.alloc (.cells #[.int .i64 v1,.int .i64 v2,.int .i64 v3,.int .i64 v4,.int .i64 v5,.int .i64 v6,.int .i64 v7,.int .i64 v8,.int .i64 v9] 81)).alloc (.cells #[.int .i64 v1,.int .i64 v2,.int .i64 v3,.int .i64 v4,.int .i64 v5,.int .i64 v6,.int .i64 v7,.int .i64 v8,.int .i64 v9] 81)).heap[w.heap.size+1]? = some (.cells #[.int .i64 v1,.int .i64 v2,.int .i64 v3,.int .i64 v4,.int .i64 v5,.int .i64 v6,.int .i64 v7,.int .i64 v8,.int .i64 v9] 81 (0,0))):=Lib.hid (by
   have h0:=heap_alloc_new (w.alloc (.cells #[.int .i64 v1,.int .i64 v2,.int .i64 v3,.int .i64 v4,.int .i64 v5,.int .i64 v6,.int .i64 v7,.int .i64 v8,.int .i64 v9] 81)) (.cells #[.int .i64 v1,.int .i64 v2,.int .i64 v3,.int .i64 v4,.int .i64 v5,.int .i64 v6,.int .i64 v7,.int .i64 v8,.int .i64 v9] 81)
   rwa [show (w.alloc (.cells #[.int .i64 v1,.int .i64 v2,.int .i64 v3,.int .i64 v4,.int .i64 v5,.int .i64 v6,.int .i64 v7,.int .i64 v8,.int .i64 v9] 81)).heap.size = w.heap.size+1 by simp] at h0)
  have N2:=Lib.hid (HN.out.off (X:=fun _=>False) (Off.of_below BB.out) (fun h=>h) (fun _ _ h=>h))
  have HLO2:lo≤((w.alloc (.cells #[.int .i64 v1,.int .i64 v2,.int .i64 v3,.int .i64 v4,.int .i64 v5,.int .i64 v6,.int .i64 v7,.int .i64 v8,.int .i64 v9] 81)).alloc (.cells #[.int .i64 v1,.int .i64 v2,.int .i64 v3,.int .i64 v4,.int .i64 v5,.int .i64 v6,.int .i64 v7,.int .i64 v8,.int .i64 v9] 81)).heap.size:=Nat.le_trans hl BB.out.size
  obtain ⟨R,r1,r2⟩:=N2.out.row
  have R1:=Lib.hid r1
  have R2:=Lib.hid r2
  have BS:=Lib.hid (BB.out.size)
  clear r1 r2 HN
  go_enter Tryz.func36,Tryz.ntmps36
  go_wp2_with (at_builtin;go_loud (refine wpList_append_Eo _ rfl (.tmp 9) (.tmp 11) rfl lo _ _ R rfl R1.out (w.heap.size+1) ⟨v1,v2,v3,v4,v5,v6,v7,v8,v9⟩ rfl 81 (0,0) XB.out (by omega) HLO2 ?_))
  intro g cap w3 k1 k2 k3 k4 r3 o3
  have R3:=Lib.hid r3
  have O3:=Lib.hid o3
  have hgO:¬ v.ownBlock = some O:=fun e=>by have:=(World.ownsRow.lt R1.out O e).1;have:=N2.out.apart;omega
  have X3:=(o3.block _ (block_lt N2.out.box) hgO).trans N2.out.box
  have fr3:=free_at X3 0
  have zo3:=szs (block_lt X3)
  have oc3:=cell_at X3 0
  have HX3:=Lib.hid X3
  have HK4:=Lib.hid k4
  clear r3 o3 X3 o0 f0 zo
  go_wp2_with fail
  go_end0
  have os:Off (fun q=>q = O) w3 (w3.setCell ⟨O,0,none⟩ (.slice (some ⟨g,0,none⟩) (l.length+1) cap)):=(Off.refl (fun q=>q = O) w3).setCell (p:=⟨O,0,none⟩) (fun _=>rfl) _
  have hgO2:g ≠ O:=fun e=>by
   rcases HK4.out with h | h
   ·rw[e] at h;exact hgO h
   ·have:=HOL.out;have:=BS.out;omega
  refine ⟨rfl,.slice (some ⟨g,0,none⟩) (l.length+1) cap,⟨?_,⟨upd R l.length ⟨v1,v2,v3,v4,v5,v6,v7,v8,v9⟩,?_,?_⟩,N2.out.apart⟩,fun g' h=>?_,?_⟩
  ·rw[setCell_at HX3.out,setAt_same (block_lt HX3.out)];rfl
  ·rw[List.length_append,List.length_singleton]
   exact Row.off R3.out os (fun g' hg' h=>by
    cases hg'
    exact hgO2 h)
  ·rw[List.length_append,List.length_singleton,ents_push,R2.out]
  ·cases h
   rcases HK4.out with h | h
   ·exact .inl h
   ·exact .inr (by show w.heap.size≤g;omega)
  ·exact ((Off.of_below BB.out).trans O3.out (fun i _ h=>.inr h)).trans os (fun i _ h=>.inl h)
 ·have te:(err == 0) = false:=by simpa using he
  have BB:Hid (Below w.heap.size w (w.alloc (.cells (eC x) 81))):=Lib.hid (by (repeat' (first | with_reducible (first | exact Below.refl _ _ | assumption | refine Below.drew ?_ | refine below_drewN ?_ _ | refine Below.alloc ?_ ?_ _ | refine Below.setCell ?_ ?_ _) | go_size)))
  obtain ⟨v1,v2,v3,v4,v5,v6,v7,v8,v9⟩:=x
  unfold eC at *
  dsimp only at BB ⊢
  go_enter Tryz.func36,Tryz.ntmps36
  go_wp2_with fail
  go_end0
  exact ⟨rfl,v,HN.out.off (X:=fun _=>False) (Off.of_below BB.out) (fun h=>h) (fun _ _ h=>h),fun g h=>.inl h,Off.of_below BB.out⟩
end Go.Proofs.YtdpoppilnokniaaGreatDoor
namespace Go.Proofs.YtdpoppilnokniaaGreatDoor
open Go.RowKit Go.ChangeShapes Go.WideShapes Go.Deep Go.Maps
set_option linter.unusedVariables false
set_option linter.unusedSimpArgs false
structure Look (f:Fl) (fn O:Nat) (v0:Value) (t:TypeId) (J:Nat→Value→List Ev→World→Prop):Prop where
 off:∀ {X:Nat→Prop} {lo:Nat} {v:Value} {l:List Ev} {w w':World},J lo v l w→Off X w w'→¬ X O→(∀ g,v.ownBlock = some g→¬ X g)→J lo v l w'
 row:∀ {lo:Nat} {v:Value} {l:List Ev} {w:World} {g:Nat},J lo v l w→v.ownBlock = some g→lo≤g∧g < w.heap.size
 start:∀ {lo:Nat} {w:World},w.heap[O]? = some (.cells #[v0] t (0,0))→O < lo→J lo v0 [] w∧v0.ownBlock = none
 seen:∀ {base lo:Nat} {L:Lay} {s:CSt} {v:Value} {l:List Ev} {w:World} (x:Ev) (err:Int),CM base lo f L s w→s = (if err = 0 then l ++ [x] else l).foldl applyK startS→J lo v l w→l.length≤1000→(err = 0→checkE f x = 0) →
  Calls Tryz.prog fn #[.pointer (some ⟨L.sb,0,none⟩),.agg (eC x),.int .i64 err,.pointer (some ⟨O,0,none⟩)] w fun e w'=>e = .returned (.tuple #[])∧∃ v',J lo v' (if err = 0 then l ++ [x] else l) w' ∧
   (∀ g,v'.ownBlock = some g→v.ownBlock = some g∨w.heap.size≤g)∧Off (fun q=>q = O∨v.ownBlock = some q) w w'
def RunJ (f:Fl) (l:List Ev) (w0:World) (v0:Value) (O:Nat) (t:TypeId) (J:Nat→Value→List Ev→World→Prop) (e:Ending) (w':World):Prop :=
 Below w0.heap.size w0 w'∧((fleetE f ≠ 0∧e = .returned (.tuple #[.pointer none,.int .i64 (fleetE f)])∧w'.heap[O]? = some (.cells #[v0] t (0,0))) ∨
  (fleetE f = 0∧∃ (sb lo:Nat) (v:Value),e = .returned (.tuple #[.pointer (some ⟨sb,0,none⟩),.int .i64 0])∧J lo v (runE f l).2 w'))
theorem runK_acc (f:Fl) (l:List Ev) (k:Nat):(runK f l k).1 = (runK f l k).2.foldl applyK startS:=(fold_path (l.take k) (startS,[]) trivial rfl).2
theorem runK_len (f:Fl) (l:List Ev) (k:Nat):(runK f l k).2.length≤k:=by
 obtain ⟨m,h1,h2⟩:=fold_sub (f:=f) (l.take k) (startS,[])
 unfold runK
 rw[h1,List.nil_append]
 exact Nat.le_trans h2.length_le (by rw[List.length_take];omega)
theorem CM.own_ge {base lo:Nat}{f:Fl}{L:Lay}{s:CSt}{w:World}(h:CM base lo f L s w) {q:Nat}(hq:L.own s.k q):base≤q:=by
 obtain ⟨b1,b2,b3,b4⟩:=h.b0
 obtain ⟨l1,l2,l3,l4⟩:=h.l0
 rcases hq with e | e | e | ⟨i,hi,e⟩
 ·omega
 ·omega
 ·omega
 ·have:=(h.pl i hi).1;omega
theorem CM.own_row {base lo:Nat}{f:Fl}{L:Lay}{s:CSt}{w:World}(h:CM base lo f L s w) {g:Nat}(hg:lo≤g) (hp:∀ i,i < s.k→L.P i ≠ g):¬ L.own s.k g:=by
 obtain ⟨l1,l2,l3,l4⟩:=h.l0
 rintro (e | e | e | ⟨i,hi,e⟩)
 ·omega
 ·omega
 ·omega
 ·exact hp i hi e.symm
theorem CM.seen {base lo O:Nat}{f:Fl}{L:Lay}{s:CSt}{v:Value}{w w':World}(h:CM base lo f L s w) (hO:O < base) (hg:∀ g,v.ownBlock = some g→lo≤g) (hp:∀ g,v.ownBlock = some g→∀ i,i < s.k→L.P i ≠ g)
  (ho:Off (fun q=>q = O∨v.ownBlock = some q) w w'):CM base lo f L s w':=by
 obtain ⟨b1,b2,b3,b4⟩:=h.b0
 obtain ⟨l1,l2,l3,l4⟩:=h.l0
 refine h.off ho (fun hh=>?_) (fun q hq hh=>?_)
 ·rcases hh with e | e
  ·omega
  ·have:=hg _ e;omega
 ·rcases hh with e | e
  ·have:=h.own_ge hq;omega
  ·exact h.own_row (hg _ e) (hp _ e) hq
end Go.Proofs.YtdpoppilnokniaaGreatDoor
namespace Go.Proofs.YtdpoppilnokniaaGreatDoor
open Go.RowKit Go.ChangeShapes Go.WideShapes Go.Deep Go.Maps
set_option linter.unusedVariables false
set_option linter.unusedSimpArgs false
set_option maxRecDepth 8000 in
set_option maxHeartbeats 16000000 in
theorem runTellA {O:Nat}{v0:Value}{t:TypeId}{J:Nat→Value→List Ev→World→Prop}(f:Fl) (LK:Look f 36 O v0 t J) (ao:Option Addr) (n c:Nat) (F:Nat→Ev) (w0 w:World) (hf:f.In w0) (hs:EvSl w0 ao n c F) (hn:n≤1000) (hin:∀ e∈ents F n,inN e)
  (hb0:Below w0.heap.size w0 w) (hO1:w0.heap.size≤O) (hO2:O < w.heap.size) (hbx:w.heap[O]? = some (.cells #[v0] t (0,0))) :
  Calls Tryz.prog 35 #[.agg f.cells,.slice ao n c,.func (.func 36) #[] #[.pointer (some ⟨O,0,none⟩)]] w (RunJ f (ents F n) w0 v0 O t J):=by
 have LK:=Lib.hid LK
 have b01:Below w.heap.size w (w.alloc (.cells f.cells 24)):=by (repeat' (first | with_reducible (first | exact Below.refl _ _ | assumption | refine Below.drew ?_ | refine below_drewN ?_ _ | refine Below.alloc ?_ ?_ _ | refine Below.setCell ?_ ?_ _) | go_size))
 have B0:Hid (Below w0.heap.size w0 (w.alloc (.cells f.cells 24))):=Lib.hid (hb0.trans (b01.mono hb0.size))
 have X0:Hid ((w.alloc (.cells f.cells 24)).heap[w.heap.size]? = some (.cells f.cells 24 (0,0))):=Lib.hid (heap_alloc_new w _)
 have OX:Hid ((w.alloc (.cells f.cells 24)).heap[O]? = some (.cells #[v0] t (0,0))):=Lib.hid ((b01.block _ hO2).trans hbx)
 obtain ⟨w1,hw1⟩:∃ w1,w1 = w.alloc (.cells f.cells 24):=⟨_,rfl⟩
 rw[←hw1] at B0 X0 OX
 have HW1:=Lib.hid hw1
 have HF0:=Lib.hid hf
 have HS0:=Lib.hid hs
 have HIN:=Lib.hid hin
 have FE:=Lib.hid (fleet55 f w1 (hf.below B0.out))
 have FZ:Hid (fleetE f = 0→1≤f.bikes∧f.bikes≤128):=Lib.hid (fun h=>(fleetE_zero h).1)
 obtain ⟨x,hx⟩:∃ x,x = fleetE f:=⟨_,rfl⟩
 rw[←hx] at FE FZ
 have HX:=Lib.hid hx
 have HFC:Hid (f.cells = #[.int .i64 f.bikes,.int .i64 f.riders,.int .i64 f.devs,.slice f.ad f.nd f.cd,.slice f.a2 f.nt f.ct]):=Lib.hid rfl
 rw[HFC.out] at X0 HW1 FE ⊢
 have x0:=cell_at X0.out 0
 have x1:=cell_at X0.out 1
 have x2:=cell_at X0.out 2
 have x3:=cell_at X0.out 3
 have x4:=cell_at X0.out 4
 have zx:=szs (block_lt X0.out)
 have HOB0:=Lib.hid (And.intro hO1 hO2)
 clear hw1 hf hs hin hx hb0 hO1 hO2 hbx b01
 go_enter Tryz.func35,Tryz.ntmps35
 go_wp2_with fail
 rw[←HW1.out]
 go_wp2_with fail
 refine FE.out.mono ?_
 rintro e w2 ⟨rfl,b2⟩
 clear FE
 have B2:=Lib.hid (B0.out.trans (b2.mono B0.out.size))
 have OX2:=Lib.hid ((b2.block _ (block_lt OX.out)).trans OX.out)
 by_cases hx0:x = 0
 ·subst hx0
  have FB2:=Lib.hid ((b2.block _ (block_lt X0.out)).trans X0.out)
  have BG:=Lib.hid (begin56 f w2 (FZ.out rfl).1 (FZ.out rfl).2)
  have HOB:Hid (w0.heap.size≤O∧O < w.heap.size∧O < w2.heap.size):=Lib.hid ⟨HOB0.out.1,HOB0.out.2,block_lt OX2.out⟩
  have HB2:Hid (w.heap.size < w2.heap.size):=Lib.hid (block_lt FB2.out)
  rw[HFC.out] at BG
  replace x0:=cell_kept b2 x0
  replace x1:=cell_kept b2 x1
  replace x2:=cell_kept b2 x2
  replace x3:=cell_kept b2 x3
  replace x4:=cell_kept b2 x4
  have zx2:=szs (cell_lt x0)
  clear b2 zx FZ HW1 B0 X0 OX HOB0
  go_wp2_with fail
  refine BG.out.mono ?_
  rintro e w3 ⟨L,rfl,cm3,b3⟩
  obtain ⟨sb,sp,om,um,P0⟩:=L
  have C3:=Lib.hid cm3
  have B3:=Lib.hid (B2.out.trans (b3.mono B2.out.size))
  have HZ3:=Lib.hid b3.size
  have ST:=Lib.hid (set57 ao n c F w3 (HS0.out.below B3.out) (by omega))
  have FB3:=Lib.hid ((b3.block _ (block_lt FB2.out)).trans FB2.out)
  have OX3:=Lib.hid ((b3.block _ (block_lt OX2.out)).trans OX2.out)
  replace x0:=cell_kept b3 x0
  replace x1:=cell_kept b3 x1
  replace x2:=cell_kept b3 x2
  replace x3:=cell_kept b3 x3
  replace x4:=cell_kept b3 x4
  clear BG cm3 b3 HS0 zx2 B2 FB2 OX2
  go_wp2_with fail
  refine ST.out.mono ?_
  rintro e w4 ⟨v,m,R,rfl,hR,hrow,b4⟩
  obtain ⟨a4,c4,rfl,s4⟩:=EvRow.toSl hrow
  have hmn:m≤n:=by
   have h1:=setE_len (ents F n)
   rw[←hR,ents_len,ents_len] at h1;exact h1
  have hmc:=s4.hm
  have hcc:=s4.hc
  have HG:Hid (∀ g o,a4 = some ⟨g,o,none⟩→w3.heap.size≤g∧g < w4.heap.size):=Lib.hid (fun g o h=>by subst h;exact World.ownsRow.lt hrow g rfl)
  have C4:Hid (CM w2.heap.size w4.heap.size f ⟨sb,sp,om,um,P0⟩ startS w4):=Lib.hid ((C3.out.below b4).raise b4.size (Nat.le_refl _))
  have B4:=Lib.hid (B3.out.trans (b4.mono B3.out.size))
  have FB4:=Lib.hid ((b4.block _ (block_lt FB3.out)).trans FB3.out)
  have OX4:=(b4.block _ (block_lt OX3.out)).trans OX3.out
  have J4:=Lib.hid (LK.out.start OX4 (block_lt OX4))
  have S4:=Lib.hid s4
  have HRI:Hid (∀ k,k < m→inN (R k)):=Lib.hid (fun k hk=>set_in HIN.out _ (by rw[←hR];exact mem_ents.2 ⟨k,hk,rfl⟩))
  have HRE:=Lib.hid (setE_run (f:=f) hR)
  have HRG:Hid (∀ k,k≤m→RunH f (runK f (ents R m) k) k):=Lib.hid (fun k=>by
   induction k with
   | zero=>exact fun _=>RunH.zero f _
   | succ k ih=>exact fun h=>(ih (by omega)).next (by omega) (HRI.out k (by omega)))
  have HNX:=Lib.hid (fun k (h:k < m)=>runK_next (f:=f) (R:=R) h)
  have HFO:=Lib.hid (show w2.heap.size≤w4.heap.size from Nat.le_trans HZ3.out b4.size)
  have HSZ:=Lib.hid b4.size
  have C3Z:Hid (sp < w3.heap.size∧om < w3.heap.size∧um < w3.heap.size):=Lib.hid C3.out.l0.2
  have HK0:=Lib.hid (runK_zero f (ents R m))
  have HACC:=Lib.hid (fun k=>runK_acc f (ents R m) k)
  have HLN:Hid (∀ k,k≤m→(runK f (ents R m) k).2.length≤1000):=Lib.hid (fun k hk=>by have:=runK_len f (ents R m) k;omega)
  clear ST hR hrow b4 C3 B3 s4 x0 x1 x2 x3 x4 HIN FB3 OX3 OX4
  generalize hrk:runK f (ents R m) = rk at *
  clear hrk
  go_wp2_with fail
  have hnn:∀ w',Sem.run Tryz.prog (binOp .neq 105 (.func (.func 36) #[] #[.pointer (some ⟨O,0,none⟩)]) .nilFunc) w' = .ok (.bool true) w':=fun w'=>by rfl
  go_loopw [23] (fun s23 wr=>∃ (k:Nat) (P:Nat→Nat) (v:Value),s23 = .int .i64 k∧k≤m∧Hid (CM w2.heap.size w4.heap.size f ⟨sb,sp,om,um,P⟩ (rk k).1 wr)∧Hid (J w4.heap.size v (rk k).2 wr)∧Hid (∀ g,v.ownBlock = some g→∀ i,i < (rk k).1.k→P i ≠ g)∧Hid (Below w0.heap.size w0 wr)∧Hid (EvSl wr a4 m c4 R) ∧
   Hid (wr.heap[w.heap.size]? = some (.cells #[.int .i64 f.bikes,.int .i64 f.riders,.int .i64 f.devs,.slice f.ad f.nd f.cd,.slice f.a2 f.nt f.ct] 24 (0,0)))) (fun s23 _=>m - (intOf s23).toNat)
  case atStart=>exact ⟨0,P0,v0,rfl,by omega,Lib.hid (by rw[HK0.out];exact C4.out),Lib.hid (by rw[HK0.out];exact J4.out.1),Lib.hid (fun g h=>by rw[J4.out.2] at h;cases h),B4,S4,FB4⟩
  case round =>
   obtain ⟨k,P,v,rfl,hk,hC,hj,hgp,hb,hs,hfb⟩:=hrel
   have CK:=hC
   have JV:=hj
   have GK:=hgp
   have BK:=hb
   have SK:=hs
   have FB:=hfb
   clear hC hb hs hj hgp hfb C4 B4 S4 J4 FB4
   by_cases hlt:k < m
   ·have tk:(k:Int) < (m:Int):=by omega
    obtain ⟨g,o,rfl,hg,ea⟩:=evs_at SK.out hlt
    have hgb:=HG.out g o rfl
    have zg:=szs hg
    have N1:=HNX.out k hlt
    have G1:=Lib.hid (HRG.out k (by omega))
    have I1:=HRI.out k hlt
    have hvp:(R k).place≤9223372036854775807:=(I1 _ (by simp [nums])).2
    have CE:=Lib.hid (fun w' (hb:Below wr.heap.size wr w')=>check58 f (R k) w' ((HF0.out.below BK.out).below hb) hvp)
    have CH:=Lib.hid (fun w' (hb:Below wr.heap.size wr w')=>check59 (CK.out.below hb) G1.out.inv (R k) I1)
    have DO:=Lib.hid (fun w' (hb:Below wr.heap.size wr w')=>do60 (CK.out.below hb) G1.out.inv (R k) I1)
    have FI:=Lib.hid (HF0.out.below BK.out)
    have HLK:=Lib.hid (HLN.out k (by omega))
    clear HRG HRI HNX I1 hvp HLN
    generalize hy:R k = y at *
    clear hy
    obtain ⟨v1,v2,v3,v4,v5,v6,v7,v8,v9⟩:=y
    unfold eC at CE CH DO
    dsimp only at CE CH DO
    (have y0:=(ea).c0;have y1:=(ea).c1;have y2:=(ea).c2;have y3:=(ea).c3;have y4:=(ea).c4;have y5:=(ea).c5;have y6:=(ea).c6;have y7:=(ea).c7;have y8:=(ea).c8);(try dsimp only at y0 y1 y2 y3 y4 y5 y6 y7 y8)
    have x0:=cell_at FB.out 0
    have x1:=cell_at FB.out 1
    have x2:=cell_at FB.out 2
    have x3:=cell_at FB.out 3
    have x4:=cell_at FB.out 4
    have BA:Hid (Below wr.heap.size wr (wr.alloc (.cells #[.int .i64 v1,.int .i64 v2,.int .i64 v3,.int .i64 v4,.int .i64 v5,.int .i64 v6,.int .i64 v7,.int .i64 v8,.int .i64 v9] 81))):=Lib.hid (by (repeat' (first | with_reducible (first | exact Below.refl _ _ | assumption | refine Below.drew ?_ | refine below_drewN ?_ _ | refine Below.alloc ?_ ?_ _ | refine Below.setCell ?_ ?_ _) | go_size)))
    have XA:Hid ((wr.alloc (.cells #[.int .i64 v1,.int .i64 v2,.int .i64 v3,.int .i64 v4,.int .i64 v5,.int .i64 v6,.int .i64 v7,.int .i64 v8,.int .i64 v9] 81)).heap[wr.heap.size]? = some (.cells #[.int .i64 v1,.int .i64 v2,.int .i64 v3,.int .i64 v4,.int .i64 v5,.int .i64 v6,.int .i64 v7,.int .i64 v8,.int .i64 v9] 81 (0,0))):=Lib.hid (heap_alloc_new wr _)
    obtain ⟨c,hc⟩:∃ c,c = checkE f ⟨v1,v2,v3,v4,v5,v6,v7,v8,v9⟩:=⟨_,rfl⟩
    rw[←hc] at CE
    have HCK:=Lib.hid hc
    clear hc
    have zx:=szs (cell_lt x0)
    dsimp only at zx
    go_wp2_with fail
    refine (CE.out _ BA.out).mono ?_
    rintro e w6 ⟨rfl,b6⟩
    have B6:=Lib.hid (BA.out.trans (b6.mono BA.out.size))
    have yA:=(b6.block _ (block_lt XA.out)).trans XA.out
    have y0:=cell_at yA 0
    have y1:=cell_at yA 1
    have y2:=cell_at yA 2
    have y3:=cell_at yA 3
    have y4:=cell_at yA 4
    have y5:=cell_at yA 5
    have y6:=cell_at yA 6
    have y7:=cell_at yA 7
    have y8:=cell_at yA 8
    have zy:=szs (cell_lt y0)
    have HBE:=Lib.hid (block_lt FB.out)
    dsimp only at zy
    clear CE BA XA b6 x0 x1 x2 x3 x4 zx zg
    by_cases hc0:c = 0
    ·subst hc0
     by_cases hk10:v5 = 10
     ·subst hk10
      clear CH DO FI yA
      have HS1:Hid (rk (k+1) = rk k):=Lib.hid (by rw[N1];exact step_no (.inr (.inl rfl)))
      have C5:=Lib.hid (CK.out.below B6.out)
      have J5:=Lib.hid (LK.out.off (X:=fun _=>False) JV.out (Off.of_below B6.out) (fun h=>h) (fun _ _ h=>h))
      have S5:=Lib.hid (SK.out.below B6.out)
      have F5:=Lib.hid ((B6.out.block _ (block_lt FB.out)).trans FB.out)
      have B5:=Lib.hid (BK.out.trans (B6.out.mono BK.out.size))
      go_wp2_with fail
      go_roundw
      case rel=>exact ⟨k+1,P,v,by go_num,by omega,Lib.hid (by rw[HS1.out];exact C5.out),Lib.hid (by rw[HS1.out];exact J5.out),Lib.hid (by rw[HS1.out];exact GK.out),B5,S5,F5⟩
      case measure=>simp [intOf];omega
     ·have t10:(v5 == 10) = false:=by simpa using hk10
      have CH1:=Lib.hid (CH.out w6 B6.out HCK.out.symm hk10 (FI.out.below B6.out))
      obtain ⟨q,hq⟩:∃ q,q = faultK f (rk k).1 ⟨v1,v2,v3,v4,v5,v6,v7,v8,v9⟩:=⟨_,rfl⟩
      rw[←hq] at CH1
      have HQ:=Lib.hid hq
      clear hq CH
      go_wp2_with fail
      refine CH1.out.mono ?_
      rintro e w7 ⟨rfl,b7⟩
      have B7:=Lib.hid (B6.out.trans (b7.mono B6.out.size))
      replace yA:=(b7.block _ (block_lt yA)).trans yA
      have y0:=cell_at yA 0
      have y1:=cell_at yA 1
      have y2:=cell_at yA 2
      have y3:=cell_at yA 3
      have y4:=cell_at yA 4
      have y5:=cell_at yA 5
      have y6:=cell_at yA 6
      have y7:=cell_at yA 7
      have y8:=cell_at yA 8
      clear zy
      have zy:=szs (block_lt yA)
      clear b7 B6 CH1
      by_cases hq0:q = 0
      ·subst hq0
       have DO1:=Lib.hid (DO.out w7 B7.out HCK.out.symm hk10 HQ.out.symm G1.out.wf (by have:=G1.out.few;omega))
       clear DO FI
       go_wp2_with fail
       refine DO1.out.mono ?_
       rintro e w8 ⟨P',⟨rfl,cm8,o8⟩,hP8⟩
       have HS1:Hid (rk (k+1) = (applyK (rk k).1 ⟨v1,v2,v3,v4,v5,v6,v7,v8,v9⟩,(rk k).2 ++ [⟨v1,v2,v3,v4,v5,v6,v7,v8,v9⟩])):=Lib.hid (by rw[N1];exact step_yes HCK.out.symm hk10 HQ.out.symm)
       have HL1:Hid ((if (0:Int) = 0 then (rk k).2 ++ [⟨v1,v2,v3,v4,v5,v6,v7,v8,v9⟩] else (rk k).2) = (rk (k+1)).2):=Lib.hid (by rw[HS1.out];rfl)
       have hOw:¬ Lay.own ⟨sb,sp,om,um,P⟩ (rk k).1.k O:=fun h=>by have:=CK.out.own_ge h;have:=HOB.out;omega
       have hrw:=fun g (h:v.ownBlock = some g)=>LK.out.row JV.out h
       have hgw:∀ g,v.ownBlock = some g→¬ Lay.own ⟨sb,sp,om,um,P⟩ (rk k).1.k g:=fun g h=>CK.out.own_row (hrw g h).1 (GK.out g h)
       have hxw:¬ Lay.own ⟨sb,sp,om,um,P⟩ (rk k).1.k wr.heap.size:=CK.out.own_row CK.out.hi (fun i hi=>by have:=(CK.out.pl i hi).2;omega)
       have hfw:¬ Lay.own ⟨sb,sp,om,um,P⟩ (rk k).1.k w.heap.size:=fun h=>by have:=CK.out.own_ge h;have:=HB2.out;omega
       have hl0:=CK.out.l0
       have hsw:¬ Lay.own ⟨sb,sp,om,um,P⟩ (rk k).1.k g:=fun h=>by
        have c3:=C3Z.out
        have hh:=hgb
        rcases h with e | e | e | ⟨i,hi,e⟩
        ·have e:g = sp:=e
         omega
        ·have e:g = om:=e
         omega
        ·have e:g = um:=e
         omega
        ·have:=(CK.out.pl i hi).1
         have e:g = P i:=e
         dsimp only at this
         omega
       have C5:Hid (CM w2.heap.size w4.heap.size f ⟨sb,sp,om,um,P'⟩ (rk (k+1)).1 w8):=Lib.hid (by rw[HS1.out];exact cm8)
       have J5:=Lib.hid (LK.out.off (LK.out.off (X:=fun _=>False) JV.out (Off.of_below B7.out) (fun h=>h) (fun _ _ h=>h)) o8 hOw hgw)
       have S5:=Lib.hid (Sl.off (SK.out.below B7.out) o8 (fun a ha=>by cases ha;exact hsw))
       have F5:=Lib.hid ((o8.block _ (by have:=block_lt FB.out;have:=B7.out.size;omega) hfw).trans ((B7.out.block _ (block_lt FB.out)).trans FB.out))
       have B5:=Lib.hid ((BK.out.trans (B7.out.mono BK.out.size)).trans (o8.toBelow (by have:=BK.out.size;have:=B7.out.size;omega) (fun q hq h=>by have:=CK.out.own_ge h;have:=HOB.out;omega)))
       have G5:Hid (∀ g,v.ownBlock = some g→∀ i,i < (rk (k+1)).1.k→P' i ≠ g):=Lib.hid (fun g h i hi he=>by
        rw[HS1.out] at hi
        rcases hP8 i hi with ⟨h1,h2⟩ | h2
        ·exact GK.out g h i h1 (h2.symm.trans he)
        ·have:=(hrw g h).2
         have:=B7.out.size
         omega)
       replace yA:=(o8.block _ (block_lt yA) hxw).trans yA
       have y0:=cell_at yA 0
       have y1:=cell_at yA 1
       have y2:=cell_at yA 2
       have y3:=cell_at yA 3
       have y4:=cell_at yA 4
       have y5:=cell_at yA 5
       have y6:=cell_at yA 6
       have y7:=cell_at yA 7
       have y8:=cell_at yA 8
       clear zy
       have zy:=szs (block_lt yA)
       clear DO1 o8 cm8 hP8 hOw hrw hgw hxw hfw hl0 hsw B7
       have SE:=LK.out.seen ⟨v1,v2,v3,v4,v5,v6,v7,v8,v9⟩ 0 C5.out (by rw[HL1.out];exact HACC.out (k+1)) J5.out HLK.out (fun _=>HCK.out.symm)
       rw[HL1.out] at SE
       unfold eC at SE
       dsimp only at SE
       replace SE:=Lib.hid SE
       go_wp2_with fail
       refine SE.out.mono ?_
       rintro e w9 ⟨rfl,vv,j9,g9,o9⟩
       have hOl:=HOB.out
       have hq1:=HZ3.out
       have hq2:=HSZ.out
       have hq3:=HB2.out
       have hrow:=fun g (h:v.ownBlock = some g)=>LK.out.row J5.out h
       have C9:=Lib.hid (C5.out.seen hOl.2.2 (fun g h=>(hrow g h).1) G5.out o9)
       have J9:=Lib.hid j9
       have S9:=Lib.hid (Sl.off S5.out o9 (fun a ha h=>by
        cases ha
        rcases h with h | h
        ·have h:g = O:=h
         omega
        ·have:=(hrow _ h).1
         have h3:=hgb.2
         dsimp only at this h3
         omega))
       have F9:=Lib.hid ((o9.block _ (block_lt F5.out) (fun h=>by
        rcases h with h | h
        ·have h:w.heap.size = O:=h
         omega
        ·have:=(hrow _ h).1
         omega)).trans F5.out)
       have B9:=Lib.hid (B5.out.trans (o9.toBelow B5.out.size (fun q hq h=>by
        rcases h with h | h
        ·omega
        ·have:=(hrow _ h).1
         omega)))
       have G9:Hid (∀ g,vv.ownBlock = some g→∀ i,i < (rk (k+1)).1.k→P' i ≠ g):=Lib.hid (fun g h i hi=>by
        rcases g9 g h with h2 | h2
        ·exact G5.out g h2 i hi
        ·have:=(C5.out.pl i hi).2
         dsimp only at this
         omega)
       clear SE j9 g9 o9 hrow hq1 hq2 hq3 hOl C5 J5 S5 F5 B5 G5
       go_wp2_with fail
       go_roundw
       case rel=>exact ⟨k+1,P',vv,by go_num,by omega,C9,J9,G9,B9,S9,F9⟩
       case measure=>simp [intOf];omega
      ·have tq:(q == 0) = false:=by simpa using hq0
       have HS1:Hid (rk (k+1) = rk k):=Lib.hid (by rw[N1];exact step_no (.inr (.inr (fun h=>hq0 (HQ.out.trans h)))))
       have HL1:Hid ((if q = 0 then (rk k).2 ++ [⟨v1,v2,v3,v4,v5,v6,v7,v8,v9⟩] else (rk k).2) = (rk (k+1)).2):=Lib.hid (by rw[HS1.out,if_neg hq0])
       have C5:=Lib.hid (CK.out.below B7.out)
       have J5:=Lib.hid (LK.out.off (X:=fun _=>False) JV.out (Off.of_below B7.out) (fun h=>h) (fun _ _ h=>h))
       have S5:=Lib.hid (SK.out.below B7.out)
       have F5:=Lib.hid ((B7.out.block _ (block_lt FB.out)).trans FB.out)
       have B5:=Lib.hid (BK.out.trans (B7.out.mono BK.out.size))
       replace C5:Hid (CM w2.heap.size w4.heap.size f ⟨sb,sp,om,um,P⟩ (rk (k+1)).1 w7):=Lib.hid (by rw[HS1.out];exact C5.out)
       have G5:Hid (∀ g,v.ownBlock = some g→∀ i,i < (rk (k+1)).1.k→P i ≠ g):=Lib.hid (by rw[HS1.out];exact GK.out)
       clear DO FI B7
       have SE:=LK.out.seen ⟨v1,v2,v3,v4,v5,v6,v7,v8,v9⟩ q C5.out (by rw[HL1.out];exact HACC.out (k+1)) J5.out HLK.out (fun h=>absurd h hq0)
       rw[HL1.out] at SE
       unfold eC at SE
       dsimp only at SE
       replace SE:=Lib.hid SE
       go_wp2_with fail
       refine SE.out.mono ?_
       rintro e w9 ⟨rfl,vv,j9,g9,o9⟩
       have hOl:=HOB.out
       have hq1:=HZ3.out
       have hq2:=HSZ.out
       have hq3:=HB2.out
       have hrow:=fun g (h:v.ownBlock = some g)=>LK.out.row J5.out h
       have C9:=Lib.hid (C5.out.seen hOl.2.2 (fun g h=>(hrow g h).1) G5.out o9)
       have J9:=Lib.hid j9
       have S9:=Lib.hid (Sl.off S5.out o9 (fun a ha h=>by
        cases ha
        rcases h with h | h
        ·have h:g = O:=h
         omega
        ·have:=(hrow _ h).1
         have h3:=hgb.2
         dsimp only at this h3
         omega))
       have F9:=Lib.hid ((o9.block _ (block_lt F5.out) (fun h=>by
        rcases h with h | h
        ·have h:w.heap.size = O:=h
         omega
        ·have:=(hrow _ h).1
         omega)).trans F5.out)
       have B9:=Lib.hid (B5.out.trans (o9.toBelow B5.out.size (fun q hq h=>by
        rcases h with h | h
        ·omega
        ·have:=(hrow _ h).1
         omega)))
       have G9:Hid (∀ g,vv.ownBlock = some g→∀ i,i < (rk (k+1)).1.k→P i ≠ g):=Lib.hid (fun g h i hi=>by
        rcases g9 g h with h2 | h2
        ·exact G5.out g h2 i hi
        ·have:=(C5.out.pl i hi).2
         dsimp only at this
         omega)
       clear SE j9 g9 o9 hrow hq1 hq2 hq3 hOl C5 J5 S5 F5 B5 G5
       go_wp2_with fail
       go_roundw
       case rel=>exact ⟨k+1,P,vv,by go_num,by omega,C9,J9,G9,B9,S9,F9⟩
       case measure=>simp [intOf];omega
    ·have tc:(c == 0) = false:=by simpa using hc0
     have HS1:Hid (rk (k+1) = rk k):=Lib.hid (by rw[N1];exact step_no (.inl (fun h=>hc0 (HCK.out.trans h))))
     have HL1:Hid ((if c = 0 then (rk k).2 ++ [⟨v1,v2,v3,v4,v5,v6,v7,v8,v9⟩] else (rk k).2) = (rk (k+1)).2):=Lib.hid (by rw[HS1.out,if_neg hc0])
     have C5:=Lib.hid (CK.out.below B6.out)
     have J5:=Lib.hid (LK.out.off (X:=fun _=>False) JV.out (Off.of_below B6.out) (fun h=>h) (fun _ _ h=>h))
     have S5:=Lib.hid (SK.out.below B6.out)
     have F5:=Lib.hid ((B6.out.block _ (block_lt FB.out)).trans FB.out)
     have B5:=Lib.hid (BK.out.trans (B6.out.mono BK.out.size))
     replace C5:Hid (CM w2.heap.size w4.heap.size f ⟨sb,sp,om,um,P⟩ (rk (k+1)).1 w6):=Lib.hid (by rw[HS1.out];exact C5.out)
     have G5:Hid (∀ g,v.ownBlock = some g→∀ i,i < (rk (k+1)).1.k→P i ≠ g):=Lib.hid (by rw[HS1.out];exact GK.out)
     clear CH DO FI B6
     have SE:=LK.out.seen ⟨v1,v2,v3,v4,v5,v6,v7,v8,v9⟩ c C5.out (by rw[HL1.out];exact HACC.out (k+1)) J5.out HLK.out (fun h=>absurd h hc0)
     rw[HL1.out] at SE
     unfold eC at SE
     dsimp only at SE
     replace SE:=Lib.hid SE
     go_wp2_with fail
     refine SE.out.mono ?_
     rintro e w9 ⟨rfl,vv,j9,g9,o9⟩
     have hOl:=HOB.out
     have hq1:=HZ3.out
     have hq2:=HSZ.out
     have hq3:=HB2.out
     have hrow:=fun g (h:v.ownBlock = some g)=>LK.out.row J5.out h
     have C9:=Lib.hid (C5.out.seen hOl.2.2 (fun g h=>(hrow g h).1) G5.out o9)
     have J9:=Lib.hid j9
     have S9:=Lib.hid (Sl.off S5.out o9 (fun a ha h=>by
      cases ha
      rcases h with h | h
      ·have h:g = O:=h
       omega
      ·have:=(hrow _ h).1
       have h3:=hgb.2
       dsimp only at this h3
       omega))
     have F9:=Lib.hid ((o9.block _ (block_lt F5.out) (fun h=>by
      rcases h with h | h
      ·have h:w.heap.size = O:=h
       omega
      ·have:=(hrow _ h).1
       omega)).trans F5.out)
     have B9:=Lib.hid (B5.out.trans (o9.toBelow B5.out.size (fun q hq h=>by
      rcases h with h | h
      ·omega
      ·have:=(hrow _ h).1
       omega)))
     have G9:Hid (∀ g,vv.ownBlock = some g→∀ i,i < (rk (k+1)).1.k→P i ≠ g):=Lib.hid (fun g h i hi=>by
      rcases g9 g h with h2 | h2
      ·exact G5.out g h2 i hi
      ·have:=(C5.out.pl i hi).2
       dsimp only at this
       omega)
     clear SE j9 g9 o9 hrow hq1 hq2 hq3 hOl C5 J5 S5 F5 B5 G5
     go_wp2_with fail
     go_roundw
     case rel=>exact ⟨k+1,P,vv,by go_num,by omega,C9,J9,G9,B9,S9,F9⟩
     case measure=>simp [intOf];omega
   ·obtain rfl:k = m:=by omega
    go_wp2_with fail
    go_returns
    exact ⟨BK.out,.inr ⟨HX.out.symm,sb,w4.heap.size,v,rfl,by rw[←HRE.out];exact JV.out⟩⟩
 ·have tx:(x != 0) = true:=by simpa using hx0
  go_wp2_with fail
  go_returns
  exact ⟨B2.out,.inl ⟨fun h=>hx0 (HX.out.trans h),by rw[HX.out];rfl,OX2.out⟩⟩
end Go.Proofs.YtdpoppilnokniaaGreatDoor
namespace Go.Proofs.YtdpoppilnokniaaGreatDoor
open Go.RowKit Go.ChangeShapes Go.WideShapes Go.Deep Go.Maps
set_option linter.unusedVariables false
set_option linter.unusedSimpArgs false
theorem lookA (f:Fl) (O:Nat):Look f 36 O (.slice none 0 0) 25 (Noted O) where
 off h ho h1 h2:=h.off ho h1 h2
 row h hg:=by
  obtain ⟨R,r1,r2⟩:=h.row
  exact World.ownsRow.lt r1 _ hg
 start h hl:=⟨Noted.start h hl,rfl⟩
 seen x err hC hs hJ hl hc:=by
  exact note36 _ O _ _ _ x err _ hJ hC.hi (by omega)
def AccE (f:Fl) (l:List Ev) (w:World) (e:Ending) (w':World):Prop :=
 Below w.heap.size w w'∧((fleetE f ≠ 0∧e = .returned (.tuple #[.slice none 0 0,.int .i64 (fleetE f)])) ∨
  (fleetE f = 0∧∃ (v:Value) (m:Nat) (R:Nat→Ev),e = .returned (.tuple #[v,.int .i64 0])∧EvRow w' w.heap.size v m R∧ents R m = (runE f l).2))
set_option maxRecDepth 8000 in
set_option maxHeartbeats 4000000 in
theorem accepted17 (f:Fl) (ao:Option Addr) (n c:Nat) (F:Nat→Ev) (w:World) (hf:f.In w) (hs:EvSl w ao n c F) (hn:n≤1000) (hin:∀ e∈ents F n,inN e) :
  Calls Tryz.prog 17 #[.agg f.cells,.slice ao n c] w (AccE f (ents F n) w):=by
 have B0:Hid (Below w.heap.size w ((w.alloc (.cells f.cells 24)).alloc (.cells #[.slice none 0 0] 25))):=Lib.hid (by (repeat' (first | with_reducible (first | exact Below.refl _ _ | assumption | refine Below.drew ?_ | refine below_drewN ?_ _ | refine Below.alloc ?_ ?_ _ | refine Below.setCell ?_ ?_ _) | go_size)))
 have XO:Hid (((w.alloc (.cells f.cells 24)).alloc (.cells #[.slice none 0 0] 25)).heap[w.heap.size+1]? = some (.cells #[.slice none 0 0] 25 (0,0))):=Lib.hid (by
  have h0:=heap_alloc_new (w.alloc (.cells f.cells 24)) (.cells #[.slice none 0 0] 25)
  rwa [show (w.alloc (.cells f.cells 24)).heap.size = w.heap.size+1 by simp] at h0)
 have HSZ:Hid (((w.alloc (.cells f.cells 24)).alloc (.cells #[.slice none 0 0] 25)).heap.size = w.heap.size+2):=Lib.hid (by simp)
 obtain ⟨w1,hw1⟩:∃ w1,w1 = (w.alloc (.cells f.cells 24)).alloc (.cells #[.slice none 0 0] 25):=⟨_,rfl⟩
 rw[←hw1] at B0 XO HSZ
 have HW1:=Lib.hid hw1
 have RN:=Lib.hid (runTellA f (lookA f (w.heap.size+1)) ao n c F w w1 hf hs hn hin B0.out (by omega) (by rw[HSZ.out];omega) XO.out)
 have HFC:Hid (f.cells = #[.int .i64 f.bikes,.int .i64 f.riders,.int .i64 f.devs,.slice f.ad f.nd f.cd,.slice f.a2 f.nt f.ct]):=Lib.hid rfl
 rw[HFC.out] at HW1 RN ⊢
 clear hw1 hf hs hin
 go_enter Tryz.func17,Tryz.ntmps17
 go_wp2_with fail
 rw[←HW1.out]
 go_wp2_with fail
 refine RN.out.mono ?_
 rintro e w2 ⟨b2,⟨h1,rfl,hx⟩ | ⟨h1,sb,lo,v,rfl,hJ⟩⟩
 ·have BE:=Lib.hid b2
  have H1:=Lib.hid h1
  have o0:=cell_at hx 0
  have zo:=szs (block_lt hx)
  clear RN h1 b2 hx
  go_wp2_with fail
  go_returns
  exact ⟨BE.out,.inl ⟨H1.out,rfl⟩⟩
 ·have BE:=Lib.hid b2
  have H1:=Lib.hid h1
  have o0:=cell_at hJ.box 0
  have zo:=szs (block_lt hJ.box)
  have HJ:=Lib.hid hJ
  clear RN h1 b2 hJ
  go_wp2_with fail
  go_returns
  obtain ⟨R,r1,r2⟩:=HJ.out.row
  exact ⟨BE.out,.inr ⟨H1.out,v,_,R,rfl,Row.base_mono r1 (by have:=HJ.out.apart;omega),r2⟩⟩
end Go.Proofs.YtdpoppilnokniaaGreatDoor
