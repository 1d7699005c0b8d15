/- Theorems of this seat. -/
import Derived.Test.YtdpoppilnokniaaGreatDoorWSTC
import Derived.Test.YtdpoppilnokniaaGreatDoorWDSB
import Derived.Test.YtdpoppilnokniaaGreatDoorWCMZ
import Derived.BigQuiet
import Derived.WalkLawsBesides
import Derived.BigRegion
namespace Go.Proofs.YtdpoppilnokniaaGreatDoor
open Go.RowKit Go.ChangeShapes Go.WideShapes Go.Deep Go.Maps
set_option linter.unusedVariables false
set_option linter.unusedSimpArgs false
set_option linter.unnecessarySimpa false
theorem path_mem {f:Fl}:∀ {l:List Ev}{s:CSt},Path f s l→∀ e∈l,checkE f e = 0
 | e :: l,s,h,x,hx=>by
  rcases List.mem_cons.1 hx with rfl | hx
  ·exact h.1
  ·exact path_mem h.2.2.2 x hx
theorem acc_mem (f:Fl) (l:List Ev):∀ e∈(runE f l).2,checkE f e = 0:=path_mem (run_path f l).1
theorem acc_len (f:Fl) (l:List Ev):(runE f l).2.length≤l.length:=Nat.le_trans (run_sub f l).length_le (setE_len l)
theorem acc_in (f:Fl) (l:List Ev):∀ e∈(runE f l).2,e∈l:=fun e he=>(mem_setE.1 ((run_sub f l).subset he)).1
theorem infoIn3:(Tryz.prog.info? 3).map (fun i=>(i.zero,i.size,i.bytes)) = some (some (.int .i64 0),1,8):=by kernel_rfl
theorem mkIn (n:Nat) (hn:n≤1000) (w:World):(Instr.makeSlice 22 (.int .i64 n) (.int .i64 n)).run Tryz.prog w = .ok (.slice (some ⟨w.heap.size,0,none⟩) n n) (w.alloc (.cells (madeCells #[.int .i64 0] (n * 1)) 3)):=by
 obtain ⟨i,hi,h0,h1,h2⟩:=info_parts infoIn3
 have:=run_make (P:=Tryz.prog) w 22 3 i _ Tryz.underlying22 hi h0 .i64 .i64 n n (by omega) (by omega) (by rw[h2];omega) (by omega)
 rw[h1,Int.toNat_natCast] at this
 exact this
theorem St.lower {o:StPlace}{w:World}{t:Nat}{x:Parts}(h:St o w t x) (hn:x.n = 0) (hV:∀ b,b < o.N→x.V b = -1) (hm:x.mp = fun _=>none):St o w t { x with m:=0 } :=
 {h with rid:=fun b hb=>by have:=hV b hb;show -1≤x.V b∧x.V b < (0:Int);omega,mpr:=fun z q hq=>by have hq:x.mp z = some q:=hq;rw[hm] at hq;cases hq }
structure RidesO (w:World) (base:Nat) (rv:Value) (n:Nat) (F:Nat→Rid) (L:Nat→Nat→Leg) (Q:Nat→Nat→Pau):Prop where
 row:RdR w base rv n F
 legs:∀ i,i < n→Sl w 5 (F i).la (F i).ln (F i).lc (fun j=>lgs (L i j))
 paus:∀ i,i < n→Sl w 4 (F i).pa (F i).pn (F i).pc (fun j=>pas (Q i j))
 lens:∀ i,i < n→(F i).ln≤1000∧(F i).pn≤1000
 s0:∀ i,i < n→inI (F i).s0
 pls:∀ i,i < n→inI (F i).fp∧inI (F i).pl
def AllE (f:Fl) (k:Nat) (w:World) (e:Ending) (w':World):Prop :=
 Below w.heap.size w w'∧((∃ r,r ≠ 0∧e = .returned (.tuple #[.slice none 0 0,.int .i64 r])) ∨
  ∃ rv n F0 F L Q,e = .returned (.tuple #[rv,.int .i64 0])∧RidesO w' w.heap.size rv n F L Q∧From n F0 F∧n+clo F0 n≤k∧n≤1000)
theorem sorted_rides {o:StPlace}{w w':World}{t:Nat}{x:Parts}(h:St o w t x) {F':Nat→Rid}(hF:From x.n x.F F') (hr:RdR w' o.base x.rv x.n F') (ho:Off (fun k=>x.rv.ownBlock = some k) w w'):∃ L Q,RidesO w' o.base x.rv x.n F' L Q:=by
 classical
 have ex:∀ i,∃ j,i < x.n→(j < x.n∧F' i = x.F j):=fun i=>by
  by_cases hi:i < x.n
  ·obtain ⟨j,hj⟩:=hF i hi
   exact ⟨j,fun _=>hj⟩
  ·exact ⟨0,fun hh=>absurd hh hi⟩
 let g:=fun i=>Classical.choose (ex i)
 have hg:∀ i,i < x.n→g i < x.n∧F' i = x.F (g i):=fun i hi=>Classical.choose_spec (ex i) hi
 have k:StKept o w' x (fun e=>e = 71):=by
  rcases Row.shape h.rides with ⟨e0,_⟩ | ⟨g0,c0,e0,_,_,_,_⟩
  ·have hb2:Below w.heap.size w w':=ho.toBelow (Nat.le_refl _) (fun q _ hh=>by rw[e0] at hh;simp [Value.ownBlock] at hh)
   have kk:=h.mem.below hb2
   exact ⟨fun e=>kk.box (fun h=>h),kk.map,fun e=>kk.riding (fun h=>h),fun e=>kk.spots (fun h=>h),fun e=>kk.rides (fun h=>h),fun e=>kk.paused (fun h=>h),fun e=>kk.legs (fun h=>h),fun e=>kk.pauses (fun h=>h)⟩
  ·obtain ⟨cs0,hc0⟩:=Row.typ (g:=g0) h.rides (by rw[e0];rfl)
   exact h.kept hc0 (ho.mono (fun i _ hi=>by rw[e0] at hi;have:g0 = i:=(by simpa [Value.ownBlock] using hi);exact this.symm))
 refine ⟨fun i=>x.L (g i),fun i=>x.Q (g i),hr,fun i hi=>?_,fun i hi=>?_,fun i hi=>?_,fun i hi=>?_,fun i hi=>?_⟩
 ·obtain ⟨g1,g2⟩:=hg i hi
  obtain ⟨ao,c,e,hs⟩:=Row.toSl ((k.legs (by decide)).row (g i) g1) (fun _=>rfl)
  rw[g2]
  simp only[Value.slice.injEq] at e
  obtain ⟨e1,_,e3⟩:=e
  rw[e1,e3]
  exact hs
 ·obtain ⟨g1,g2⟩:=hg i hi
  obtain ⟨ao,c,e,hs⟩:=Row.toSl ((k.pauses (by decide)).row (g i) g1) (fun _=>rfl)
  rw[g2]
  simp only[Value.slice.injEq] at e
  obtain ⟨e1,_,e3⟩:=e
  rw[e1,e3]
  exact hs
 ·obtain ⟨g1,g2⟩:=hg i hi
  have a:=h.lens (g i) g1
  have b:=h.few.1
  rw[g2];omega
 ·obtain ⟨g1,g2⟩:=hg i hi
  rw[g2];exact h.s0 (g i) g1
 ·obtain ⟨g1,g2⟩:=hg i hi
  rw[g2];exact h.pls (g i) g1
def startP (V:Nat→Int):Parts:=⟨0,.slice none 0 0,.slice none 0 0,fun _=>⟨0,0,0,0,0,0,false,none,0,0,none,0,0,0,0,0,0⟩,V,fun _=>⟨0,0,0,false⟩,fun _ _=>⟨0,0,0,0,0⟩,fun _ _=>⟨0,0,0,0⟩,fun _=>false,fun _=>none,0,1⟩
theorem St.start {w2 w4 w5:World}{N qm qi qs:Nat}(hb:Below w2.heap.size w2 w4) (h1:w2.heap.size≤qm∧w2.heap.size≤qi∧w2.heap.size≤qs) (hm:w4.heap[qm]? = some (.map #[] 0)) (hi:w4.heap[qi]? = some (.cells (madeCells #[.int .i64 0] (N * 1)) 3 (0,0))) (hs:w4.heap[qs]? = some (.cells (madeCells #[.int .i64 0,.int .i64 0,.int .i64 0,.bool false] (N * 4)) 112 (0,0)))
  (h5:w5 = w4.alloc (.cells #[.slice none 0 0,.map (some qm),.slice (some ⟨qi,0,none⟩) N N,.slice none 0 0,.slice (some ⟨qs,0,none⟩) N N] 79)) (hN:N≤1000):St ⟨w2.heap.size,w4.heap.size,qm,qi,qs,N⟩ w5 0 (startP (fun _=>0)):=by
 subst h5
 have bb:Below w4.heap.size w4 (w4.alloc (.cells #[.slice none 0 0,.map (some qm),.slice (some ⟨qi,0,none⟩) N N,.slice none 0 0,.slice (some ⟨qs,0,none⟩) N N] 79)):=(Below.refl _ _).alloc (Nat.le_refl _) _
 have kb:∀ {b:Nat} {ob:Obj},w4.heap[b]? = some ob→(w4.alloc (.cells #[.slice none 0 0,.map (some qm),.slice (some ⟨qi,0,none⟩) N N,.slice none 0 0,.slice (some ⟨qs,0,none⟩) N N] 79)).heap[b]? = some ob:=fun h=>(bb.block _ (block_lt h)).trans h
 exact
 {box:=heap_alloc_new w4 _
  lo:=⟨hb.size,h1.1⟩
  map:=⟨.map [],ownsMap_of_empty _ _ (kb hm),isMap_empty,fun x=>⟨rfl,rfl⟩⟩
  riding:=Row.congr (Row.of_made rfl (by decide) (kb hi) h1.2.1 (by unfold maxLen;dsimp only;omega)) (fun j _=>rfl)
  spots:=Row.congr (Row.of_made rfl (by decide) (kb hs) h1.2.2 (by unfold maxLen;dsimp only;omega)) (fun j _=>rfl)
  rides:=⟨rfl,.inl ⟨rfl,rfl⟩⟩
  paused:=⟨rfl,.inl ⟨rfl,rfl⟩⟩
  legs:=Fam.none
  pauses:=Fam.none
  lens:=fun i hi=>absurd hi (by show ¬ i < 0;omega)
  bike:=fun i hi=>absurd hi (by show ¬ i < 0;omega)
  rid:=fun b hb=>⟨by show (-1:Int)≤0;omega,by show (0:Int) < 1;omega⟩
  mpr:=fun z q hq=>by have hq:(none:Option Int) = some q:=hq;cases hq
  cnt:=⟨Nat.le_refl _,Nat.le_refl _⟩
  s0:=fun i hi=>absurd hi (by show ¬ i < 0;omega)
  pls:=fun i hi=>absurd hi (by show ¬ i < 0;omega)
  spp:=fun b hb=>⟨by show (-9223372036854775808:Int)≤0;omega,by show (0:Int)≤_;omega⟩
  few:=⟨by omega,hN⟩ }
set_option maxRecDepth 8000 in
set_option maxHeartbeats 16000000 in
theorem all7 (f:Fl) (ao:Option Addr) (n c:Nat) (F:Nat→Ev) (w:World) (hf:f.In w) (hs:EvSl w ao n c F) (hn:n < 1000) (hin:∀ e∈ents F n,inN e) :
  Calls Tryz.prog 7 #[.agg f.cells,.slice ao n c] w (AllE f n w):=by
 have B0:Hid (Below w.heap.size w (w.alloc (.cells f.cells 24))):=Lib.hid (by (repeat' (first | with_reducible (first | exact Below.refl _ _ | assumption | refine Below.drew ?_ | refine below_drewN ?_ _ | refine Below.alloc ?_ ?_ _ | refine Below.setCell ?_ ?_ _) | go_size)))
 have X0:Hid ((w.alloc (.cells f.cells 24)).heap[w.heap.size]? = some (.cells f.cells 24 (0,0))):=Lib.hid (heap_alloc_new w _)
 obtain ⟨w1,hw1⟩:∃ w1,w1 = w.alloc (.cells f.cells 24):=⟨_,rfl⟩
 rw[←hw1] at B0 X0
 have HW1:=Lib.hid hw1
 clear hw1
 have HFC:Hid (f.cells = #[.int .i64 f.bikes,.int .i64 f.riders,.int .i64 f.devs,.slice f.ad f.nd f.cd,.slice f.a2 f.nt f.ct]):=Lib.hid rfl
 have HACC:=Lib.hid (accepted17 f ao n c F w1 (hf.below B0.out) (hs.below B0.out) (by omega) hin)
 have HIN:=Lib.hid hin
 clear hf hs hin
 rw[HFC.out] at X0 HW1 HACC ⊢
 have x0:=cell_at X0.out 0
 have x1:=cell_at X0.out 1
 have x2:=cell_at X0.out 2
 have x3:=cell_at X0.out 3
 have x4:=cell_at X0.out 4
 have zx:=szs (block_lt X0.out)
 go_enter Tryz.func7,Tryz.ntmps7
 go_simp
 ((repeat ((fail_if_success (rw[←HW1.out]));go_step));rw[←HW1.out])
 go_wp2_with fail
 refine HACC.out.mono ?_
 rintro e w2 ⟨b2,⟨hne,rfl⟩ | ⟨h0,v,m,R,rfl,hR,hents⟩⟩
 ·have t1:(fleetE f != 0) = true:=by simp [hne]
  have B2:=Lib.hid (B0.out.trans (b2.mono B0.out.size))
  clear b2
  go_wp2_with fail
  go_returns
  exact ⟨B2.out,.inl ⟨_,hne,rfl⟩⟩
 ·have t1:(fleetE f != 0) = false:=by simp [h0]
  have B2:=Lib.hid (B0.out.trans (b2.mono B0.out.size))
  have X0b:=Lib.hid ((b2.block _ (block_lt X0.out)).trans X0.out)
  have hbk:1≤f.bikes∧f.bikes≤128:=by
   unfold fleetE at h0
   split at h0
   ·omega
   ·rename_i hb
    simp only[Bool.not_eq_false,Bool.and_eq_true,inB,decide_eq_true_eq] at hb
    omega
  obtain ⟨N,hN⟩:=Int.eq_ofNat_of_zero_le (show 0≤f.bikes by omega)
  have hN1:N≤128:=by omega
  have HNN:=Lib.hid hN
  have HR:=Lib.hid hR
  have HE:=Lib.hid hents
  obtain ⟨ra,rc,erv,hsl⟩:=EvRow.toSl hR
  have HSL:=Lib.hid hsl
  have hmn:m≤n:=by
   have h1:=ents_len R m
   rw[hents] at h1
   have h2:=acc_len f (ents F n)
   rw[ents_len] at h2
   omega
  subst erv
  rw[hN] at X0b ⊢
  have hMI:=mkIn N (by omega)
  have hMS:=mkSp N hN1
  have hmm:=@run_makeMap Tryz.prog
  obtain ⟨MI,hmi⟩:∃ MI,MI = madeCells #[.int .i64 0] (N * 1):=⟨_,rfl⟩
  obtain ⟨MS,hms⟩:∃ MS,MS = madeCells #[.int .i64 0,.int .i64 0,.int .i64 0,.bool false] (N * 4):=⟨_,rfl⟩
  rw[←hmi] at hMI
  rw[←hms] at hMS
  have HMI:=Lib.hid hmi
  have HMS:=Lib.hid hms
  clear hmi hms hN hR hents hsl b2 x0 x1 x2 x3 x4 zx h0 hbk B0 X0 HW1 HACC
  have x0:=cell_at X0b.out 0
  have zx:=szs (block_lt X0b.out)
  go_wp2_with fail
  (obtain ⟨ι,hne,Fw,fb,hF⟩:=grow_family w2);have hF:∀ w',(gPlan w2 (fun _=>undef) [] [] []).D () w'→∃ i,w' = Fw i:=hF
  have f0:=fun i=>cell_kept (fb i) x0
  refine region_chain (gPlan w2 (fun _=>undef) [] [(0,fun b=>.map (some b),.map #[] 0),(3,fun b=>.slice (some ⟨b,0,none⟩) N N,.cells MI 3),(6,fun b=>.slice (some ⟨b,0,none⟩) N N,.cells MS 112)] []) () [] [0,1,2,3,4,5,6] [7,8,9] mixed (by kernel_rfl) (by kernel_rfl) (gPlan_ok (by simp) (by simp)) (gPlan_start _ _ _ _ _) ?_
  refine wpPure_nil ?_
  simp only[List.map_cons,List.map_nil,Array.getD_eq_getD_getElem?,List.getElem?_toArray,List.getElem?_cons_zero,List.getElem?_cons_succ,Option.getD_some]
  (refine wpChain_alloc _ _ rfl (List.mem_cons_self ..) rfl (fun w'=>by go_simp) (fun qm hqm=>?_);simp only[Act.put,List.setIfInBounds_toArray,List.set_cons_succ,List.set_cons_zero])
  (repeat (refine wpChain_quiet hF rfl rfl rfl ?_;intro K hK;go_big_quiet_op;go_big_quiet_on))
  (refine wpChain_alloc _ _ rfl (List.mem_cons_of_mem _ (List.mem_cons_self ..)) rfl (fun w'=>by go_simp) (fun qi hqi=>?_);simp only[Act.put,List.setIfInBounds_toArray,List.set_cons_succ,List.set_cons_zero])
  (repeat (refine wpChain_quiet hF rfl rfl rfl ?_;intro K hK;go_big_quiet_op;go_big_quiet_on))
  (refine wpChain_alloc _ _ rfl (List.mem_cons_of_mem _ (List.mem_cons_of_mem _ (List.mem_cons_self ..))) rfl (fun w'=>by go_simp) (fun qs hqs=>?_);simp only[Act.put,List.setIfInBounds_toArray,List.set_cons_succ,List.set_cons_zero])
  (repeat (first | (refine wpChain_skip rfl ?_;simp only[Act.put,List.setIfInBounds_toArray,List.set_cons_succ,List.set_cons_zero]) | (refine wpChain_quiet hF rfl rfl rfl ?_;intro K hK;go_big_quiet_op;go_big_quiet_on) | (refine wpChain_pure _ rfl rfl (fun w' _=>by go_simp;try rfl) ?_;simp only[Act.put,List.setIfInBounds_toArray,List.set_cons_succ,List.set_cons_zero])))
  refine wpChain_nil (fun w4 hb4 hl4=>?_)
  have hxm:w4.heap[qm]? = some (.map #[] 0):=(hl4.2 (0,qm,.map #[] 0) (by simp)).2
  have hxi:w4.heap[qi]? = some (.cells MI 3):=(hl4.2 (3,qi,.cells MI 3) (by simp)).2
  have hxs:w4.heap[qs]? = some (.cells MS 112):=(hl4.2 (6,qs,.cells MS 112) (by simp)).2
  have gm:w2.heap.size≤qm:=(hl4.2 (0,qm,.map #[] 0) (by simp)).1
  have gi:w2.heap.size≤qi:=(hl4.2 (3,qi,.cells MI 3) (by simp)).1
  have gs:w2.heap.size≤qs:=(hl4.2 (6,qs,.cells MS 112) (by simp)).1
  have hb4':Below w2.heap.size w2 w4:=hb4
  rw[HMI.out] at hxi
  rw[HMS.out] at hxs
  obtain ⟨w5,hw5⟩:∃ w5,w5 = w4.alloc (.cells #[.slice none 0 0,.map (some qm),.slice (some ⟨qi,0,none⟩) N N,.slice none 0 0,.slice (some ⟨qs,0,none⟩) N N] 79):=⟨_,rfl⟩
  have S5:=Lib.hid (St.start hb4' ⟨gm,gi,gs⟩ hxm hxi hxs hw5 (by omega))
  have B5:Hid (Below w2.heap.size w2 w5):=Lib.hid (hb4'.trans (by rw[hw5];exact ((Below.refl w4.heap.size w4).alloc (Nat.le_refl _) _).mono hb4'.size))
  have HW5:=Lib.hid hw5
  obtain ⟨sb,hsb⟩:∃ sb,sb = w4.heap.size:=⟨_,rfl⟩
  rw[←hsb] at S5
  have HSB:=Lib.hid hsb
  clear hw5 hsb hxm hxi hxs gm gi gs hb4 hb4' hl4 hF fb hne f0 hqm hqi hqs x0 zx hMI hMS hmm HMI HMS
  have s2:=cell_at S5.out.box 2
  have zs:=szs (block_lt S5.out.box)
  dsimp only at s2 zs
  go_wp2_with fail
  refine onlyN_intro ?_
  rw[←HW5.out,←HSB.out]
  clear HW5 HSB
  go_wp2_with fail
  go_loopw [35] (fun s wr=>∃ (i:Nat) (V:Nat→Int),s = .int .i64 i∧i≤N∧Hid (St ⟨w2.heap.size,sb,qm,qi,qs,N⟩ wr 0 (startP V)∧(∀ j,j < i→V j = -1)∧Below w2.heap.size w2 wr)) (fun s _=>N - (intOf s).toNat)
  case atStart=>exact ⟨0,fun _=>0,rfl,Nat.zero_le _,Lib.hid ⟨S5.out,fun j hj=>absurd hj (Nat.not_lt_zero _),B5.out⟩⟩
  case round =>
   obtain ⟨i,V,rfl,hi,hrel⟩:=hrel
   have HL:=hrel
   clear hrel s2 zs S5 B5
   by_cases hlt:i < N
   ·have t2:decide ((i:Int) < (N:Int)) = true:=decide_eq_true (by omega)
    have hiI:(i:Int) < (N:Int):=by omega
    have s2:=cell_at HL.out.1.box 2
    have zs:=szs (block_lt HL.out.1.box)
    have v0:wr.cell? ⟨qi,i * 1+0,none⟩ = some (.int .i64 (V i)):=Row.cell HL.out.1.riding (fun i=>rfl) hlt (j:=0) (by decide)
    rw[Nat.mul_one,Nat.add_zero] at v0
    have frg:=fun i=>Row.free HL.out.1.riding i
    have hqB:=World.ownsRow.lt HL.out.1.riding qi rfl
    have zg:=szs hqB.2
    dsimp only at s2 zs frg
    have HN:Hid (St ⟨w2.heap.size,sb,qm,qi,qs,N⟩ (wr.setCell ⟨qi,i,none⟩ (.int .i64 (-1))) 0 (startP (upd V i (-1)))∧(∀ j,j < i+1→upd V i (-1) j = -1)∧Below w2.heap.size w2 (wr.setCell ⟨qi,i,none⟩ (.int .i64 (-1)))):=Lib.hid ⟨HL.out.1.setV hlt (k:=-1) ⟨by omega,by show (-1:Int) < 1;omega⟩,fun j hj=>by
     by_cases e:j = i
     ·subst e;rw[upd_same]
     ·rw[upd_ne e];exact HL.out.2.1 j (by omega),HL.out.2.2.trans ((off_set (g:=qi)).toBelow HL.out.2.2.size (fun q hq e=>by have e:q = qi:=e;have:=hqB.1;dsimp only at this;omega))⟩
    clear hqB
    go_wp2_with fail
    go_roundw
    case rel=>exact ⟨i+1,upd V i (-1),by go_num,by omega,HN⟩
    case measure=>simp [intOf] <;> omega
   ·have t2:decide ((i:Int) < (N:Int)) = false:=decide_eq_false (by omega)
    obtain rfl:i = N:=by omega
    have S6:=Lib.hid (HL.out.1.lower rfl HL.out.2.1 rfl)
    have B6:=Lib.hid HL.out.2.2
    clear HL hlt
    go_wp2_with fail
    go_loopw [47] (fun s wr=>∃ (j:Nat) (x:Parts),s = .int .i64 j∧j≤m∧Hid (x.m = x.n∧St ⟨w2.heap.size,sb,qm,qi,qs,i⟩ wr j x∧Below w2.heap.size w2 wr)) (fun s _=>m - (intOf s).toNat)
    case atStart=>exact ⟨0,_,rfl,Nat.zero_le _,Lib.hid ⟨rfl,S6.out,B6.out⟩⟩
    case round =>
     obtain ⟨j,x,rfl,hj,hrel⟩:=hrel
     have HT:=hrel
     clear hrel S6 B6
     by_cases hjm:j < m
     ·have t3:decide ((j:Int) < (m:Int)) = true:=decide_eq_true (by omega)
      obtain ⟨v,hv⟩:∃ v,v = R j:=⟨_,rfl⟩
      have hmem:R j∈(runE f (ents F n)).2:=by rw[←HE.out];exact mem_ents.2 ⟨j,hjm,rfl⟩
      have hbk:=bike_in (acc_mem f (ents F n) _ hmem)
      have hinv:=HIN.out _ (acc_in f (ents F n) _ hmem)
      rw[←hv] at hbk hinv
      rw[HNN.out] at hbk
      have hat:inI v.at'∧inI v.place:=⟨hinv _ (by simp [nums]),hinv _ (by simp [nums])⟩
      have hwf:(Lit.int .i64 v.ride).wf = true:=WalkArith.wf_i64 (hinv _ (by simp [nums]))
      obtain ⟨g,o2,e9,hcell⟩:=(HSL.out.below HT.out.2.2).cell hjm
      try dsimp only at e9 hcell
      rw[←hv] at hcell
      subst e9
      obtain ⟨v1,v2,v3,v4,v5,v6,v7,v8,v9⟩:=v
      obtain ⟨cb,hcb⟩:=Int.eq_ofNat_of_zero_le hbk.1
      try dsimp only at hcb hbk
      have hcN:cb < i:=by omega
      have e0:wr.cell? ⟨g,o2+j * 9,none⟩ = some (.int .i64 v1):=hcell 0 (by decide)
      have e1:wr.cell? ⟨g,o2+j * 9+1,none⟩ = some (.int .i64 v2):=hcell 1 (by decide)
      have e2:wr.cell? ⟨g,o2+j * 9+2,none⟩ = some (.int .i64 v3):=hcell 2 (by decide)
      have e3:wr.cell? ⟨g,o2+j * 9+3,none⟩ = some (.int .i64 v4):=hcell 3 (by decide)
      have e4:wr.cell? ⟨g,o2+j * 9+4,none⟩ = some (.int .i64 v5):=hcell 4 (by decide)
      have e5:wr.cell? ⟨g,o2+j * 9+5,none⟩ = some (.int .i64 v6):=hcell 5 (by decide)
      have e6:wr.cell? ⟨g,o2+j * 9+6,none⟩ = some (.int .i64 v7):=hcell 6 (by decide)
      have e7:wr.cell? ⟨g,o2+j * 9+7,none⟩ = some (.int .i64 v8):=hcell 7 (by decide)
      have e8:wr.cell? ⟨g,o2+j * 9+8,none⟩ = some (.int .i64 v9):=hcell 8 (by decide)
      have zg:=szs (cell_lt e0)
      have BN:Hid (Below wr.heap.size wr (wr.alloc (.cells #[.int .i64 v1,.int .i64 v2,.int .i64 v3,.int .i64 v4,.int .i64 v5,.int .i64 v6,.int .i64 v7,.int .i64 v8,.int .i64 v9] 81))):=Lib.hid (by (repeat' (first | with_reducible (first | exact Below.refl _ _ | assumption | refine Below.drew ?_ | refine below_drewN ?_ _ | refine Below.alloc ?_ ?_ _ | refine Below.setCell ?_ ?_ _) | go_size)))
      have XN:=Lib.hid (al_at wr (.cells #[.int .i64 v1,.int .i64 v2,.int .i64 v3,.int .i64 v4,.int .i64 v5,.int .i64 v6,.int .i64 v7,.int .i64 v8,.int .i64 v9] 81) rfl)
      obtain ⟨wn,hwn⟩:∃ wn,wn = wr.alloc (.cells #[.int .i64 v1,.int .i64 v2,.int .i64 v3,.int .i64 v4,.int .i64 v5,.int .i64 v6,.int .i64 v7,.int .i64 v8,.int .i64 v9] 81):=⟨_,rfl⟩
      rw[←hwn] at BN XN
      have HWN:=Lib.hid hwn
      have HCB:=Lib.hid hcb
      have SN:=Lib.hid (HT.out.2.1.below BN.out)
      have BB2:=Lib.hid (HT.out.2.2.trans (BN.out.mono HT.out.2.2.size))
      have HXM:=Lib.hid HT.out.1
      have n0:=cell_at XN.out 0
      have n1:=cell_at XN.out 1
      have n2:=cell_at XN.out 2
      have n3:=cell_at XN.out 3
      have n4:=cell_at XN.out 4
      have n5:=cell_at XN.out 5
      have n6:=cell_at XN.out 6
      have n7:=cell_at XN.out 7
      have n8:=cell_at XN.out 8
      have zn:=szs (block_lt XN.out)
      clear hwn hcb hcell hv hmem hbk hinv HT
      go_simp
      ((repeat ((fail_if_success (rw[←HWN.out]));go_step));rw[←HWN.out])
      clear e0 e1 e2 e3 e4 e5 e6 e7 e8 zg HWN
      go_wp2_with fail
      refine (tell18 ⟨w2.heap.size,sb,qm,qi,qs,i⟩ wn j x cb ⟨v1,v2,v3,v4,v5,v6,v7,v8,v9⟩ SN.out HXM.out HCB.out hcN (by omega) hwf hat).mono ?_
      rintro e w8 ⟨rfl,b8,x8,hx8,h8⟩
      have HT8:=Lib.hid (And.intro hx8 (And.intro h8 (BB2.out.trans b8)))
      clear hx8 h8 b8 SN HXM BB2 BN XN n0 n1 n2 n3 n4 n5 n6 n7 n8 zn hat hwf HCB hcN
      go_wp2_with fail
      go_roundw
      case rel=>exact ⟨_,_,⟨j+1,by go_num,by omega,x8,HT8⟩,_,_,_,_,_,_,_,rfl⟩
      case measure=>simp [intOf] <;> omega
     ·have t3:decide ((j:Int) < (m:Int)) = false:=decide_eq_false (by omega)
      obtain rfl:j = m:=by omega
      have s0:=cell_at HT.out.2.1.box 0
      have zs:=szs (block_lt HT.out.2.1.box)
      try dsimp only at s0 zs
      have hxn:x.n≤1000:=by have a1:=HT.out.2.1.cnt.1;have a2:=HT.out.2.1.few.1;omega
      go_wp2_with fail
      refine (sort19 w2.heap.size x.n x.rv x.F wr HT.out.2.1.rides hxn).mono ?_
      rintro e w8 ⟨rfl,F8,hF8,hr8,ho8⟩
      have hnS:¬ x.rv.ownBlock = some sb:=fun e=>by
       obtain ⟨cs,hcs⟩:=Row.typ HT.out.2.1.rides e
       have hbx:=HT.out.2.1.box
       dsimp only at hbx
       rw[hbx] at hcs
       simp at hcs
      have hb8:=(ho8.block _ (block_lt HT.out.2.1.box) hnS).trans HT.out.2.1.box
      obtain ⟨L8,Q8,hR8⟩:=sorted_rides HT.out.2.1 hF8 hr8 ho8
      have B8:Below w.heap.size w w8:=B2.out.trans ((HT.out.2.2.trans (ho8.toBelow HT.out.2.2.size (fun q hq e=>by have:=(World.ownsRow.lt HT.out.2.1.rides q e).1;dsimp only at this;omega))).mono B2.out.size)
      have hcn:=HT.out.2.1.cnt.1
      have FIN:Hid (AllE f n w (.returned (.tuple #[x.rv,.int .i64 0])) w8):=Lib.hid ⟨B8,.inr ⟨x.rv,x.n,x.F,F8,L8,Q8,rfl,⟨Row.base_mono hR8.row B2.out.size,hR8.legs,hR8.paus,hR8.lens,hR8.s0,hR8.pls⟩,hF8,by omega,hxn⟩⟩
      have s0b:=cell_at hb8 0
      have zs8:=szs (block_lt hb8)
      try dsimp only at s0b zs8
      clear hb8 hR8 hr8 ho8 hF8 s0 zs HT hnS B8 hcn
      go_wp2_with fail
      go_returns
      exact FIN.out
end Go.Proofs.YtdpoppilnokniaaGreatDoor
