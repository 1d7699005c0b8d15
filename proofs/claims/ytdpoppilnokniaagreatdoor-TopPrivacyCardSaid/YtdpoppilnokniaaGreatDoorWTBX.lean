/- Theorems of this seat. -/
import Derived.Test.YtdpoppilnokniaaGreatDoorWTB2
import Derived.Test.YtdpoppilnokniaaGreatDoorWFLD
namespace Go.Proofs.YtdpoppilnokniaaGreatDoor
open Go.RowKit Go.ChangeShapes Go.WideShapes Go.Deep
set_option linter.unusedVariables false
set_option linter.unusedSimpArgs false
set_option linter.unnecessarySimpa false
def TblP (Z:Nat→Int) (zn:Nat) (size f t each:Int) (n:Nat) (F:Nat→Rid) (L:Nat→Nat→Leg) (Q:Nat→Nat→Pau) (base:Nat) (a b:Int) (v:Value) (r:Int) (w':World):Prop :=
 (r = 0↔TabOk Z zn size f t each n F L Q∧each ≠ 0)∧(r = 0→a = size∧b = size∧Row w' base 3 1 v (size.toNat * size.toNat) (nuR (fun q=>(cellN Z zn size each f t F n n q:Int))))∧(r ≠ 0→a = 0∧b = 0∧v = .slice none 0 0)
set_option maxRecDepth 8000 in
set_option maxHeartbeats 16000000 in
theorem table22 (zo:Option Addr) (zn zc:Nat) (Z:Nat→Int) (size:Int) (ro:Option Addr) (n c:Nat) (F:Nat→Rid) (L:Nat→Nat→Leg) (Q:Nat→Nat→Pau) (f t each:Int) (w:World) (hz:Sl w 1 zo zn zc (nuR Z)) (h:RdsIn w ro n c F L Q) (hn:n≤1000) (hp:∀ i,i < n→inI (F i).fp∧inI (F i).pl) (hao:∀ a,ro = some a→a.block < w.heap.size) :
  Calls Tryz.prog 22 #[.slice zo zn zc,.int .i64 size,.slice ro n c,.agg #[.int .i64 f,.int .i64 t],.int .i64 each] w fun e w'=>(∃ (a b:Int) (v:Value) (r:Int),e = .returned (.tuple #[.agg #[.int .i64 a,.int .i64 b,v],.int .i64 r])∧TblP Z zn size f t each n F L Q w.heap.size a b v r w')∧Below w.heap.size w w':=by
 have B0:Hid (Below w.heap.size w (w.alloc (.cells #[.int .i64 f,.int .i64 t] 27))):=Lib.hid (by (repeat' (first | with_reducible (first | exact Below.refl _ _ | assumption | refine Below.drew ?_ | refine below_drewN ?_ _ | refine Below.alloc ?_ ?_ _ | refine Below.setCell ?_ ?_ _) | go_size)));have X0:=Lib.hid (al_at w (.cells #[.int .i64 f,.int .i64 t] 27) rfl);obtain ⟨w1,hw0⟩:∃ w1,w1 = w.alloc (.cells #[.int .i64 f,.int .i64 t] 27):=⟨_,rfl⟩;rw[←hw0] at B0 X0;have HW0:=Lib.hid hw0;clear hw0;have z0:=szs (block_lt X0.out);skip
 have B1:Hid (Below w1.heap.size w1 (w1.alloc (.cells #[.int .i64 0,.int .i64 0,.slice none 0 0] 37))):=Lib.hid (by (repeat' (first | with_reducible (first | exact Below.refl _ _ | assumption | refine Below.drew ?_ | refine below_drewN ?_ _ | refine Below.alloc ?_ ?_ _ | refine Below.setCell ?_ ?_ _) | go_size)));have X1:=Lib.hid (al_at w1 (.cells #[.int .i64 0,.int .i64 0,.slice none 0 0] 37) rfl);obtain ⟨w2,hw1⟩:∃ w2,w2 = w1.alloc (.cells #[.int .i64 0,.int .i64 0,.slice none 0 0] 37):=⟨_,rfl⟩;rw[←hw1] at B1 X1;have HW1:=Lib.hid hw1;clear hw1;have z1:=szs (block_lt X1.out);skip
 have s1:w1.heap.size = w.heap.size+1:=by rw[HW0.out];simp
 rw[s1] at X1
 have HS:=Lib.hid s1
 have BB:=Lib.hid (B0.out.trans (B1.out.mono B0.out.size))
 have X0':=Lib.hid ((B1.out.block _ (by omega)).trans X0.out)
 have CT:=Lib.hid (Table12 zo zn zc Z size ro n c F L Q f t each w2 (hz.below BB.out) (h.below BB.out) hn hp (fun a ha=>Nat.lt_of_lt_of_le (hao a ha) BB.out.size))
 clear hz h hp hao s1
 have x0:=cell_at X0'.out 0
 have x1:=cell_at X0'.out 1
 have zx:=szs (block_lt X0'.out)
 go_enter Tryz.func22,Tryz.ntmps22
 go_simp
 ((repeat ((fail_if_success (rw[←HW0.out]));go_step));rw[←HW0.out])
 go_simp
 ((repeat ((fail_if_success (rw[←HW1.out]));go_step));rw[←HW1.out])
 rw[HS.out]
 clear HW0 HW1 HS z0 z1 B0 B1 X0
 go_wp2_with fail
 refine CT.out.mono ?_
 rintro e w3 ⟨⟨a,b,v,r,rfl,hr1,hr2,hr3⟩,b3⟩
 have X13:=Lib.hid ((b3.block _ (block_lt X1.out)).trans X1.out)
 have BB3:=Lib.hid (BB.out.trans (b3.mono BB.out.size))
 have HR:=Lib.hid hr1
 have X1S:=Lib.hid X1.out
 clear x0 x1 zx CT X1 X0' b3
 by_cases h0:r = 0
 ·subst h0
  obtain ⟨ha,hb,hrow⟩:=hr2 rfl
  rw[ha,hb]
  clear ha hb
  have HTO:=Lib.hid (hr1.1 rfl)
  obtain ⟨vo,vc,rfl,hsl⟩:=Row.toSl hrow (fun _=>rfl)
  have HR3:=Lib.hid (Row.base_mono hrow (show w.heap.size+2≤w2.heap.size from block_lt X1S.out))
  clear hr1 hr2 hr3 hsl hrow BB
  obtain ⟨p,hpp⟩:∃ p,p = size.toNat * size.toNat:=⟨_,rfl⟩
  rw[←hpp] at HR3 ⊢
  have HPP:=Lib.hid hpp
  clear hpp
  have B4:Hid (Below w3.heap.size w3 (w3.alloc (.cells #[.int .i64 size,.int .i64 size,.slice vo p vc] 37))):=Lib.hid (by (repeat' (first | with_reducible (first | exact Below.refl _ _ | assumption | refine Below.drew ?_ | refine below_drewN ?_ _ | refine Below.alloc ?_ ?_ _ | refine Below.setCell ?_ ?_ _) | go_size)));have X4:=Lib.hid (al_at w3 (.cells #[.int .i64 size,.int .i64 size,.slice vo p vc] 37) rfl);obtain ⟨w4,hw4⟩:∃ w4,w4 = w3.alloc (.cells #[.int .i64 size,.int .i64 size,.slice vo p vc] 37):=⟨_,rfl⟩;rw[←hw4] at B4 X4;have HW4:=Lib.hid hw4;clear hw4;have z4:=szs (block_lt X4.out);have x4_0:=cell_at X4.out 0;have x4_1:=cell_at X4.out 1;have x4_2:=cell_at X4.out 2
  have X14:=Lib.hid ((B4.out.block _ (block_lt X13.out)).trans X13.out)
  have BB4:=Lib.hid (BB3.out.trans (B4.out.mono BB3.out.size))
  have HR4:=Lib.hid (Row.off (X:=fun _=>False) HR3.out (Off.of_below B4.out) (fun _ _ h=>h))
  have y0:=cell_at X14.out 0
  have y1:=cell_at X14.out 1
  have y2:=cell_at X14.out 2
  have fr:=fun j=>free_at X14.out j
  have zy:=szs (block_lt X14.out)
  by_cases he:each = 0
  ·have te:(each == 0) = true:=by simp [he]
   have HE:=Lib.hid he
   clear he
   go_simp
   ((repeat ((fail_if_success (rw[←HW4.out]));go_step));rw[←HW4.out])
   clear HW4
   go_wp2_with fail
   show bodyPost _ _ _ Exit.ret _ _
   have KZ:=put3 X14.out (.int .i64 0) (.int .i64 0) (.slice none 0 0)
   have OZ:=BB4.out.trans ((off3 w4 (w.heap.size+1) (.int .i64 0) (.int .i64 0) (.slice none 0 0)).toBelow BB4.out.size (fun q hq h=>by have h:q = w.heap.size+1:=h;omega))
   clear y0 y1 y2 fr zy
   generalize World.setCell (World.setCell (World.setCell w4 _ _) _ _) _ _ = w9 at *
   have k0:=cell_at KZ 0
   have k1:=cell_at KZ 1
   have k2:=cell_at KZ 2
   have zk:=szs (block_lt KZ)
   exact bodyPost_ret (v:=.tuple #[.agg #[.int .i64 0,.int .i64 0,.slice none 0 0],.int .i64 1]) (by simp [results,Tryz.results22,go_sem,k0,k1,k2]) rfl ⟨⟨_,_,_,_,rfl,⟨⟨fun e=>by omega,fun e=>absurd HE.out e.2⟩,fun e=>by omega,fun _=>⟨rfl,rfl,rfl⟩⟩⟩,OZ⟩
  ·have te:(each == 0) = false:=by simp [he]
   have HE:=Lib.hid he
   clear he
   go_simp
   ((repeat ((fail_if_success (rw[←HW4.out]));go_step));rw[←HW4.out])
   clear HW4
   go_wp2_with fail
   show bodyPost _ _ _ Exit.ret _ _
   have KZ:=put3 X14.out (.int .i64 size) (.int .i64 size) (.slice vo p vc)
   have O9:=off3 w4 (w.heap.size+1) (.int .i64 size) (.int .i64 size) (.slice vo p vc)
   have OZ:=BB4.out.trans (O9.toBelow BB4.out.size (fun q hq h=>by have h:q = w.heap.size+1:=h;omega))
   have hvo:Hid (¬ (Value.slice vo p vc).ownBlock = some (w.heap.size+1)):=Lib.hid (fun e=>by have:=(World.ownsRow.lt HR4.out _ e).1;omega)
   have RZ:=Lib.hid (Row.off HR4.out O9 (fun q hq e=>by have e:q = w.heap.size+1:=e;subst e;exact hvo.out hq))
   clear y0 y1 y2 fr zy O9
   generalize World.setCell (World.setCell (World.setCell w4 _ _) _ _) _ _ = w9 at *
   have k0:=cell_at KZ 0
   have k1:=cell_at KZ 1
   have k2:=cell_at KZ 2
   have zk:=szs (block_lt KZ)
   refine bodyPost_ret (v:=.tuple #[.agg #[.int .i64 size,.int .i64 size,.slice vo p vc],.int .i64 0]) (by simp [results,Tryz.results22,go_sem,k0,k1,k2]) rfl ⟨⟨_,_,_,_,rfl,⟨fun _=>⟨HTO.out,HE.out⟩,fun _=>rfl⟩,fun _=>⟨rfl,rfl,?_⟩,fun e=>absurd rfl e⟩,OZ⟩
   rw[←HPP.out]
   exact Row.base_mono RZ.out (by omega)
 ·obtain ⟨rfl,rfl,rfl⟩:=hr3 h0
  have t0:(r != 0) = true:=by simp [h0]
  have HR0:=Lib.hid h0
  clear hr1 hr2 hr3 h0
  have B4:Hid (Below w3.heap.size w3 (w3.alloc (.cells #[.int .i64 0,.int .i64 0,.slice none 0 0] 37))):=Lib.hid (by (repeat' (first | with_reducible (first | exact Below.refl _ _ | assumption | refine Below.drew ?_ | refine below_drewN ?_ _ | refine Below.alloc ?_ ?_ _ | refine Below.setCell ?_ ?_ _) | go_size)));have X4:=Lib.hid (al_at w3 (.cells #[.int .i64 0,.int .i64 0,.slice none 0 0] 37) rfl);obtain ⟨w4,hw4⟩:∃ w4,w4 = w3.alloc (.cells #[.int .i64 0,.int .i64 0,.slice none 0 0] 37):=⟨_,rfl⟩;rw[←hw4] at B4 X4;have HW4:=Lib.hid hw4;clear hw4;have z4:=szs (block_lt X4.out);have x4_0:=cell_at X4.out 0;have x4_1:=cell_at X4.out 1;have x4_2:=cell_at X4.out 2
  have X14:Hid ((w3.alloc (.cells #[.int .i64 0,.int .i64 0,.slice none 0 0] 37)).heap[w.heap.size+1]? = some (.cells #[.int .i64 0,.int .i64 0,.slice none 0 0] 37 (0,0))):=Lib.hid (by rw[←HW4.out];exact (B4.out.block _ (block_lt X13.out)).trans X13.out)
  have BB4:Hid (Below w.heap.size w (w3.alloc (.cells #[.int .i64 0,.int .i64 0,.slice none 0 0] 37))):=Lib.hid (by rw[←HW4.out];exact BB3.out.trans (B4.out.mono BB3.out.size))
  clear HW4 x4_0 x4_1 x4_2 z4 X4 B4
  have y0:=cell_at X14.out 0
  have y1:=cell_at X14.out 1
  have y2:=cell_at X14.out 2
  have fr:=fun j=>free_at X14.out j
  have zy:=szs (block_lt X14.out)
  go_wp2_with fail
  show bodyPost _ _ _ Exit.ret _ _
  have KZ:=put3 X14.out (.int .i64 0) (.int .i64 0) (.slice none 0 0)
  have OZ:=BB4.out.trans ((off3 (World.alloc w3 (.cells #[.int .i64 0,.int .i64 0,.slice none 0 0] 37)) (w.heap.size+1) (.int .i64 0) (.int .i64 0) (.slice none 0 0)).toBelow BB4.out.size (fun q hq h=>by have h:q = w.heap.size+1:=h;omega))
  clear y0 y1 y2 fr zy
  generalize World.setCell (World.setCell (World.setCell (World.alloc w3 (.cells #[.int .i64 0,.int .i64 0,.slice none 0 0] 37)) _ _) _ _) _ _ = w9 at *
  have k0:=cell_at KZ 0
  have k1:=cell_at KZ 1
  have k2:=cell_at KZ 2
  have zk:=szs (block_lt KZ)
  exact bodyPost_ret (v:=.tuple #[.agg #[.int .i64 0,.int .i64 0,.slice none 0 0],.int .i64 r]) (by simp [results,Tryz.results22,go_sem,k0,k1,k2]) rfl ⟨⟨_,_,_,_,rfl,⟨⟨fun e=>absurd e HR0.out,fun e=>HR.out.2 e.1⟩,fun e=>absurd e HR0.out,fun _=>⟨rfl,rfl,rfl⟩⟩⟩,OZ⟩
def rsE (X:Nat→Int) (s:Nat):Nat→Nat→Int
 | 0=>fun _=>0
 | j+1=>upd (rsE X s j) (j / s) (rsE X s j (j / s)+X j)
def csE (X:Nat→Int) (s:Nat):Nat→Nat→Int
 | 0=>fun _=>0
 | j+1=>upd (csE X s j) (j % s) (csE X s j (j % s)+X j)
theorem rsE_bound {X:Nat→Int}{s p:Nat}(h:∀ i,i < p→0≤X i∧X i≤65536):∀ j,j≤p→∀ a,0≤rsE X s j a∧rsE X s j a≤65536 * j
 | 0,_,a=>by show (0:Int)≤0∧(0:Int)≤_;omega
 | j+1,hj,a=>by
  have h1:=rsE_bound (s:=s) h j (by omega)
  have h2:=h j (by omega)
  show 0≤upd _ _ _ a∧upd _ _ _ a≤_
  by_cases e:a = j / s
  ·subst e;rw[upd_same];have:=h1 (j / s);omega
  ·rw[upd_ne e];have:=h1 a;omega
theorem csE_bound {X:Nat→Int}{s p:Nat}(h:∀ i,i < p→0≤X i∧X i≤65536):∀ j,j≤p→∀ a,0≤csE X s j a∧csE X s j a≤65536 * j
 | 0,_,a=>by show (0:Int)≤0∧(0:Int)≤_;omega
 | j+1,hj,a=>by
  have h1:=csE_bound (s:=s) h j (by omega)
  have h2:=h j (by omega)
  show 0≤upd _ _ _ a∧upd _ _ _ a≤_
  by_cases e:a = j % s
  ·subst e;rw[upd_same];have:=h1 (j % s);omega
  ·rw[upd_ne e];have:=h1 a;omega
def pubU (X:Nat→Int) (H:Nat→Bool) (j:Nat):Nat→Int:=fun i=>if i < j∧H i = true then 0 else X i
structure ExM (w:World) (f t each:Int) (s p pc hc:Nat) (H:Nat→Bool) (qr qt qc qh qa qb qe base:Nat) (T RS CS:Nat→Int) (wr:World):Prop where
 rel:wr.heap[qr]? = some (.cells #[.int .i64 f,.int .i64 t,.int .i64 each,.int .i64 s,.int .i64 s,.slice (some ⟨qc,0,none⟩) p pc,.slice (some ⟨qh,0,none⟩) p hc,.slice (some ⟨qa,0,none⟩) s s,.slice (some ⟨qb,0,none⟩) s s,.slice none 0 0] 42 (0,0))
 tab:wr.heap[qt]? = some (.cells #[.int .i64 s,.int .i64 s,.slice (some ⟨qc,0,none⟩) p pc] 37 (0,0))
 res:wr.heap[qe]? = some (.cells #[.int .i64 0,.int .i64 0,.int .i64 0,.int .i64 0,.int .i64 0,.slice none 0 0,.slice none 0 0,.slice none 0 0,.slice none 0 0,.slice none 0 0] 42 (0,0))
 cel:Row wr base 3 1 (.slice (some ⟨qc,0,none⟩) p pc) p (nuR T)
 hid:Row wr base 4 1 (.slice (some ⟨qh,0,none⟩) p hc) p (boR H)
 rsm:Row wr base 3 1 (.slice (some ⟨qa,0,none⟩) s s) s (nuR RS)
 csm:Row wr base 3 1 (.slice (some ⟨qb,0,none⟩) s s) s (nuR CS)
 bel:Below w.heap.size w wr
 sep:(qc ≠ qh∧qc ≠ qa∧qc ≠ qb∧qh ≠ qa∧qh ≠ qb∧qa ≠ qb)∧(qr ≠ qc∧qr ≠ qa∧qr ≠ qb)∧(qt ≠ qc∧qt ≠ qa∧qt ≠ qb)∧qe < base∧w.heap.size≤base
section
variable {w wr w':World} {f t each:Int} {s p pc hc:Nat} {H:Nat→Bool} {qr qt qc qh qa qb qe base:Nat} {T RS CS:Nat→Int}
theorem ExM.below (h:ExM w f t each s p pc hc H qr qt qc qh qa qb qe base T RS CS wr) (hb:Below wr.heap.size wr w'):ExM w f t each s p pc hc H qr qt qc qh qa qb qe base T RS CS w' :=
 {rel:=(hb.block _ (block_lt h.rel)).trans h.rel
  tab:=(hb.block _ (block_lt h.tab)).trans h.tab
  res:=(hb.block _ (block_lt h.res)).trans h.res
  cel:=Row.off (X:=fun _=>False) h.cel (Off.of_below hb) (fun _ _ h=>h)
  hid:=Row.off (X:=fun _=>False) h.hid (Off.of_below hb) (fun _ _ h=>h)
  rsm:=Row.off (X:=fun _=>False) h.rsm (Off.of_below hb) (fun _ _ h=>h)
  csm:=Row.off (X:=fun _=>False) h.csm (Off.of_below hb) (fun _ _ h=>h)
  bel:=h.bel.trans (hb.mono h.bel.size)
  sep:=h.sep }
theorem row_set {w:World}{base q n c k:Nat}{T:Nat→Int}(h:Row w base 3 1 (.slice (some ⟨q,0,none⟩) n c) n (nuR T)) (hk:k < n) (x:Int):Row (w.setCell ⟨q,k,none⟩ (.int .i64 x)) base 3 1 (.slice (some ⟨q,0,none⟩) n c) n (nuR (upd T k x)):=by
 have h1:=Row.store h (fun i=>rfl) hk (j:=0) (by decide) (.int .i64 x)
 rw[Nat.mul_one,Nat.add_zero] at h1
 refine Row.congr h1 (fun l _=>?_)
 show _ = [Value.int .i64 (upd T k x l)]
 by_cases e:l = k
 ·subst e;rw[upd_same,upd_same];rfl
 ·rw[upd_ne e,upd_ne e];rfl
theorem row_keep {w:World}{base q q' k n c:Nat}{e:TypeId}{g:Nat→List Value}{u:Value}(h:Row w base e 1 (.slice (some ⟨q,0,none⟩) n c) n g) (hne:q ≠ q'):Row (w.setCell ⟨q',k,none⟩ u) base e 1 (.slice (some ⟨q,0,none⟩) n c) n g :=
 Row.off h (off_set (g:=q')) (fun i hi e=>by have e:i = q':=e;have h1:q = i:=(by simpa [Value.ownBlock] using hi);omega)
theorem ExM.setA (h:ExM w f t each s p pc hc H qr qt qc qh qa qb qe base T RS CS wr) {k:Nat}(hk:k < s) (x:Int):ExM w f t each s p pc hc H qr qt qc qh qa qb qe base T (upd RS k x) CS (wr.setCell ⟨qa,k,none⟩ (.int .i64 x)) :=
 have o:Off (fun q=>q = qa) wr (wr.setCell ⟨qa,k,none⟩ (.int .i64 x)):=off_set
 have e:=h.sep
 have l:=(World.ownsRow.lt h.rsm qa rfl).1
 {rel:=(o.block _ (block_lt h.rel) e.2.1.2.1).trans h.rel
  tab:=(o.block _ (block_lt h.tab) e.2.2.1.2.1).trans h.tab
  res:=(o.block _ (block_lt h.res) (fun q=>by have q:qe = qa:=q;omega)).trans h.res
  cel:=row_keep h.cel e.1.2.1
  hid:=row_keep h.hid e.1.2.2.2.1
  rsm:=row_set h.rsm hk x
  csm:=row_keep h.csm (fun q=>e.1.2.2.2.2.2 q.symm)
  bel:=h.bel.trans (o.toBelow h.bel.size (fun q hq e2=>by have e2:q = qa:=e2;omega))
  sep:=e }
theorem ExM.setB (h:ExM w f t each s p pc hc H qr qt qc qh qa qb qe base T RS CS wr) {k:Nat}(hk:k < s) (x:Int):ExM w f t each s p pc hc H qr qt qc qh qa qb qe base T RS (upd CS k x) (wr.setCell ⟨qb,k,none⟩ (.int .i64 x)) :=
 have o:Off (fun q=>q = qb) wr (wr.setCell ⟨qb,k,none⟩ (.int .i64 x)):=off_set
 have e:=h.sep
 have l:=(World.ownsRow.lt h.csm qb rfl).1
 {rel:=(o.block _ (block_lt h.rel) e.2.1.2.2).trans h.rel
  tab:=(o.block _ (block_lt h.tab) e.2.2.1.2.2).trans h.tab
  res:=(o.block _ (block_lt h.res) (fun q=>by have q:qe = qb:=q;omega)).trans h.res
  cel:=row_keep h.cel e.1.2.2.1
  hid:=row_keep h.hid e.1.2.2.2.2.1
  rsm:=row_keep h.rsm e.1.2.2.2.2.2
  csm:=row_set h.csm hk x
  bel:=h.bel.trans (o.toBelow h.bel.size (fun q hq e2=>by have e2:q = qb:=e2;omega))
  sep:=e }
theorem ExM.setC (h:ExM w f t each s p pc hc H qr qt qc qh qa qb qe base T RS CS wr) {k:Nat}(hk:k < p) (x:Int):ExM w f t each s p pc hc H qr qt qc qh qa qb qe base (upd T k x) RS CS (wr.setCell ⟨qc,k,none⟩ (.int .i64 x)) :=
 have o:Off (fun q=>q = qc) wr (wr.setCell ⟨qc,k,none⟩ (.int .i64 x)):=off_set
 have e:=h.sep
 have l:=(World.ownsRow.lt h.cel qc rfl).1
 {rel:=(o.block _ (block_lt h.rel) e.2.1.1).trans h.rel
  tab:=(o.block _ (block_lt h.tab) e.2.2.1.1).trans h.tab
  res:=(o.block _ (block_lt h.res) (fun q=>by have q:qe = qc:=q;omega)).trans h.res
  cel:=row_set h.cel hk x
  hid:=row_keep h.hid (fun q=>e.1.1 q.symm)
  rsm:=row_keep h.rsm (fun q=>e.1.2.1 q.symm)
  csm:=row_keep h.csm (fun q=>e.1.2.2.1 q.symm)
  bel:=h.bel.trans (o.toBelow h.bel.size (fun q hq e2=>by have e2:q = qc:=e2;omega))
  sep:=e }
end
set_option maxRecDepth 8000 in
set_option maxHeartbeats 16000000 in
theorem count24 (w:World) (f t each:Int) (s p pc hc:Nat) (H:Nat→Bool) (qr qt qc qh qa qb qe base:Nat) (T RS CS:Nat→Int) (i:Nat) (wr:World) (h:ExM w f t each s p pc hc H qr qt qc qh qa qb qe base T RS CS wr) (hs:1≤s∧s≤8) (hi:i < p) (hp:p = s * s) (hT:0≤T i∧T i≤65536) (hR:∀ a,0≤RS a∧RS a≤100000000) (hC:∀ a,0≤CS a∧CS a≤100000000) :
  Calls Tryz.prog 24 #[.int .i64 i,.pointer (some ⟨qr,0,none⟩),.pointer (some ⟨qt,0,none⟩)] wr fun e w'=>e = .returned (.tuple #[])∧ExM w f t each s p pc hc H qr qt qc qh qa qb qe base T (upd RS (i / s) (RS (i / s)+T i)) (upd CS (i % s) (CS (i % s)+T i)) w':=by
 have hp64:p≤64:=by rw[hp];exact Nat.mul_le_mul hs.2 hs.2
 have hro:i / s < s:=by rw[Nat.div_lt_iff_lt_mul (by omega)];omega
 have hco:i % s < s:=Nat.mod_lt _ (by omega)
 have q1:((i:Int)).tdiv (s:Int) = ((i / s:Nat):Int):=by rw[Int.tdiv_eq_ediv_of_nonneg (by omega)];omega
 have q2:((i:Int)).tmod (s:Int) = ((i % s:Nat):Int):=by rw[Int.tmod_eq_emod_of_nonneg (by omega)];omega
 obtain ⟨ro,hre⟩:∃ ro,ro = i / s:=⟨_,rfl⟩
 obtain ⟨cl,hce⟩:∃ cl,cl = i % s:=⟨_,rfl⟩
 rw[←hre] at q1 hro ⊢
 rw[←hce] at q2 hco ⊢
 have hR':=hR ro
 have hC':=hC cl
 obtain ⟨y,hy⟩:∃ y,y = T i:=⟨_,rfl⟩
 obtain ⟨ra,hra⟩:∃ ra,ra = RS ro:=⟨_,rfl⟩
 obtain ⟨ca,hca⟩:∃ ca,ca = CS cl:=⟨_,rfl⟩
 rw[←hy] at hT ⊢
 rw[←hra] at hR' ⊢
 rw[←hca] at hC' ⊢
 have HYs:=Lib.hid (And.intro hy (And.intro hra hca))
 have HM:=Lib.hid h
 obtain ⟨hs1,hs2⟩:=hs
 have hs0:¬ s = 0:=by omega
 have d0:((s:Int) == 0) = false:=by simp;omega
 have hroI:(ro:Int) < (s:Int):=by omega
 have hcoI:(cl:Int) < (s:Int):=by omega
 have hiI:(i:Int) < (p:Int):=by omega
 clear h hy hra hca hre hce hR hC hp
 have r7:=cell_at HM.out.rel 7
 have t1:=cell_at HM.out.tab 1
 have t2:=cell_at HM.out.tab 2
 have zr:=szs (block_lt HM.out.rel)
 have zt:=szs (block_lt HM.out.tab)
 have c0:wr.cell? ⟨qc,i * 1+0,none⟩ = some (.int .i64 (T i)):=Row.cell HM.out.cel (fun i=>rfl) hi (j:=0) (by decide)
 rw[Nat.mul_one,Nat.add_zero,←HYs.out.1] at c0
 have a0:wr.cell? ⟨qa,ro * 1+0,none⟩ = some (.int .i64 (RS ro)):=Row.cell HM.out.rsm (fun i=>rfl) hro (j:=0) (by decide)
 rw[Nat.mul_one,Nat.add_zero,←HYs.out.2.1] at a0
 have fa:=fun i=>Row.free HM.out.rsm i
 have zc:=szs (World.ownsRow.lt HM.out.cel qc rfl).2
 have za:=szs (World.ownsRow.lt HM.out.rsm qa rfl).2
 go_enter Tryz.func24,Tryz.ntmps24
 go_wp2_with fail
 (refine region_drawn 15 mixed (by kernel_rfl) ?_;simp only[List.take_succ_cons,List.take_zero,List.drop_succ_cons,List.drop_zero];(repeat (any_goals (first | go_big_quiet_step (fail) | quiet_step (fail) | (refine wpQuiet_step (fun K hK=>?_);go_simp;split <;> (refine hK _ ?_;clear hK K)))));(all_goals (refine wpQuiet_nil (fun nq=>?_))))
 have BQ:Hid (Below wr.heap.size wr (wr.drewN nq)):=Lib.hid (by (repeat' (first | with_reducible (first | exact Below.refl _ _ | assumption | refine Below.drew ?_ | refine below_drewN ?_ _ | refine Below.alloc ?_ ?_ _ | refine Below.setCell ?_ ?_ _) | go_size)))
 obtain ⟨w5,hw5⟩:∃ w5,w5 = wr.drewN nq:=⟨_,rfl⟩
 rw[←hw5] at BQ ⊢
 have M5:=Lib.hid (HM.out.below BQ.out)
 have M6:=Lib.hid (M5.out.setA hro (ra+y))
 clear hw5 r7 t1 t2 zr zt c0 a0 fa zc za HM
 have fa:=fun i=>Row.free M5.out.rsm i
 have a0:w5.cell? ⟨qa,ro * 1+0,none⟩ = some (.int .i64 (RS ro)):=Row.cell M5.out.rsm (fun i=>rfl) hro (j:=0) (by decide)
 rw[Nat.mul_one,Nat.add_zero,←HYs.out.2.1] at a0
 have za:=szs (World.ownsRow.lt M5.out.rsm qa rfl).2
 obtain ⟨w6,hw6⟩:∃ w6,w6 = w5.setCell ⟨qa,ro,none⟩ (.int .i64 (ra+y)):=⟨_,rfl⟩
 rw[←hw6] at M6
 have HW6:=Lib.hid hw6
 clear hw6
 have r8:=cell_at M6.out.rel 8
 have t1:=cell_at M6.out.tab 1
 have t2:=cell_at M6.out.tab 2
 have zr:=szs (block_lt M6.out.rel)
 have zt:=szs (block_lt M6.out.tab)
 have c0:w6.cell? ⟨qc,i * 1+0,none⟩ = some (.int .i64 (T i)):=Row.cell M6.out.cel (fun i=>rfl) hi (j:=0) (by decide)
 rw[Nat.mul_one,Nat.add_zero,←HYs.out.1] at c0
 have b0:w6.cell? ⟨qb,cl * 1+0,none⟩ = some (.int .i64 (CS cl)):=Row.cell M6.out.csm (fun i=>rfl) hco (j:=0) (by decide)
 rw[Nat.mul_one,Nat.add_zero,←HYs.out.2.2] at b0
 have zc:=szs (World.ownsRow.lt M6.out.cel qc rfl).2
 have zb:=szs (World.ownsRow.lt M6.out.csm qb rfl).2
 go_wp2_with (rw[←HW6.out])
 (refine region_drawn 15 mixed (by kernel_rfl) ?_;simp only[List.take_succ_cons,List.take_zero,List.drop_succ_cons,List.drop_zero];(repeat (any_goals (first | go_big_quiet_step (fail) | quiet_step (fail) | (refine wpQuiet_step (fun K hK=>?_);go_simp;split <;> (refine hK _ ?_;clear hK K)))));(all_goals (refine wpQuiet_nil (fun nq=>?_))))
 have BR:Hid (Below w6.heap.size w6 (w6.drewN nq)):=Lib.hid (by (repeat' (first | with_reducible (first | exact Below.refl _ _ | assumption | refine Below.drew ?_ | refine below_drewN ?_ _ | refine Below.alloc ?_ ?_ _ | refine Below.setCell ?_ ?_ _) | go_size)))
 obtain ⟨w7,hw7⟩:∃ w7,w7 = w6.drewN nq:=⟨_,rfl⟩
 rw[←hw7] at BR ⊢
 have M7:=Lib.hid (M6.out.below BR.out)
 have M8:=Lib.hid (M7.out.setB hco (ca+y))
 clear hw7 r8 t1 t2 zr zt c0 b0 zc zb fa a0 za HW6
 have fb:=fun i=>Row.free M7.out.csm i
 have b0:w7.cell? ⟨qb,cl * 1+0,none⟩ = some (.int .i64 (CS cl)):=Row.cell M7.out.csm (fun i=>rfl) hco (j:=0) (by decide)
 rw[Nat.mul_one,Nat.add_zero,←HYs.out.2.2] at b0
 have zb:=szs (World.ownsRow.lt M7.out.csm qb rfl).2
 go_wp2_with fail
 go_returns
 exact ⟨rfl,M8.out⟩
end Go.Proofs.YtdpoppilnokniaaGreatDoor
