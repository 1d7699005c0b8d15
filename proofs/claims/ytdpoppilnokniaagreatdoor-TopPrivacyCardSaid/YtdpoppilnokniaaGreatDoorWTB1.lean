/- Theorems of this seat. -/
import Derived.Test.YtdpoppilnokniaaGreatDoorWZN
import Derived.Test.YtdpoppilnokniaaGreatDoorWCTY
namespace Go.Proofs.YtdpoppilnokniaaGreatDoor
open Go.RowKit Go.ChangeShapes Go.WideShapes Go.Deep
set_option linter.unusedVariables false
set_option linter.unusedSimpArgs false
def inTab (L:List Rid) (each f t:Int) (x:Rid):Bool:=cntR L each x && (decide (f≤x.s0) && (decide (x.s0 < t) && (decide (x.wh = 1) || decide (x.wh = 2))))
def zOk (Z:Nat→Int) (zn:Nat) (size:Int) (x:Rid):Prop:=(zendE Z zn x).2.2 = 0∧(zendE Z zn x).1 < size∧(zendE Z zn x).2.1 < size
def cellOf (Z:Nat→Int) (zn:Nat) (size:Int) (x:Rid):Int:=(zendE Z zn x).1 * size+(zendE Z zn x).2.1
def cellN (Z:Nat→Int) (zn:Nat) (size each f t:Int) (F:Nat→Rid) (n j:Nat) (q:Nat):Nat:=(ents F j).countP (fun x=>inTab (ents F n) each f t x && (cellOf Z zn size x == (q:Int)))
theorem cellN_next (Z:Nat→Int) (zn:Nat) (size each f t:Int) (F:Nat→Rid) (n j q:Nat):cellN Z zn size each f t F n (j+1) q = cellN Z zn size each f t F n j q+(if inTab (ents F n) each f t (F j) = true∧cellOf Z zn size (F j) = (q:Int) then 1 else 0):=by
 unfold cellN
 rw[ents_snoc,List.countP_append,List.countP_singleton]
 congr 1
 by_cases h:inTab (ents F n) each f t (F j) = true <;> by_cases h2:cellOf Z zn size (F j) = (q:Int) <;> simp [h,h2]
theorem cellN_le (Z:Nat→Int) (zn:Nat) (size each f t:Int) (F:Nat→Rid) (n j q:Nat):cellN Z zn size each f t F n j q≤j:=by
 unfold cellN
 exact Nat.le_trans List.countP_le_length (by rw[ents_len];exact Nat.le_refl _)
theorem zend_in {Z:Nat→Int}{zn:Nat}{x:Rid}(h:(zendE Z zn x).2.2 = 0):(0≤(zendE Z zn x).1∧(zendE Z zn x).1 < 8)∧0≤(zendE Z zn x).2.1∧(zendE Z zn x).2.1 < 8:=by
 unfold zendE at *
 split at h
 ·rename_i h1
  rw[if_pos h1]
  exact ⟨zoneE_in h1,zoneE_in h⟩
 ·rename_i h1
  exact absurd h h1
structure TabOk (Z:Nat→Int) (zn:Nat) (size f t each:Int) (n:Nat) (F:Nat→Rid) (L:Nat→Nat→Leg) (Q:Nat→Nat→Pau):Prop where
 sz:1≤size∧size≤8
 when':0≤f∧f≤t∧t≤4294944000
 rides:RdsOk n each F L Q
 zones:∀ i,i < n→inTab (ents F n) each f t (F i) = true→zOk Z zn size (F i)
structure TbM (w:World) (Z:Nat→Int) (zn:Nat) (s p:Nat) (each f t:Int) (n:Nat) (F:Nat→Rid) (B:Nat→Bool) (bv:Value) (qt qc qw qr base:Nat) (j:Nat) (sm:Bool) (T:Nat→Int) (wr:World):Prop where
 bel:Below w.heap.size w wr
 win:wr.heap[qw]? = some (.cells #[.int .i64 f,.int .i64 t] 27 (0,0))
 res:wr.heap[qr]? = some (.cells #[.int .i64 0,.int .i64 0,.slice none 0 0] 37 (0,0))
 tab:wr.heap[qt]? = some (.cells #[.int .i64 s,.int .i64 s,.slice (some ⟨qc,0,none⟩) p p] 37 (0,0))
 cel:Row wr base 3 1 (.slice (some ⟨qc,0,none⟩) p p) p (nuR T)
 cnt:Row wr base 4 1 bv n (boR B)
 bnd:∀ q,q < p→0≤T q∧T q≤j
 val:sm = true→∀ q,q < p→T q = cellN Z zn s each f t F n j q
 yes:sm = true→∀ i,i < j→inTab (ents F n) each f t (F i) = true→zOk Z zn s (F i)
 no:sm = false→∃ i,i < j∧inTab (ents F n) each f t (F i) = true∧¬ zOk Z zn s (F i)
section
variable {w:World} {Z:Nat→Int} {zn:Nat} {s p:Nat} {each f t:Int} {n:Nat} {F:Nat→Rid} {B:Nat→Bool} {bv:Value} {qt qc qw qr base:Nat} {j:Nat} {sm:Bool} {T:Nat→Int} {wr:World}
theorem TbM.below {w':World}(h:TbM w Z zn s p each f t n F B bv qt qc qw qr base j sm T wr) (hb:Below wr.heap.size wr w'):TbM w Z zn s p each f t n F B bv qt qc qw qr base j sm T w' :=
 {h with
  bel:=h.bel.trans (hb.mono h.bel.size)
  win:=(hb.block _ (block_lt h.win)).trans h.win
  res:=(hb.block _ (block_lt h.res)).trans h.res
  tab:=(hb.block _ (block_lt h.tab)).trans h.tab
  cel:=Row.off (X:=fun _=>False) h.cel (Off.of_below hb) (fun _ _ h=>h)
  cnt:=Row.off (X:=fun _=>False) h.cnt (Off.of_below hb) (fun _ _ h=>h) }
theorem TbM.skip (h:TbM w Z zn s p each f t n F B bv qt qc qw qr base j sm T wr) (hj:inTab (ents F n) each f t (F j) = false):TbM w Z zn s p each f t n F B bv qt qc qw qr base (j+1) sm T wr :=
 {h with
  bnd:=fun q hq=>⟨(h.bnd q hq).1,by have:=(h.bnd q hq).2;omega⟩
  val:=fun e q hq=>by rw[h.val e q hq,cellN_next,hj];simp
  yes:=fun e i hi hx=>by
   by_cases q:i = j
   ·subst q;rw[hj] at hx;cases hx
   ·exact h.yes e i (by omega) hx
  no:=fun e=>by obtain ⟨i,hi,hx⟩:=h.no e;exact ⟨i,by omega,hx⟩ }
theorem TbM.far (h:TbM w Z zn s p each f t n F B bv qt qc qw qr base j sm T wr) (hj:inTab (ents F n) each f t (F j) = true) (hz:¬ zOk Z zn s (F j)):TbM w Z zn s p each f t n F B bv qt qc qw qr base (j+1) false T wr :=
 {h with
  bnd:=fun q hq=>⟨(h.bnd q hq).1,by have:=(h.bnd q hq).2;omega⟩
  val:=fun e=>by cases e
  yes:=fun e=>by cases e
  no:=fun _=>⟨j,by omega,hj,hz⟩ }
theorem TbM.hit (h:TbM w Z zn s p each f t n F B bv qt qc qw qr base j sm T wr) (hj:inTab (ents F n) each f t (F j) = true) (hz:zOk Z zn s (F j)) {k:Nat}(hk:cellOf Z zn s (F j) = (k:Int)) (hks:k < p) {w':World}(ho:Off (fun q=>q = qc) wr w')
  (hr:Row w' base 3 1 (.slice (some ⟨qc,0,none⟩) p p) p (nuR (upd T k (T k+1)))) (hne:qw ≠ qc∧qr ≠ qc∧qt ≠ qc) (hcn:¬ bv.ownBlock = some qc) (hq:w.heap.size≤qc):TbM w Z zn s p each f t n F B bv qt qc qw qr base (j+1) sm (upd T k (T k+1)) w' :=
 {bel:=h.bel.trans (ho.toBelow h.bel.size (fun q hq' e=>by have e:q = qc:=e;omega))
  win:=(ho.block _ (block_lt h.win) hne.1).trans h.win
  res:=(ho.block _ (block_lt h.res) hne.2.1).trans h.res
  tab:=(ho.block _ (block_lt h.tab) hne.2.2).trans h.tab
  cel:=hr
  cnt:=Row.off h.cnt ho (fun q hq e=>hcn (by have e:q = qc:=e;rw[←e];exact hq))
  bnd:=fun q hq=>by
   have b:=h.bnd q hq
   by_cases e:q = k
   ·subst e;rw[upd_same];omega
   ·rw[upd_ne e];omega
  val:=fun e q hq=>by
   rw[cellN_next]
   by_cases e2:q = k
   ·subst e2;rw[upd_same,h.val e q hq,if_pos ⟨hj,hk⟩];omega
   ·rw[upd_ne e2,h.val e q hq,if_neg (fun x=>e2 (by have:=x.2;omega))];omega
  yes:=fun e i hi hx=>by
   by_cases q:i = j
   ·subst q;exact hz
   ·exact h.yes e i (by omega) hx
  no:=fun e=>by obtain ⟨i,hi,hx⟩:=h.no e;exact ⟨i,by omega,hx⟩ }
end
end Go.Proofs.YtdpoppilnokniaaGreatDoor
