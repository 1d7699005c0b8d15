/- Theorems of this seat. -/
import Derived.Test.YtdpoppilnokniaaGreatDoorWTB1
import Derived.Test.YtdpoppilnokniaaGreatDoorWTKX
import Derived.Test.YtdpoppilnokniaaGreatDoorWNSA
namespace Go.Proofs.YtdpoppilnokniaaGreatDoor
set_option linter.unusedVariables false
set_option linter.unusedSimpArgs false
theorem idsR_of {F:Nat→Rid}{n:Nat}(h:∀ i j,i < j→j < n→(F i).id ≠ (F j).id):IdsR (ents F n):=by
 unfold IdsR ents
 rw[List.pairwise_map]
 refine List.Pairwise.imp_of_mem ?_ List.pairwise_lt_range
 intro a b ha hb hab
 exact h a b hab (List.mem_range.1 hb)
theorem inTab_filter {L:List Rid}{each f t:Int}{k:Int×Int}{x:Rid}(hx:keyR x ≠ k):inTab (L.filter (fun y=>keyR y != k)) each f t x = inTab L each f t x:=by
 unfold inTab cntR
 rw[rank_filter hx]
theorem leftR_key {F:Nat→Rid}{k:Int×Int}{n m:Nat}{G:Nat→Nat}(h:LeftR F k n m G) {i:Nat}(hi:i < m):keyR (F (G i)) ≠ k:=by
 have h1:F (G i)∈ents (fun i=>F (G i)) m:=mem_ents.2 ⟨i,hi,rfl⟩
 rw[h.ents,List.mem_filter] at h1
 simpa using h1.2
theorem leftR_tabOk {F:Nat→Rid}{L:Nat→Nat→Leg}{Q:Nat→Nat→Pau}{k:Int×Int}{n m:Nat}{G:Nat→Nat}{Z:Nat→Int}{zn:Nat}{size f t each:Int}(h:LeftR F k n m G) (ok:TabOk Z zn size f t each n F L Q):TabOk Z zn size f t each m (fun i=>F (G i)) (fun i=>L (G i)) (fun i=>Q (G i)) :=
 {sz:=ok.sz
  when':=ok.when'
  rides:=⟨ok.rides.each,Nat.le_trans h.le ok.rides.few,fun i hi=>ok.rides.chk (G i) (h.lt i hi),fun i j hij hj=>ok.rides.ids (G i) (G j) (h.mono i j hij hj) (h.lt j hj)⟩
  zones:=fun i hi hx=>by
   rw[h.ents,inTab_filter (leftR_key h hi)] at hx
   exact ok.zones (G i) (h.lt i hi) hx }
def qTab (f t:Int) (x:Rid):Bool:=decide (f≤x.s0) && (decide (x.s0 < t) && (decide (x.wh = 1) || decide (x.wh = 2)))
theorem cell_tab {L:List Rid}{M:List Rid}{Z:Nat→Int}{zn:Nat}{size each f t:Int}(hM:∀ x∈M,inTab L each f t x = true→0≤cellOf Z zn size x) (q:Nat) :
  M.countP (fun x=>inTab L each f t x && (cellOf Z zn size x == (q:Int))) = M.countP (fun x=>cntR L each x && (qTab f t x && ((cellOf Z zn size x).toNat == q))):=by
 refine List.countP_congr (fun x hx=>?_)
 have h1:=hM x hx
 have h2:inTab L each f t x = (cntR L each x && qTab f t x):=rfl
 rw[h2] at h1 ⊢
 simp only[Bool.and_eq_true,beq_iff_eq] at h1 ⊢
 constructor
 ·intro h;exact ⟨h.1.1,h.1.2,by omega⟩
 ·intro h
  have h3:=h1 ⟨h.1,h.2.1⟩
  exact ⟨⟨h.1,h.2.1⟩,by omega⟩
theorem zOk_cell {Z:Nat→Int}{zn:Nat}{size:Int}{x:Rid}(h:zOk Z zn size x) (hs:1≤size):0≤cellOf Z zn size x:=by
 have h1:=zend_in h.1
 unfold cellOf
 have:=Int.mul_nonneg h1.1.1 (show 0≤size by omega)
 omega
theorem leftR_cells {F:Nat→Rid}{L:Nat→Nat→Leg}{Q:Nat→Nat→Pau}{k:Int×Int}{n m:Nat}{G:Nat→Nat}{Z:Nat→Int}{zn:Nat}{size f t each:Int}(h:LeftR F k n m G) (ok:TabOk Z zn size f t each n F L Q) :
  ∃ D:Nat→Nat,(∀ q,cellN Z zn size each f t F n n q = cellN Z zn size each f t (fun i=>F (G i)) m m q+D q)∧∀ p,(sumTo D p:Int)≤each:=by
 obtain ⟨e,he⟩:∃ e:Nat,each = (e:Int):=⟨each.toNat,by have:=ok.rides.each;omega⟩
 subst he
 have hI:=idsR_of ok.rides.ids
 have ap:=fun p=>tab_apart hI e (qTab f t) (fun x=>(cellOf Z zn size x).toNat) k p
 refine ⟨fun i=>(ents F n).countP (fun x=>cntR (ents F n) e x && (qTab f t x && ((cellOf Z zn size x).toNat == i)) && (keyR x == k)),fun q=>?_,fun p=>?_⟩
 ·have h1:=(ap 0).1 q
  have a1:cellN Z zn size e f t F n n q = tabR (ents F n) e (fun x=>qTab f t x && ((cellOf Z zn size x).toNat == q)):=by
   refine cell_tab (fun x hx ht=>?_) q
   obtain ⟨i,hi,rfl⟩:=mem_ents.1 hx
   exact zOk_cell (ok.zones i hi ht) ok.sz.1
  have a2:cellN Z zn size e f t (fun i=>F (G i)) m m q = tabR ((ents F n).filter (fun y=>keyR y != k)) e (fun x=>qTab f t x && ((cellOf Z zn size x).toNat == q)):=by
   unfold cellN tabR
   rw[←h.ents]
   refine cell_tab (fun x hx ht=>?_) q
   obtain ⟨i,hi,rfl⟩:=mem_ents.1 hx
   exact zOk_cell ((leftR_tabOk h ok).zones i hi ht) ok.sz.1
  rw[a1,a2]
  exact h1
 ·have:=(ap p).2
  exact Int.ofNat_le.2 this
theorem absS_lost {X Y:Nat→Nat}{D:Nat→Nat}(h:∀ q,X q = Y q+D q):∀ p,absS (fun q=>(X q:Int)) (fun q=>(Y q:Int)) p = (sumTo D p:Int)
 | 0=>rfl
 | p+1=>by
  show absS _ _ p+max ((X p:Int) - (Y p:Int)) ((Y p:Int) - (X p:Int)) = ((sumTo D p+D p:Nat):Int)
  rw[absS_lost h p,h p]
  omega
theorem powE_pow (n:Int):∀ k,powE n k = n ^ k
 | 0=>by rw[Int.pow_zero];rfl
 | k+1=>by
  show powE n k * n = _
  rw[powE_pow n k,Int.pow_succ]
theorem wtE_alike {num den:Int}(hd:1≤den) (hn:den≤num) {n:Nat}{v u:Int}(hv:v.natAbs < n) (hu:0 < wtE n (wts num den) u) {k:Nat}(hk:(v - u).natAbs≤k) :
  powE den k * wtE n (wts num den) v≤powE num k * wtE n (wts num den) u∧powE den k * wtE n (wts num den) u≤powE num k * wtE n (wts num den) v:=by
 have hu2:u.natAbs < n:=by
  unfold wtE at hu
  split at hu
  ·assumption
  ·omega
 unfold wtE
 rw[if_pos hv,if_pos hu2,powE_pow,powE_pow]
 exact ⟨wts_alike hd hn (by omega) (by omega),wts_alike hd hn (by omega) (by omega)⟩
theorem wts_nok {num den:Int}(hd:1≤den) (hn:den≤num) {n:Nat}(h:n≤32):NOK (n+1) (wts num den) :=
 ⟨by omega,by omega,fun i hi=>⟨(wts_pos hd hn i).1,(wts_pos hd hn i).2,fun h0=>by
  obtain ⟨j,rfl⟩:∃ j,i = j+1:=⟨i - 1,by omega⟩
  rw[Nat.add_sub_cancel]
  exact (wts_step hd hn j).1⟩⟩
end Go.Proofs.YtdpoppilnokniaaGreatDoor
namespace Go.Proofs.YtdpoppilnokniaaGreatDoor
set_option linter.unusedVariables false
set_option linter.unusedSimpArgs false
def cnt (p:Nat→Bool):Nat→Nat
 | 0=>0
 | n+1=>cnt p n+(if p n = true then 1 else 0)
theorem cnt_congr {p q:Nat→Bool}:∀ {n:Nat},(∀ i,i < n→p i = q i)→cnt p n = cnt q n
 | 0,_=>rfl
 | n+1,h=>by
  unfold cnt
  rw[cnt_congr (fun i hi=>h i (by omega)),h n (by omega)]
theorem cnt_drop {q:Nat→Bool}{k:Nat}(hq:q k = true):∀ {n:Nat},k < n→cnt (upd q k false) n+1 = cnt q n
 | 0,h=>by omega
 | n+1,h=>by
  unfold cnt
  by_cases e:k = n
  ·subst e
   rw[upd_same,hq,cnt_congr (q:=q) (fun i hi=>upd_ne (by omega))]
   simp
  ·have ih:=cnt_drop hq (n:=n) (by omega)
   rw[upd_ne (fun x=>e x.symm)]
   omega
theorem clo_cnt (F:Nat→Rid):∀ n,clo F n = cnt (fun i=>(F i).op == false) n
 | 0=>rfl
 | n+1=>by
  unfold clo cnt
  rw[clo_cnt F n]
  cases (F n).op <;> simp
theorem countP_cnt {α:Type}(F:Nat→α) (p:α→Bool):∀ n,(ents F n).countP p = cnt (fun i=>p (F i)) n
 | 0=>rfl
 | n+1=>by
  rw[ents_snoc,List.countP_append,List.countP_singleton,countP_cnt F p n]
  rfl
theorem cells_sum {Z:Nat→Int}{zn:Nat}{size f t each:Int}{n:Nat}{F:Nat→Rid}{L:Nat→Nat→Leg}{Q:Nat→Nat→Pau}(ok:TabOk Z zn size f t each n F L Q) (p:Nat):sumTo (fun q=>cellN Z zn size each f t F n n q) p≤clo F n:=by
 have h1:(fun q=>cellN Z zn size each f t F n n q) = (fun q=>(ents F n).countP (fun x=>inTab (ents F n) each f t x && ((cellOf Z zn size x).toNat == q))):=by
  funext q
  refine List.countP_congr (fun x hx=>?_)
  obtain ⟨i,hi,rfl⟩:=mem_ents.1 hx
  simp only[Bool.and_eq_true,beq_iff_eq]
  constructor
  ·intro h;exact ⟨h.1,by omega⟩
  ·intro h
   have h3:=zOk_cell (ok.zones i hi h.1) ok.sz.1
   exact ⟨h.1,by omega⟩
 rw[h1]
 refine Nat.le_trans (sumTo_cells (ents F n) (fun x=>inTab (ents F n) each f t x) (fun x=>(cellOf Z zn size x).toNat) p) ?_
 rw[clo_cnt,←countP_cnt F (fun x=>x.op == false) n]
 refine List.countP_mono_left (fun x hx h=>?_)
 unfold inTab cntR at h
 simp only[Bool.and_eq_true] at h
 exact h.1.1
end Go.Proofs.YtdpoppilnokniaaGreatDoor
