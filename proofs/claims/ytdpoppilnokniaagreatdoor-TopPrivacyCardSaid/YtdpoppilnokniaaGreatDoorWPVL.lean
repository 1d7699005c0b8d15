/- Theorems of this seat. -/
import Derived.Test.YtdpoppilnokniaaGreatDoorWDSA
namespace Go.Proofs.YtdpoppilnokniaaGreatDoor
set_option linter.unusedVariables false
set_option linter.unusedSimpArgs false
def keyR (x:Rid):Int×Int:=(x.rid,x.s0.tdiv 86400)
def befR (x y:Rid):Bool:=decide (x.s0 < y.s0) || (decide (x.s0 = y.s0) && decide (x.id < y.id))
def rankR (L:List Rid) (x:Rid):Nat:=L.countP (fun y=>(y.op == false) && (keyR y == keyR x) && befR y x)
def cntR (L:List Rid) (each:Int) (x:Rid):Bool:=(x.op == false) && decide ((rankR L x:Int) < each)
def IdsR (L:List Rid):Prop:=L.Pairwise (fun x y=>x.id ≠ y.id)
theorem befR_trans {x y z:Rid}(h:befR x y = true) (k:befR y z = true):befR x z = true:=by
 simp only[befR,Bool.or_eq_true,Bool.and_eq_true,decide_eq_true_eq] at *
 omega
theorem befR_irr (x:Rid):befR x x = false:=by simp [befR]
theorem befR_tot {x y:Rid}(h:x.id ≠ y.id):befR x y = true∨befR y x = true:=by
 simp only[befR,Bool.or_eq_true,Bool.and_eq_true,decide_eq_true_eq]
 omega
theorem countP_lt {α:Type}{p q:α→Bool}:∀ {L:List α}{a:α},a∈L→p a = false→q a = true→(∀ y∈L,p y = true→q y = true)→L.countP p < L.countP q
 | [],a,h,_,_,_=>by cases h
 | b :: L,a,h,hp,hq,hpq=>by
  rw[List.countP_cons,List.countP_cons]
  have le:∀ {M:List α},(∀ y∈M,p y = true→q y = true)→M.countP p≤M.countP q:=fun h=>List.countP_mono_left h
  rcases List.mem_cons.1 h with rfl | h
  ·rw[hp,hq]
   have:=le (fun y hy=>hpq y (List.mem_cons_of_mem _ hy))
   simp;omega
  ·have i:=countP_lt h hp hq (fun y hy=>hpq y (List.mem_cons_of_mem _ hy))
   have j:=hpq b List.mem_cons_self
   by_cases e:p b = true
   ·rw[e,j e];simp;omega
   ·rw[if_neg e];split <;> omega
theorem rank_lt {L:List Rid}{x y:Rid}(hx:x∈L) (ho:x.op = false) (hk:keyR x = keyR y) (h:befR x y = true):rankR L x < rankR L y:=by
 unfold rankR
 refine countP_lt hx ?_ ?_ (fun z _ hz=>?_)
 ·rw[befR_irr];simp
 ·rw[h,hk,ho];simp
 ·simp only[Bool.and_eq_true,beq_iff_eq] at hz ⊢
  exact ⟨⟨hz.1.1,hz.1.2.trans hk⟩,befR_trans hz.2 h⟩
theorem countP_one {α:Type}{p:α→Bool}{R:α→α→Prop}(hR:∀ x y,R x y→p x = true→p y = true→False):∀ {L:List α},L.Pairwise R→L.countP p≤1
 | [],_=>by simp
 | a :: L,h=>by
  rw[List.countP_cons]
  have h:=List.pairwise_cons.1 h
  by_cases e:p a = true
  ·have:L.countP p = 0:=List.countP_eq_zero.2 (fun y hy hp=>hR a y (h.1 y hy) e hp)
   rw[if_pos e];omega
  ·rw[if_neg e];exact countP_one hR h.2
theorem counted_each {L:List Rid}(hI:IdsR L) (k:Int×Int):∀ (m:Nat),L.countP (fun x=>(x.op == false) && (keyR x == k) && decide (rankR L x < m))≤m
 | 0=>by
  rw[List.countP_eq_zero.2 (fun x _ h=>by simp at h)]
  exact Nat.le_refl _
 | m+1=>by
  have i:=counted_each hI k m
  have one:L.countP (fun x=>(x.op == false) && (keyR x == k) && decide (rankR L x = m))≤1:=by
   have hm:L.Pairwise (fun x y=>x∈L∧y∈L∧x.id ≠ y.id):=by
    have:∀ {M:List Rid},(∀ x∈M,x∈L)→M.Pairwise (fun x y=>x.id ≠ y.id)→M.Pairwise (fun x y=>x∈L∧y∈L∧x.id ≠ y.id):=by
     intro M
     induction M with
     | nil=>intro _ _;exact List.Pairwise.nil
     | cons a M ih =>
      intro hs h
      have h:=List.pairwise_cons.1 h
      exact List.pairwise_cons.2 ⟨fun y hy=>⟨hs a List.mem_cons_self,hs y (List.mem_cons_of_mem _ hy),h.1 y hy⟩,ih (fun x hx=>hs x (List.mem_cons_of_mem _ hx)) h.2⟩
    exact this (fun x h=>h) hI
   refine countP_one (fun x y h hx hy=>?_) hm
   simp only[Bool.and_eq_true,beq_iff_eq,decide_eq_true_eq] at hx hy
   rcases befR_tot h.2.2 with b | b
   ·have:=rank_lt h.1 hx.1.1 (hx.1.2.trans hy.1.2.symm) b;omega
   ·have:=rank_lt h.2.1 hy.1.1 (hy.1.2.trans hx.1.2.symm) b;omega
  have split:∀ M:List Rid,M.countP (fun x=>(x.op == false) && (keyR x == k) && decide (rankR L x < m+1))≤M.countP (fun x=>(x.op == false) && (keyR x == k) && decide (rankR L x < m))+M.countP (fun x=>(x.op == false) && (keyR x == k) && decide (rankR L x = m)):=by
   intro M
   induction M with
   | nil=>simp
   | cons a M ih =>
    rw[List.countP_cons,List.countP_cons,List.countP_cons]
    have:(((a.op == false) && (keyR a == k) && decide (rankR L a < m+1)) = true)→(((a.op == false) && (keyR a == k) && decide (rankR L a < m)) = true)∨(((a.op == false) && (keyR a == k) && decide (rankR L a = m)) = true):=by
     intro h
     simp only[Bool.and_eq_true,beq_iff_eq,decide_eq_true_eq] at h ⊢
     rcases Nat.lt_or_ge (rankR L a) m with q | q
     ·exact Or.inl ⟨h.1,q⟩
     ·exact Or.inr ⟨h.1,by omega⟩
    by_cases e:((a.op == false) && (keyR a == k) && decide (rankR L a < m+1)) = true
    ·rw[if_pos e]
     rcases this e with q | q
     ·rw[if_pos q];omega
     ·rw[if_pos q];omega
    ·rw[if_neg e];omega
  have:=split L
  omega
def tabR (L:List Rid) (each:Int) (q:Rid→Bool):Nat:=L.countP (fun x=>cntR L each x && q x)
theorem rank_filter {L:List Rid}{k:Int×Int}{x:Rid}(hx:keyR x ≠ k):rankR (L.filter (fun y=>keyR y != k)) x = rankR L x:=by
 unfold rankR
 rw[List.countP_filter]
 congr 1
 funext y
 by_cases e:keyR y = keyR x
 ·have:(keyR y != k) = true:=by simpa [e] using hx
  rw[this];simp
 ·have:(keyR y == keyR x) = false:=by simpa using e
  rw[this];simp
theorem tab_filter (L:List Rid) (each:Int) (q:Rid→Bool) (k:Int×Int):tabR L each q = tabR (L.filter (fun y=>keyR y != k)) each q+L.countP (fun x=>cntR L each x && q x && (keyR x == k)):=by
 unfold tabR
 rw[List.countP_filter]
 have:∀ M:List Rid,M.countP (fun x=>cntR L each x && q x) = M.countP (fun x=>(cntR (L.filter (fun y=>keyR y != k)) each x && q x) && (keyR x != k))+M.countP (fun x=>cntR L each x && q x && (keyR x == k)):=by
  intro M
  induction M with
  | nil=>simp
  | cons a M ih =>
   rw[List.countP_cons,List.countP_cons,List.countP_cons,ih]
   by_cases e:keyR a = k
   ·have h1:(keyR a != k) = false:=by simp [e]
    have h2:(keyR a == k) = true:=by simp [e]
    rw[h1,h2];simp;omega
   ·have h1:(keyR a != k) = true:=by simpa using e
    have h2:(keyR a == k) = false:=by simpa using e
    have h3:cntR (L.filter (fun y=>keyR y != k)) each a = cntR L each a:=by unfold cntR;rw[rank_filter e]
    rw[h1,h2,h3];simp;omega
 exact this L
def sumTo (f:Nat→Nat):Nat→Nat
 | 0=>0
 | n+1=>sumTo f n+f n
theorem sumTo_cells {α:Type}(L:List α) (p:α→Bool) (c:α→Nat) (n:Nat):sumTo (fun i=>L.countP (fun x=>p x && (c x == i))) n≤L.countP p:=by
 have:sumTo (fun i=>L.countP (fun x=>p x && (c x == i))) n = L.countP (fun x=>p x && decide (c x < n)):=by
  induction n with
  | zero=>rw[List.countP_eq_zero.2 (fun x _ h=>by simp at h)];rfl
  | succ n ih =>
   unfold sumTo
   rw[ih]
   have:∀ M:List α,M.countP (fun x=>p x && decide (c x < n))+M.countP (fun x=>p x && (c x == n)) = M.countP (fun x=>p x && decide (c x < n+1)):=by
    intro M
    induction M with
    | nil=>simp
    | cons a M im =>
     rw[List.countP_cons,List.countP_cons,List.countP_cons,←im]
     by_cases hp:p a = true
     ·rw[hp]
      rcases Nat.lt_trichotomy (c a) n with h | h | h
      ·have e1:decide (c a < n) = true:=decide_eq_true h
       have e2:(c a == n) = false:=by simp;omega
       have e3:decide (c a < n+1) = true:=decide_eq_true (by omega)
       rw[e1,e2,e3];simp;omega
      ·have e1:decide (c a < n) = false:=decide_eq_false (by omega)
       have e2:(c a == n) = true:=by simp;omega
       have e3:decide (c a < n+1) = true:=decide_eq_true (by omega)
       rw[e1,e2,e3];simp;omega
      ·have e1:decide (c a < n) = false:=decide_eq_false (by omega)
       have e2:(c a == n) = false:=by simp;omega
       have e3:decide (c a < n+1) = false:=decide_eq_false (by omega)
       rw[e1,e2,e3];simp
     ·have hp:p a = false:=by simpa using hp
      rw[hp];simp
   exact this L
 rw[this]
 exact List.countP_mono_left (fun x _ h=>by simp only[Bool.and_eq_true] at h;exact h.1)
theorem tab_apart {L:List Rid}(hI:IdsR L) (each:Nat) (q:Rid→Bool) (c:Rid→Nat) (k:Int×Int) (n:Nat) :
  (∀ i,tabR L each (fun x=>q x && (c x == i)) = tabR (L.filter (fun y=>keyR y != k)) each (fun x=>q x && (c x == i))+L.countP (fun x=>cntR L each x && (q x && (c x == i)) && (keyR x == k))) ∧
  sumTo (fun i=>L.countP (fun x=>cntR L each x && (q x && (c x == i)) && (keyR x == k))) n≤each:=by
 refine ⟨fun i=>tab_filter L each _ k,?_⟩
 have h1:=sumTo_cells L (fun x=>cntR L each x && q x && (keyR x == k)) c n
 have h2:=counted_each hI k each
 have h3:L.countP (fun x=>cntR L each x && q x && (keyR x == k))≤L.countP (fun x=>(x.op == false) && (keyR x == k) && decide (rankR L x < each)):=by
  refine List.countP_mono_left (fun x _ h=>?_)
  unfold cntR at h
  simp only[Bool.and_eq_true,decide_eq_true_eq] at h ⊢
  exact ⟨⟨h.1.1.1,h.2⟩,by omega⟩
 have h4:(fun i=>L.countP (fun x=>cntR L each x && q x && (keyR x == k) && (c x == i))) = (fun i=>L.countP (fun x=>cntR L each x && (q x && (c x == i)) && (keyR x == k))):=by
  funext i
  congr 1
  funext x
  cases cntR L each x <;> cases q x <;> cases (c x == i) <;> cases (keyR x == k) <;> rfl
 rw[h4] at h1
 omega
end Go.Proofs.YtdpoppilnokniaaGreatDoor
