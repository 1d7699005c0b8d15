/- Theorems of this seat. -/
import Derived.Test.YtdpoppilnokniaaGreatDoorWBB
namespace Go.Proofs.YtdpoppilnokniaaGreatDoor
set_option linter.unusedVariables false
set_option linter.unusedSimpArgs false
structure Arc where
 f:Int
 t:Int
 c:Int
def netN (A:Nat→Arc) (on:Nat→Int):Nat→Int→Int
 | 0,_=>0
 | m+1,v=>netN A on m v+(if (A m).f = v then on m else 0) - (if (A m).t = v then on m else 0)
structure FlowOk (A:Nat→Arc) (on:Nat→Int) (m:Nat) (a b s:Int):Prop where
 cap:∀ k,k < m→0≤on k∧on k≤(A k).c
 mid:∀ v,v ≠ a→v ≠ b→netN A on m v = 0
 out:netN A on m a = s
 inn:netN A on m b = -s
 pos:0≤s
theorem netN_congr {A:Nat→Arc}{on on':Nat→Int}:∀ {m:Nat}{v:Int},(∀ k,k < m→on' k = on k)→netN A on' m v = netN A on m v
 | 0,_,_=>rfl
 | m+1,v,h=>by
  unfold netN
  rw[netN_congr (fun k hk=>h k (by omega)),h m (by omega)]
theorem netN_upd {A:Nat→Arc}{on:Nat→Int}{k:Nat}{d:Int}:∀ {m:Nat}{v:Int},k < m→netN A (upd on k (on k+d)) m v = netN A on m v+(if (A k).f = v then d else 0) - (if (A k).t = v then d else 0)
 | 0,_,h=>by omega
 | m+1,v,h=>by
  unfold netN
  by_cases e:k = m
  ·subst e
   rw[netN_congr (on:=on) (fun i hi=>by unfold upd;rw[if_neg (by omega)])]
   have:upd on k (on k+d) k = on k+d:=by unfold upd;rw[if_pos rfl]
   rw[this]
   split <;> split <;> omega
  ·rw[netN_upd (by omega)]
   have:upd on k (on k+d) m = on m:=by unfold upd;rw[if_neg (by omega)]
   rw[this]
   omega
def arcsOf (X:Nat→Int) (H:Nat→Bool) (but:Nat):Nat→List Arc
 | 0=>[]
 | n+1=>arcsOf X H but n ++ (if H n = true∧n ≠ but then [⟨2+((n % 2:Nat):Int),((n / 2:Nat):Int),X n⟩,⟨((n / 2:Nat):Int),2+((n % 2:Nat):Int),65536⟩] else [])
def arcAt (l:List Arc) (j:Nat):Arc:=l.getD j ⟨0,0,0⟩
def mateR (i:Nat):Nat:=if i % 2 = 0 then i+1 else i - 1
def mateC (i:Nat):Nat:=if i / 2 = 0 then i+2 else i - 2
def mateD (i:Nat):Nat:=3 - i
def allH (H:Nat→Bool) (i:Nat):Bool:=H (mateR i) && H (mateC i) && H (mateD i)
def cellA (X:Nat→Int) (a:Int):Nat→Int
 | 0=>a
 | 1=>X 0+X 1 - a
 | 2=>X 0+X 2 - a
 | _=>X 2+X 3 - (X 0+X 2)+a
def okA (X:Nat→Int) (H:Nat→Bool) (a:Int):Bool :=
 (decide (cellA X a 1+cellA X a 3 = X 1+X 3) && (decide (0≤cellA X a 0) && (H 0 || decide (X 0 = cellA X a 0))) && (decide (0≤cellA X a 1) && (H 1 || decide (X 1 = cellA X a 1))) && (decide (0≤cellA X a 2) && (H 2 || decide (X 2 = cellA X a 2))) && (decide (0≤cellA X a 3) && (H 3 || decide (X 3 = cellA X a 3))))
def endsE (X:Nat→Int) (H:Nat→Bool) (i:Nat):Nat→Int×Int
 | 0=>(13,-1)
 | n+1=>if okA X H n = true then (min (endsE X H i n).1 (cellA X n i),max (endsE X H i n).2 (cellA X n i)) else endsE X H i n
end Go.Proofs.YtdpoppilnokniaaGreatDoor
namespace Go.Proofs.YtdpoppilnokniaaGreatDoor
set_option linter.unusedVariables false
set_option linter.unusedSimpArgs false
structure Stp where
 fr:Int
 ac:Int
 rm:Int
 fw:Bool
 kn:Bool
 dp:Int
def StpN (A:Nat→Arc) (on:Nat→Int) (m N:Nat) (S:Nat→Stp) (b:Nat):Prop :=
 ∃ p j:Nat,(S b).fr = (p:Int)∧p < N∧(S p).kn = true∧(S b).ac = (j:Int)∧j < m∧(S b).dp = (S p).dp+1∧0 < (S b).rm ∧
  (((S b).fw = true∧(A j).f = (p:Int)∧(A j).t = (b:Int)∧(S b).rm = (A j).c - on j)∨((S b).fw = false∧(A j).f = (b:Int)∧(A j).t = (p:Int)∧(S b).rm = on j))
structure StpsOk (A:Nat→Arc) (on:Nat→Int) (m N a:Nat) (S:Nat→Stp) (D:Int):Prop where
 aN:a < N
 root:S a = ⟨a,-1,0,false,true,0⟩
 node:∀ b,b < N→b ≠ a→(S b).kn = true→StpN A on m N S b
 dep:∀ b,b < N→(S b).kn = true→0≤(S b).dp∧(S b).dp≤D
section
variable {A:Nat→Arc} {on:Nat→Int} {m N a:Nat} {S:Nat→Stp} {D:Int}
theorem StpsOk.put (h:StpsOk A on m N a S D) {p b j:Nat}{rm:Int}{fw:Bool}{D':Int}(hp:p < N) (hk:(S p).kn = true) (hb:b < N) (hu:(S b).kn = false) (hj:j < m) (hr:0 < rm) (hd:D≤D') (hpd:(S p).dp+1≤D')
  (ha:(fw = true∧(A j).f = (p:Int)∧(A j).t = (b:Int)∧rm = (A j).c - on j)∨(fw = false∧(A j).f = (b:Int)∧(A j).t = (p:Int)∧rm = on j)) :
  StpsOk A on m N a (upd S b ⟨p,j,rm,fw,true,(S p).dp+1⟩) D':=by
 have hba:b ≠ a:=fun e=>by rw[e,h.root] at hu;cases hu
 have hpb:p ≠ b:=fun e=>by rw[e,hu] at hk;cases hk
 refine ⟨h.aN,?_,fun c hc hca hck=>?_,fun c hc hck=>?_⟩
 ·rw[upd_ne (fun e=>hba e.symm)];exact h.root
 ·by_cases e:c = b
  ·subst e
   unfold StpN
   rw[upd_same]
   exact ⟨p,j,rfl,hp,by rw[upd_ne hpb];exact hk,rfl,hj,by rw[upd_ne hpb],hr,ha⟩
  ·rw[upd_ne e] at hck
   obtain ⟨q,i,q1,q2,q3,q4,q5,q6,q7,q8⟩:=h.node c hc hca hck
   have hqb:q ≠ b:=fun e=>by rw[e,hu] at q3;cases q3
   unfold StpN
   rw[upd_ne e]
   exact ⟨q,i,q1,q2,by rw[upd_ne hqb];exact q3,q4,q5,by rw[upd_ne hqb];exact q6,q7,q8⟩
 ·by_cases e:c = b
  ·subst e
   rw[upd_same]
   have:=h.dep p hp hk
   show 0≤(S p).dp+1∧(S p).dp+1≤D'
   omega
  ·rw[upd_ne e] at hck ⊢
   have:=h.dep c hc hck
   omega
def unk (S:Nat→Stp):Nat→Nat
 | 0=>0
 | n+1=>unk S n+(if (S n).kn = true then 0 else 1)
theorem unk_congr {S S':Nat→Stp}:∀ {n:Nat},(∀ i,i < n→(S' i).kn = (S i).kn)→unk S' n = unk S n
 | 0,_=>rfl
 | n+1,h=>by
  unfold unk
  rw[unk_congr (fun i hi=>h i (by omega)),h n (by omega)]
theorem unk_put {S:Nat→Stp}{b:Nat}{x:Stp}(hx:x.kn = true) (hu:(S b).kn = false):∀ {n:Nat},b < n→unk (upd S b x) n+1 = unk S n
 | 0,h=>by omega
 | n+1,h=>by
  unfold unk
  by_cases e:b = n
  ·subst e
   rw[unk_congr (S:=S) (fun i hi=>by rw[upd_ne (by omega)]),upd_same,hx,hu]
   simp
  ·have ih:=unk_put hx hu (S:=S) (n:=n) (by omega)
   rw[upd_ne (fun q=>e q.symm)]
   omega
def anc (S:Nat→Stp) (b:Nat):Nat→Nat
 | 0=>b
 | i+1=>(S (anc S b i)).fr.toNat
theorem anc_root (h:StpsOk A on m N a S D) {b i:Nat}(hi:anc S b i = a):∀ j,anc S b (i+j) = a
 | 0=>hi
 | j+1=>by
  show (S (anc S b (i+j))).fr.toNat = a
  rw[anc_root h hi j,h.root]
  exact Int.toNat_natCast a
structure PushI (A:Nat→Arc) (m N a:Nat) (S:Nat→Stp) (on0 on:Nat→Int) (d:Int) (b k:Nat):Prop where
 cap:∀ j,j < m→0≤on j∧on j≤(A j).c
 net:∀ v:Int,netN A on m v = netN A on0 m v+(if v = (k:Int) then d else 0) - (if v = (b:Int) then d else 0)
 old:∀ c,c < N→c ≠ a→(S c).kn = true→(S c).dp≤(S k).dp→on (S c).ac.toNat = on0 (S c).ac.toNat
theorem PushI.start {on0:Nat→Int}{d:Int}{b:Nat}(h:∀ j,j < m→0≤on0 j∧on0 j≤(A j).c):PushI A m N a S on0 on0 d b b :=
 ⟨h,fun v=>by split <;> omega,fun _ _ _ _ _=>rfl⟩
theorem PushI.step {on0:Nat→Int}{d:Int}{b k p j:Nat}(h:PushI A m N a S on0 on d b k) (hs:StpsOk A on0 m N a S D) (hk:k < N) (hka:k ≠ a) (hkk:(S k).kn = true) (hd:0≤d) (hr:d≤(S k).rm) (hp:(S k).fr = (p:Int)) (hj:(S k).ac = (j:Int)) :
  PushI A m N a S on0 (upd on j (if (S k).fw = true then on j+d else on j - d)) d b p∧p < N∧(S p).kn = true∧(S k).dp = (S p).dp+1∧j < m:=by
 obtain ⟨p',j',q1,q2,q3,q4,q5,q6,q7,q8⟩:=hs.node k hk hka hkk
 obtain rfl:p' = p:=by rw[hp] at q1;omega
 obtain rfl:j' = j:=by rw[hj] at q4;omega
 refine ⟨⟨fun i hi=>?_,fun v=>?_,fun c hc hca hck hcd=>?_⟩,q2,q3,q6,q5⟩
 ·by_cases e:i = j'
  ·subst e
   rw[upd_same]
   have h1:=h.cap i hi
   have h2:=h.old k hk hka hkk (Int.le_refl _)
   rw[q4,Int.toNat_natCast] at h2
   rcases q8 with ⟨f1,f2,f3,f4⟩ | ⟨f1,f2,f3,f4⟩
   ·rw[if_pos f1];omega
   ·rw[f1];simp only[Bool.false_eq_true,if_false];omega
  ·rw[upd_ne e];exact h.cap i hi
 ·have h1:=h.net v
  rcases q8 with ⟨f1,f2,f3,f4⟩ | ⟨f1,f2,f3,f4⟩
  ·rw[if_pos f1,netN_upd q5,h1,f2,f3]
   have e1:(if (p':Int) = v then d else 0) = (if v = (p':Int) then d else 0):=by split <;> split <;> omega
   have e2:(if (k:Int) = v then d else 0) = (if v = (k:Int) then d else 0):=by split <;> split <;> omega
   rw[e1,e2]
   omega
  ·rw[f1]
   simp only[Bool.false_eq_true,if_false]
   rw[show on j' - d = on j' + -d by omega,netN_upd q5,h1,f2,f3]
   have e1:(if (p':Int) = v then -d else 0) = -(if v = (p':Int) then d else 0):=by split <;> split <;> omega
   have e2:(if (k:Int) = v then -d else 0) = -(if v = (k:Int) then d else 0):=by split <;> split <;> omega
   rw[e1,e2]
   omega
 ·have h0:=h.old c hc hca hck (by omega)
  obtain ⟨pc,jc,r1,r2,r3,r4,r5,r6,r7,r8⟩:=hs.node c hc hca hck
  rw[r4,Int.toNat_natCast] at h0 ⊢
  have hne:jc ≠ j':=by
   intro e
   subst e
   have hkc:(k:Int) = (c:Int)∨(k:Int) = (pc:Int):=by
    rcases q8 with ⟨f1,f2,f3,f4⟩ | ⟨f1,f2,f3,f4⟩ <;> rcases r8 with ⟨g1,g2,g3,g4⟩ | ⟨g1,g2,g3,g4⟩
    ·left;rw[←f3,g3]
    ·right;rw[←f3,g3]
    ·right;rw[←f2,g2]
    ·left;rw[←f2,g2]
   rcases hkc with e | e
   ·have e:k = c:=by omega
    subst e;omega
   ·have e:k = pc:=by omega
    subst e;omega
  rw[upd_ne hne]
  exact h0
theorem PushI.done {on0:Nat→Int}{d s:Int}{b:Nat}(h:PushI A m N a S on0 on d b a) (hf:FlowOk A on0 m (a:Int) (b:Int) s) (hab:(b:Int) ≠ (a:Int)) (hd:0≤d):FlowOk A on m (a:Int) (b:Int) (s+d) :=
 {cap:=h.cap
  mid:=fun v h1 h2=>by have:=h.net v;rw[if_neg h1,if_neg h2,hf.mid v h1 h2] at this;omega
  out:=by have:=h.net (a:Int);rw[if_pos rfl,if_neg (fun e=>hab e.symm),hf.out] at this;omega
  inn:=by have:=h.net (b:Int);rw[if_neg hab,if_pos rfl,hf.inn] at this;omega
  pos:=by have:=hf.pos;omega }
theorem netN_le {C:Int}(hC:0≤C):∀ {m:Nat},(∀ k,k < m→0≤on k∧on k≤C)→∀ v:Int,netN A on m v≤m * C
 | 0,_,v=>by show (0:Int)≤((0:Nat):Int) * C;simp
 | m+1,h,v=>by
  have h1:=netN_le hC (fun k hk=>h k (by omega)) v (m:=m)
  have h2:=h m (by omega)
  unfold netN
  have e:((m+1:Nat):Int) * C = (m:Int) * C+C:=by rw[Int.natCast_add,Int.add_mul];simp
  rw[e]
  split <;> split <;> omega
theorem flow_zero {b:Int}(hc:∀ k,k < m→0≤(A k).c) {a b:Int}:FlowOk A (fun _=>0) m a b 0:=by
 have z:∀ (k:Nat) (v:Int),netN A (fun _=>0) k v = 0:=by
  intro k v
  induction k with
  | zero=>rfl
  | succ k ih=>unfold netN;rw[ih];simp
 exact ⟨fun k hk=>⟨Int.le_refl _,hc k hk⟩,fun v _ _=>z m v,z m a,by rw[z m b];rfl,Int.le_refl _⟩
end
end Go.Proofs.YtdpoppilnokniaaGreatDoor
