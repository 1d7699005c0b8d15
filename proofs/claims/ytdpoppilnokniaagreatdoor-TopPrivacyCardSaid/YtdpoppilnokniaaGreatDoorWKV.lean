/- Theorems of this seat. -/
import Derived.Test.YtdpoppilnokniaaGreatDoorWBA
import Derived.Test.YtdpoppilnokniaaGreatDoorWKB
namespace Go.Proofs.YtdpoppilnokniaaGreatDoor
set_option linter.unusedVariables false
open Go.RowKit
section
variable {P:Program} {ops:Array Oper}
def vsPlan (w0:World) (Good:List Value→World→Prop) (Shape:List Value→Prop) (own:List Value→Nat→Prop) (mains:List Nat) (al:List (Nat×(Nat→Value)×Obj)) (st:List (Nat×Nat)):PlanO (List Value) :=
 {K:=fun s w=>Below w0.heap.size w0 w∧Good s w,D:=fun _ w=>Below w0.heap.size w0 w,mstep:=fun _ s s'=>(∃ v,s' = v :: s)∧Shape s',mval:=fun _ s=>s.headD undef,mains:=mains,al:=al,st:=st,B0:=w0.heap.size,
  own:=own,uses:=fun _=>[] }
variable {w0:World} {Good:List Value→World→Prop} {Shape:List Value→Prop} {own:List Value→Nat→Prop} {mains:List Nat} {al:List (Nat×(Nat→Value)×Obj)} {st:List (Nat×Nat)}
theorem vsPlan_ok (hG:∀ s w w',Good s w→Below w.heap.size w w'→Good s w') (hS:∀ s w b o,¬ own s b→Good s w→Good s (setAt w b o)) (hL:∀ s w b,Good s w→own s b→b < w.heap.size) (h1:(al.map (·.1)).Nodup) (h2:(st.map (·.1)).Nodup):(vsPlan w0 Good Shape own mains al st).Ok :=
 ⟨fun _ _ h=>h.1,fun s w _ _ o _ h=>⟨Below.alloc h.1 h.1.size o,hG s w _ h.2 ((Below.refl w.heap.size w).alloc (Nat.le_refl _) o)⟩,fun _ _ _ _ _ h=>h,fun _ _ h=>h.1.size,h1,h2,.inr fun s w b o hb ho h=>⟨below_setAt hb h.1,hS s w b o ho h.2⟩,fun s w b h ho=>hL s w b h.2 ho⟩
theorem vsPlan_start (h:Good [] w0.drew):(vsPlan w0 Good Shape own mains al st).K [] w0.drew:=⟨(Below.refl _ _).drew,h⟩
variable {a:Act} {i:Nat} {o:Oper} {r:List (Nat×Oper)} {s:List Value} {Bs:List (Nat×Nat×Obj)} {Fin:Act→List Value→List (Nat×Nat×Obj)→Prop}
theorem wpChainO_vscall (f:FuncId) (args:Array Value) (hk:(vsPlan w0 Good Shape own mains al st).kind i = 2) (hw:Region.wanted o (yielded ops a.tmps) = true) (hr:∀ w,(execOp a.eval o).run P w = .ok (.enter f args) w)
  (hc:∀ w,Below w0.heap.size w0 w→Good s w→Calls P f args w fun e w'=>∃ v,e = .returned v∧Shape (v :: s)∧Good (v :: s) w'∧(∀ b,own (v :: s) b→own s b∨w.heap.size≤b)∧Below w.heap.size w w')
  (h:∀ v,Shape (v :: s)→wpChainO P ops (vsPlan w0 Good Shape own mains al st) Fin r (a.put o.dst v) (v :: s) Bs):wpChainO P ops (vsPlan w0 Good Shape own mains al st) Fin ((i,o) :: r) a s Bs:=by
 refine wpChainO_main hk hw (fun w hkw hU=>?_) (fun s' hs'=>?_)
 ·rw[hr w]
  refine (hc w hkw.1 hkw.2).mono ?_
  rintro e w' ⟨v,he,h1,h2,ho,h3⟩
  exact ⟨v,he,v :: s,⟨⟨v,rfl⟩,h1⟩,.inr rfl,⟨hkw.1.trans (h3.mono hkw.1.size),h2⟩,h3.size,ho,fun b _ hlt _=>h3.block b hlt⟩
 ·obtain ⟨⟨v,rfl⟩,hsh⟩:=hs'
  exact h v hsh
end
end Go.Proofs.YtdpoppilnokniaaGreatDoor
