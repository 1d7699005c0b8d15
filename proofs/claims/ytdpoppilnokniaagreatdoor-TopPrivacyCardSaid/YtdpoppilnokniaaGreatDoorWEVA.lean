/- Theorems of this seat. -/
import Derived.Test.YtdpoppilnokniaaGreatDoorWBA
import Derived.Test.YtdpoppilnokniaaGreatDoorWBB
import Derived.Shelf.SlSortCmp.WholeK
import Derived.Shelf.SlicesE.Clone
import Derived.Test.YtdpoppilnokniaaGreatDoorProg
import Derived.Test.YtdpoppilnokniaaGreatDoorWEV0
import Derived.Test.YtdpoppilnokniaaGreatDoorWBC
import Derived.Shelf.SlSortCmp.NoneTotal
namespace Go.Proofs.YtdpoppilnokniaaGreatDoor
open Go.RowKit Go.Shelf
set_option linter.unusedVariables false
set_option linter.unusedSimpArgs false
section
variable {P:Program} {ρ:Ren} {α:Type} [Inhabited α]
theorem sorted_block {enc:α→List Value}{s m b:Nat}{w:World}{d:Array α}{os:Array Obj}{cur:Array Value}{e:TypeId}{fz:Nat×Nat}(h:w.heap[b]? = some (.cells cur e fz)) :
  (sortWorldK enc s w b 0 m d os).heap[b]? = some (.cells (Go.Sort.putCells id 0 (Go.Sort.flatK enc s d) cur) e fz):=by
 have hb:=block_lt h
 unfold sortWorldK Go.Sort.grow Go.Sort.putRowK Go.Sort.putRow Go.Sort.mapBlock Go.Sort.ahead
 dsimp only
 rw[Array.getElem?_append_left (by simpa using hb),Array.getElem?_modify]
 simp [h,Go.Sort.onCells]
theorem sorted_off {enc:α→List Value}{s m b:Nat}{w:World}{d:Array α}{os:Array Obj}:Off (fun k=>k = b) w (sortWorldK enc s w b 0 m d os):=by
 refine ⟨rfl,rfl,rfl,?_,fun i hi hx=>?_⟩
 ·unfold sortWorldK Go.Sort.grow Go.Sort.putRowK Go.Sort.putRow Go.Sort.mapBlock Go.Sort.ahead
  simp
 ·unfold sortWorldK Go.Sort.grow Go.Sort.putRowK Go.Sort.putRow Go.Sort.mapBlock Go.Sort.ahead
  dsimp only
  rw[Array.getElem?_append_left (by simpa using hi),Array.getElem?_modify,if_neg (fun h=>hx h.symm)]
theorem ents_arr {F:Nat→α}{n i:Nat}(h:i < n):((ents F n).toArray)[i]! = F i:=by
 rw[getElem!_pos _ i (by simpa [ents] using h)]
 simp [ents]
theorem div_mod_lt {t n s:Nat}(h:t < n * s):t / s < n∧t % s < s:=by
 have hs:0 < s:=by rcases Nat.eq_zero_or_pos s with h0 | h0;subst h0;simp at h;exact h0
 exact ⟨Nat.div_lt_of_lt_mul (by rw[Nat.mul_comm];exact h),Nat.mod_lt _ hs⟩
theorem row_holds {enc:α→List Value}{s base b n c:Nat}{e:TypeId}{w:World}{F:Nat→α}(hk:∀ x,(enc x).length = s) (h:Row w base e s (.slice (some ⟨b,0,none⟩) n c) n (fun i=>enc (F i))):Go.Sort.HoldsK enc s w b 0 (ents F n).toArray:=by
 intro t ht
 have ht':t < n * s:=by simpa [ents] using ht
 obtain ⟨h1,h2⟩:=div_mod_lt ht'
 rw[Go.Sort.get_flatK _ _ _ _ (by simpa [ents] using ht'),ents_arr h1]
 have hc:=h.cell (fun i=>hk _) h1 h2
 have he:t / s * s+t % s = t:=by rw[Nat.mul_comm];exact Nat.div_add_mod t s
 rw[he] at hc
 refine ⟨?_,?_⟩
 ·rw[Nat.zero_add,hc,List.getElem?_eq_getElem (by rw[hk];exact h2),getElem!_pos _ _ (by rw[hk];exact h2)];rfl
 ·rw[Nat.zero_add];exact h.free t
theorem sorted_row {enc:α→List Value}{s base b n c m:Nat}{e:TypeId}{w:World}{F:Nat→α}{d:Array α}{os:Array Obj}(hk:∀ x,(enc x).length = s) (h:Row w base e s (.slice (some ⟨b,0,none⟩) n c) n (fun i=>enc (F i))) (hd:d.size = n) :
  Row (sortWorldK enc s w b 0 m d os) base e s (.slice (some ⟨b,0,none⟩) n c) n (fun i=>enc d[i]!):=by
 refine ⟨flat_len (fun i=>hk _) n,?_⟩
 rcases h.2 with h1 | ⟨g',cap',cur,he,hb,hg,hn,hc,hsz,ht⟩
 ·cases h1.1
 ·cases he
  refine .inr ⟨b,c,_,rfl,hb,sorted_block hg,hn,hc,?_,?_⟩
  ·unfold Go.Sort.putCells;simpa using hsz
  ·have hle:n * s≤c * s:=Nat.mul_le_mul_right s hn
   apply List.ext_getElem?
   intro t
   by_cases htn:t < n * s
   ·obtain ⟨h1,h2⟩:=div_mod_lt htn
    have he:t / s * s+t % s = t:=by rw[Nat.mul_comm];exact Nat.div_add_mod t s
    rw[List.getElem?_take,if_pos htn]
    have hf:=flat_get (f:=fun i=>enc d[i]!) (fun i=>hk _) h2 h1
    rw[he] at hf
    rw[hf,Array.getElem?_toList]
    unfold Go.Sort.putCells
    rw[Array.getElem?_mapIdx,Array.getElem?_eq_getElem (by omega)]
    simp only[Option.map_some]
    rw[if_pos ⟨Nat.zero_le _,by rw[Go.Sort.size_flatK,hd];omega⟩,Nat.sub_zero,Go.Sort.get_flatK _ _ _ _ (by rw[hd];exact htn),getElem!_pos _ _ (by rw[hk];exact h2),List.getElem?_eq_getElem (by rw[hk];exact h2)]
    rfl
   ·rw[List.getElem?_eq_none (by simp;omega),List.getElem?_eq_none (by rw[flat_len (fun i=>hk _)];omega)]
theorem sort_row (L:SlLaysF0.n6 P ρ) (s:Nat) (aE:∀ w,(isAgg (ρ.t 24)).run P w = .ok true w) (zE:∀ w,(Go.sizeOf (ρ.t 24)).run P w = .ok s w) (enc:α→List Value) (hk:∀ x,(enc x).length = s) (h1:∀ x,∀ v∈enc x,v.oneCell' = true) (cf:α→α→Int) (hO:Go.Sort.SWO (ltOf cf)) (g:Nat)
  (eg:∀ args w,(callFunc g args).run P w = .ok (.enter g args) w) (hc:∀ x y w,Calls P g #[.agg (enc x).toArray,.agg (enc y).toArray] w fun e w'=>e = .returned (.int .i64 (cf x y))∧Grew w w')
  {base b n c:Nat} {e:TypeId} {F:Nat→α} {w:World} (hR:Row w base e s (.slice (some ⟨b,0,none⟩) n c) n (fun i=>enc (F i))) (hsz:n < 4611686018427387904) :
  Calls P (ρ.f 6) #[.slice (some ⟨b,0,none⟩) n c,.func (.func g) #[] #[]] w fun e' w'=>e' = .returned (.tuple #[])∧∃ F':Nat→α,(ents F' n).Perm (ents F n)∧(∀ i j,i < j→j < n→ltOf cf (F' j) (F' i) = false) ∧
   Row w' base e s (.slice (some ⟨b,0,none⟩) n c) n (fun i=>enc (F' i))∧Off (fun k=>k = b) w w':=by
 have hb:b < w.heap.size:=by
  rcases Row.shape hR with ⟨h,_⟩ | ⟨g',cap',he,_,hlt,_⟩
  ·cases h
  ·cases he;exact hlt
 have hds:((ents F n).toArray).size = n:=by simp [ents]
 have hcon:=AnyQ.slices_SortFunc L s aE zE enc hk h1 cf hO g #[] b 0 c (ents F n).toArray w eg (fun m os dk _ x y=>(hc x y _).mono fun _ _ ⟨he,hg⟩=>⟨he,hg.form⟩) (row_holds hk hR) hb (by rw[hds];exact hsz)
 rw[hds] at hcon
 refine hcon.mono ?_
 rintro e' w' ⟨rfl,d',m,os,hp,hs,rfl⟩
 have hd':d'.size = n:=hp.1.trans hds
 refine ⟨rfl,fun i=>d'[i]!,?_,fun i j hij hj=>hs i j (Nat.zero_le _) hij hj,sorted_row hk hR hd',sorted_off⟩
 have e1:ents (fun i=>d'[i]!) n = d'.toList:=by
  apply List.ext_getElem?
  intro i
  by_cases hi:i < n
  ·rw[ents_get hi,Array.getElem?_toList,Array.getElem?_eq_getElem (by omega),getElem!_pos _ i (by omega)]
  ·rw[List.getElem?_eq_none (by simp [ents];omega),List.getElem?_eq_none (by simp;omega)]
 have hp2:=hp.2.2
 rw[e1]
 have x1:(d'.extract 0 n) = d':=by rw[←hd'];simp
 have x2:∀ A:Array α,A.size = n→A.extract 0 n = A:=fun A hA=>by rw[←hA];simp
 have x2:=x2 _ hds
 rw[x1,x2] at hp2
 simpa using hp2
end
end Go.Proofs.YtdpoppilnokniaaGreatDoor
namespace Go.Proofs.YtdpoppilnokniaaGreatDoor
open Go.Shelf
def sort42_ren:Go.Shelf.Ren:=⟨fun | 6=>78 | 15=>72 | 14=>106 | 28=>104 | 29=>67 | 20=>115 | 21=>116 | 22=>117 | 23=>118 | 24=>119 | 25=>120 | 26=>121 | 27=>122 | 46=>128 | 47=>111 | 48=>112 | 49=>129 | 50=>130 | 57=>133 | n=>n,fun | 22=>25 | 24=>81 | 25=>150 | 3=>3 | 39=>142 | 0=>0 | 53=>178 | 55=>72 | 4=>4 | 46=>172 | 45=>171 | 50=>132 | 5=>5 | 9=>9 | 66=>189 | 70=>193 | 76=>207 | 77=>45 | n=>n,fun | n=>n⟩
theorem sort78:Go.Proofs.SlLaysF0.n6 Tryz.prog sort42_ren:={
 mixed:=by kernel_rfl
 f6:=⟨Tryz.f78.name,by decide,Tryz.func78.trans (congrArg some (by kernel_rfl))⟩
 f14:=⟨Tryz.f106.name,by decide,Tryz.func106.trans (congrArg some (by kernel_rfl))⟩
 f15:=Tryz.func72.trans (congrArg some (by kernel_rfl))
 f20:=⟨Tryz.f115.name,by decide,Tryz.func115.trans (congrArg some (by kernel_rfl))⟩
 f21:=⟨Tryz.f116.name,by decide,Tryz.func116.trans (congrArg some (by kernel_rfl))⟩
 f22:=⟨Tryz.f117.name,by decide,Tryz.func117.trans (congrArg some (by kernel_rfl))⟩
 f23:=⟨Tryz.f118.name,by decide,Tryz.func118.trans (congrArg some (by kernel_rfl))⟩
 f24:=⟨Tryz.f119.name,by decide,Tryz.func119.trans (congrArg some (by kernel_rfl))⟩
 f25:=⟨Tryz.f120.name,by decide,Tryz.func120.trans (congrArg some (by kernel_rfl))⟩
 f26:=⟨Tryz.f121.name,by decide,Tryz.func121.trans (congrArg some (by kernel_rfl))⟩
 f27:=⟨Tryz.f122.name,by decide,Tryz.func122.trans (congrArg some (by kernel_rfl))⟩
 f28:=Tryz.func104.trans (congrArg some (by kernel_rfl))
 f29:=Tryz.func67.trans (congrArg some (by kernel_rfl))
 f46:=⟨Tryz.f128.name,by decide,Tryz.func128.trans (congrArg some (by kernel_rfl))⟩
 f47:=Tryz.func111.trans (congrArg some (by kernel_rfl))
 f48:=Tryz.func112.trans (congrArg some (by kernel_rfl))
 f49:=⟨Tryz.f129.name,by decide,Tryz.func129.trans (congrArg some (by kernel_rfl))⟩
 f50:=⟨Tryz.f130.name,by decide,Tryz.func130.trans (congrArg some (by kernel_rfl))⟩
 f57:=⟨Tryz.f133.name,by decide,Tryz.func133.trans (congrArg some (by kernel_rfl))⟩
 t0:=Tryz.underlying0
 a0:=Tryz.isAgg0
 z0:=Tryz.sizeOf0
 v0:=Tryz.zeroValue0
 t3:=Tryz.underlying3
 a3:=Tryz.isAgg3
 z3:=Tryz.sizeOf3
 v3:=Tryz.zeroValue3
 t4:=Tryz.underlying4
 a4:=Tryz.isAgg4
 z4:=Tryz.sizeOf4
 v4:=Tryz.zeroValue4
 t5:=Tryz.underlying5
 a5:=Tryz.isAgg5
 z5:=Tryz.sizeOf5
 v5:=Tryz.zeroValue5
 t9:=Tryz.underlying9
 a9:=Tryz.isAgg9
 z9:=Tryz.sizeOf9
 v9:=Tryz.zeroValue9
 t22:=Tryz.underlying25
 a22:=Tryz.isAgg25
 z22:=Tryz.sizeOf25
 v22:=Tryz.zeroValue25
 t25:=Tryz.underlying150
 a25:=Tryz.isAgg150
 z25:=Tryz.sizeOf150
 v25:=Tryz.zeroValue150
 t39:=Tryz.underlying142
 a39:=Tryz.isAgg142
 z39:=Tryz.sizeOf142
 v39:=Tryz.zeroValue142
 t45:=Tryz.underlying171
 a45:=Tryz.isAgg171
 z45:=Tryz.sizeOf171
 v45:=Tryz.zeroValue171
 t46:=Tryz.underlying172
 a46:=Tryz.isAgg172
 z46:=Tryz.sizeOf172
 v46:=Tryz.zeroValue172
 t50:=Tryz.underlying132
 a50:=Tryz.isAgg132
 z50:=Tryz.sizeOf132
 v50:=Tryz.zeroValue132
 t53:=Tryz.underlying178
 a53:=Tryz.isAgg178
 z53:=Tryz.sizeOf178
 v53:=Tryz.zeroValue178
 t55:=Tryz.underlying72
 a55:=Tryz.isAgg72
 z55:=Tryz.sizeOf72
 v55:=Tryz.zeroValue72
 t66:=Tryz.underlying189
 a66:=Tryz.isAgg189
 z66:=Tryz.sizeOf189
 v66:=Tryz.zeroValue189
 t70:=Tryz.underlying193
 a70:=Tryz.isAgg193
 z70:=Tryz.sizeOf193
 v70:=Tryz.zeroValue193
 t76:=Tryz.underlying207
 a76:=Tryz.isAgg207
 z76:=Tryz.sizeOf207
 v76:=Tryz.zeroValue207
 t77:=Tryz.underlying45
 a77:=Tryz.isAgg45
 z77:=Tryz.sizeOf45
 v77:=Tryz.zeroValue45 }
def clone41_ren:Go.Shelf.Ren:=⟨fun | 41=>77 | n=>n,fun | 22=>25 | 23=>81 | 4=>4 | n=>n,fun | n=>n⟩
end Go.Proofs.YtdpoppilnokniaaGreatDoor
namespace Go.Proofs.YtdpoppilnokniaaGreatDoor
open Go.RowKit Go.ChangeShapes Go.WideShapes Go.Deep
set_option linter.unusedVariables false
set_option linter.unusedSimpArgs false
def evs (v:Ev):List Value:=[.int .i64 v.dev,.int .i64 v.seq,.int .i64 v.at',.int .i64 v.late,.int .i64 v.kind,.int .i64 v.bike,.int .i64 v.place,.int .i64 v.rider,.int .i64 v.ride]
theorem evs_len (v:Ev):(evs v).length = 9:=rfl
def EvRow (w:World) (base:Nat) (v:Value) (n:Nat) (F:Nat→Ev):Prop:=Row w base 81 9 v n (fun i=>evs (F i))
structure EvAt (w:World) (b o:Nat) (v:Ev):Prop where
 c0:w.cell? ⟨b,o,none⟩ = some (.int .i64 v.dev)
 c1:w.cell? ⟨b,o+1,none⟩ = some (.int .i64 v.seq)
 c2:w.cell? ⟨b,o+2,none⟩ = some (.int .i64 v.at')
 c3:w.cell? ⟨b,o+3,none⟩ = some (.int .i64 v.late)
 c4:w.cell? ⟨b,o+4,none⟩ = some (.int .i64 v.kind)
 c5:w.cell? ⟨b,o+5,none⟩ = some (.int .i64 v.bike)
 c6:w.cell? ⟨b,o+6,none⟩ = some (.int .i64 v.place)
 c7:w.cell? ⟨b,o+7,none⟩ = some (.int .i64 v.rider)
 c8:w.cell? ⟨b,o+8,none⟩ = some (.int .i64 v.ride)
theorem EvAt.of {w:World}{b o:Nat}{v:Ev}(h:∀ j,j < 9→w.cell? ⟨b,o+j,none⟩ = (evs v)[j]?):EvAt w b o v :=
 ⟨h 0 (by decide),h 1 (by decide),h 2 (by decide),h 3 (by decide),h 4 (by decide),h 5 (by decide),h 6 (by decide),h 7 (by decide),h 8 (by decide)⟩
theorem EvRow.at {w:World}{base b n c:Nat}{F:Nat→Ev}(h:EvRow w base (.slice (some ⟨b,0,none⟩) n c) n F) {i:Nat}(hi:i < n):EvAt w b (i * 9) (F i) :=
 EvAt.of fun j hj=>Row.cell h (fun i=>rfl) hi hj
theorem EvRow.at2 {w:World}{base b n c:Nat}{F:Nat→Ev}(h:EvRow w base (.slice (some ⟨b,0,none⟩) n c) n F) {k i:Nat}(hi:k+i < n):EvAt w b (k * 9+i * 9) (F (k+i)):=by
 rw[←Nat.add_mul];exact h.at hi
theorem EvRow.put {w:World}{base b n c:Nat}{F:Nat→Ev}(h:EvRow w base (.slice (some ⟨b,0,none⟩) n c) n F) {i:Nat}(hi:i < n) (x:Ev):EvRow (putCells w b (i * 9) (evs x)) base (.slice (some ⟨b,0,none⟩) n c) n (upd F i x) :=
 Row.congr (Row.put h (fun i=>rfl) hi (evs x) rfl) fun j _=>by
  by_cases hj:j = i
  ·subst hj;rw[upd_same,upd_same]
  ·rw[upd_ne hj,upd_ne hj]
def Compacted (w:World) (base b n c:Nat) (F:Nat→Ev) (e:Ending) (w':World):Prop :=
 ∃ (m:Nat) (F':Nat→Ev),e = .returned (.slice (some ⟨b,0,none⟩) m c)∧m≤n∧ents F' m = firstsE (ents F n)∧EvRow w' base (.slice (some ⟨b,0,none⟩) m c) m F'∧Off (fun k=>k = b) w w'
set_option maxHeartbeats 4000000 in
theorem compact81 (base b n c:Nat) (F:Nat→Ev) (w:World) (hR:EvRow w base (.slice (some ⟨b,0,none⟩) n c) n F):Calls Tryz.prog 81 #[.slice (some ⟨b,0,none⟩) n c,.func (.func 82) #[] #[]] w (Compacted w base b n c F):=by
 obtain ⟨hb,hn,hc⟩:b < w.heap.size∧n≤c∧c≤9223372036854775807:=by
  rcases Row.shape hR with ⟨h,_⟩ | ⟨g',cap',he,_,h1,h2,h3⟩
  ·cases h
  ·cases he;exact ⟨h1,h2,h3⟩
 have HR:=Lib.hid hR
 clear hR
 have zb:=szs hb
 by_cases h2:n < 2
 ·have t2:(n:Int) < 2:=by omega
  have HF:=Lib.hid (firsts_few F h2)
  clear h2
  go_enter Tryz.func81,Tryz.ntmps81
  go_wp2_with fail
  go_returns
  exact ⟨n,F,rfl,Nat.le_refl _,HF.out.symm,HR.out,Off.refl _ _⟩
 ·have t2:(2:Int)≤(n:Int):=by omega
  go_enter Tryz.func81,Tryz.ntmps81
  go_wp2_with fail
  go_loopw [5] (fun i wr=>∃ k:Nat,i = .int .i64 k∧1≤k∧k≤n∧Hid (firstsE (ents F k) = ents F k∧Below w.heap.size w wr)) (fun i _=>n - (intOf i).toNat)
  case atStart=>exact ⟨1,rfl,by omega,by omega,Lib.hid ⟨rfl,by (repeat' (first | with_reducible (first | exact Below.refl _ _ | assumption | refine Below.drew ?_ | refine below_drewN ?_ _ | refine Below.alloc ?_ ?_ _ | refine Below.setCell ?_ ?_ _) | go_size))⟩⟩
  case round =>
   obtain ⟨k,rfl,hk1,hk,hrel⟩:=hrel
   obtain ⟨kk,rfl⟩:∃ kk,k = kk+1:=⟨k - 1,by omega⟩
   by_cases hlt:kk+1 < n
   ·have k1:((kk:Int)+1) < (n:Int):=by omega
    have k2:(kk:Int) < (n:Int):=by omega
    have C47:=fun w'=>set82 (F (kk+1)) (F kk) w'
    have RR:EvRow wr base (.slice (some ⟨b,0,none⟩) n c) n F:=Row.off (X:=fun _=>False) HR.out (Off.of_below hrel.out.2) (fun _ _ h=>h)
    have A1:=RR.at hlt
    have A0:=RR.at (show kk < n by omega)
    have zr:=szs (Nat.lt_of_lt_of_le hb hrel.out.2.size)
    obtain ⟨r,hr⟩:∃ r,r = sameN (F (kk+1)) (F kk):=⟨_,rfl⟩
    obtain ⟨v,hv⟩:∃ v,v = F (kk+1):=⟨_,rfl⟩
    obtain ⟨u,hu⟩:∃ u,u = F kk:=⟨_,rfl⟩
    rw[←hr] at C47
    rw[←hv] at A1 C47
    rw[←hu] at A0 C47
    have HV:=Lib.hid hv
    have HU:=Lib.hid hu
    have HS:=Lib.hid hr
    clear RR hr hv hu
    unfold eC at C47
    obtain ⟨v1,v2,v3,v4,v5,v6,v7,v8,v9⟩:=v
    obtain ⟨n1,n2,n3,n4,n5,n6,n7,n8,n9⟩:=u
    (have a0:=(A1).c0;have a1:=(A1).c1;have a2:=(A1).c2;have a3:=(A1).c3;have a4:=(A1).c4;have a5:=(A1).c5;have a6:=(A1).c6;have a7:=(A1).c7;have a8:=(A1).c8);(try dsimp only at a0 a1 a2 a3 a4 a5 a6 a7 a8)
    (have d0:=(A0).c0;have d1:=(A0).c1;have d2:=(A0).c2;have d3:=(A0).c3;have d4:=(A0).c4;have d5:=(A0).c5;have d6:=(A0).c6;have d7:=(A0).c7;have d8:=(A0).c8);(try dsimp only at d0 d1 d2 d3 d4 d5 d6 d7 d8)
    dsimp only at C47
    have C47:=Lib.hid C47
    clear A1 A0
    have HREL:=hrel
    clear hrel
    go_wp2_with fail
    (obtain ⟨ι,hne,Fw,fb,hF⟩:=dfamily wr);have hF:∀ w',(dPlan wr (fun i=>.bool r) [10] [] []).D () w'→∃ i,w' = Fw i:=hF
    (have f0:=fun i=>cell_kept (fb i) a0;have f1:=fun i=>cell_kept (fb i) a1;have f2:=fun i=>cell_kept (fb i) a2;have f3:=fun i=>cell_kept (fb i) a3;have f4:=fun i=>cell_kept (fb i) a4;have f5:=fun i=>cell_kept (fb i) a5;have f6:=fun i=>cell_kept (fb i) a6;have f7:=fun i=>cell_kept (fb i) a7;have f8:=fun i=>cell_kept (fb i) a8);(clear a0 a1 a2 a3 a4 a5 a6 a7 a8)
    (have g0:=fun i=>cell_kept (fb i) d0;have g1:=fun i=>cell_kept (fb i) d1;have g2:=fun i=>cell_kept (fb i) d2;have g3:=fun i=>cell_kept (fb i) d3;have g4:=fun i=>cell_kept (fb i) d4;have g5:=fun i=>cell_kept (fb i) d5;have g6:=fun i=>cell_kept (fb i) d6;have g7:=fun i=>cell_kept (fb i) d7;have g8:=fun i=>cell_kept (fb i) d8);(clear d0 d1 d2 d3 d4 d5 d6 d7 d8)
    (refine region_chain (dPlan wr (fun i=>.bool r) [10] [] []) () [] [0,1,2,3,4,5,6,7,8,9,10] [] mixed (by kernel_rfl) (by kernel_rfl) (dPlan_ok (by simp) (by simp)) (dPlan_start _ _ _ _ _) ?_;refine wpPure_nil ?_;simp only[List.map_cons,List.map_nil,Array.getD_eq_getD_getElem?,List.getElem?_toArray,List.getElem?_cons_zero,List.getElem?_cons_succ,Option.getD_some])
    (repeat (first | (refine wpChain_skip rfl ?_;simp only[Act.put,List.setIfInBounds_toArray,List.set_cons_succ,List.set_cons_zero]) | (refine wpChain_quiet hF rfl rfl rfl ?_;intro K hK;go_big_quiet_op;go_big_quiet_on) | (refine wpChain_pure _ rfl rfl (fun w' _=>by go_simp;try rfl) ?_;simp only[Act.put,List.setIfInBounds_toArray,List.set_cons_succ,List.set_cons_zero])))
    refine wpChain_dcall 82 _ rfl rfl (fun w'=>by go_simp) (fun w' hb=>C47.out w') ?_
    simp only[Act.put,List.setIfInBounds_toArray,List.set_cons_succ,List.set_cons_zero]
    refine wpChain_nil (fun w4 hb4 hl4=>?_)
    have B4:Hid (Grew wr w4):=hb4
    clear hb4 hl4 hF fb hne C47 f0 f1 f2 f3 f4 f5 f6 f7 f8 g0 g1 g2 g3 g4 g5 g6 g7 g8
    go_wp2_with fail
    refine onlyN_intro ?_
    cases r
    ·go_wp2_with fail
     go_roundw
     case rel =>
      refine ⟨kk+2,by go_num,by omega,by omega,Lib.hid ⟨?_,?_⟩⟩
      ·rw[firsts_step F (by omega),HREL.out.1,ents_succ F (kk+1),if_neg]
       rw[Nat.add_sub_cancel,sameN_comm,←HS.out];decide
      ·exact HREL.out.2.trans (B4.out.1.mono HREL.out.2.size)
     case measure=>simp [intOf];omega
    ·have HEQ:Hid (firstsE (ents F (kk+2)) = ents F (kk+1)):=Lib.hid (by
      rw[firsts_step F (show 0 < kk+1 by omega),if_pos (by rw[Nat.add_sub_cancel,sameN_comm,←HS.out]),HREL.out.1])
     have BW:=Lib.hid (HREL.out.2.trans (B4.out.1.mono HREL.out.2.size))
     have O4:=Lib.hid (Off.of_below (X:=fun k=>k = b) BW.out)
     clear HREL B4 C47 HS HV HU hF zr
     go_wp2_with fail
     obtain ⟨m,hm⟩:∃ m,n - (kk+1) = m:=⟨_,rfl⟩
     obtain ⟨c2,hc2⟩:∃ c2,c - (kk+1) = c2:=⟨_,rfl⟩
     rw[hm,hc2]
     have hmn:kk+1+m = n:=by omega
     have hm1:m≤c2:=by omega
     have hm2:c2≤9223372036854775807:=by omega
     clear hm hc2 ι Fw
     go_loopw [5,7] (fun s5 s7 wr=>∃ (j i:Nat) (F':Nat→Ev),s5 = .int .i64 j∧s7 = .int .i64 ((i:Int)+1)∧i+1≤m∧j≤kk+1+i∧Hid (ents F' j = firstsE (ents F (kk+1+(i+1)))∧(∀ x,j≤x→F' x = F x)∧EvRow wr base (.slice (some ⟨b,0,none⟩) n c) n F'∧Off (fun k=>k = b) w wr)) (fun _ s7 _=>m - (intOf s7).toNat)
     case atStart=>exact ⟨kk+1,0,F,rfl,rfl,by omega,by omega,Lib.hid ⟨HEQ.out.symm,fun x _=>rfl,Row.off (X:=fun _=>False) HR.out (Off.of_below BW.out) (fun _ _ h=>h),O4.out⟩⟩
     case round =>
      obtain ⟨j,i,F',rfl,rfl,hi,hj,hrel⟩:=hrel
      have HREL:=hrel
      clear hrel O4 BW HEQ
      have zr:=szs (Nat.lt_of_lt_of_le hb HREL.out.2.2.2.size)
      by_cases hlt2:i+1 < m
      ·have i1:((i:Int)+1) < (m:Int):=by omega
       have i2:(i:Int) < (m:Int):=by omega
       have RR:=HREL.out.2.2.1
       have A1:=RR.at2 (k:=kk+1) (i:=i+1) (by omega)
       have A0:=RR.at2 (k:=kk+1) (i:=i) (by omega)
       have e1:F' (kk+1+(i+1)) = F (kk+1+(i+1)):=HREL.out.2.1 _ (by omega)
       have e0:F' (kk+1+i) = F (kk+1+i):=HREL.out.2.1 _ (by omega)
       rw[e1] at A1
       rw[e0] at A0
       have C47:=fun w'=>set82 (F (kk+1+(i+1))) (F (kk+1+i)) w'
       obtain ⟨r,hr⟩:∃ r,r = sameN (F (kk+1+(i+1))) (F (kk+1+i)):=⟨_,rfl⟩
       obtain ⟨v,hv⟩:∃ v,v = F (kk+1+(i+1)):=⟨_,rfl⟩
       obtain ⟨u,hu⟩:∃ u,u = F (kk+1+i):=⟨_,rfl⟩
       rw[←hr] at C47
       rw[←hv] at A1 C47
       rw[←hu] at A0 C47
       have HV:=Lib.hid hv
       have HS:=Lib.hid hr
       clear RR hr hv hu e1 e0
       unfold eC at C47
       obtain ⟨x1,x2,x3,x4,x5,x6,x7,x8,x9⟩:=v
       obtain ⟨y1,y2,y3,y4,y5,y6,y7,y8,y9⟩:=u
       (have a0:=(A1).c0;have a1:=(A1).c1;have a2:=(A1).c2;have a3:=(A1).c3;have a4:=(A1).c4;have a5:=(A1).c5;have a6:=(A1).c6;have a7:=(A1).c7;have a8:=(A1).c8);(try dsimp only at a0 a1 a2 a3 a4 a5 a6 a7 a8)
       (have d0:=(A0).c0;have d1:=(A0).c1;have d2:=(A0).c2;have d3:=(A0).c3;have d4:=(A0).c4;have d5:=(A0).c5;have d6:=(A0).c6;have d7:=(A0).c7;have d8:=(A0).c8);(try dsimp only at d0 d1 d2 d3 d4 d5 d6 d7 d8)
       dsimp only at C47
       have C47:=Lib.hid C47
       clear A1 A0
       go_wp2_with fail
       (obtain ⟨ι,hne,Fw,fb,hF⟩:=dfamily wr);have hF:∀ w',(dPlan wr (fun i=>.bool r) [10] [] []).D () w'→∃ i,w' = Fw i:=hF
       (have f0:=fun i=>cell_kept (fb i) a0;have f1:=fun i=>cell_kept (fb i) a1;have f2:=fun i=>cell_kept (fb i) a2;have f3:=fun i=>cell_kept (fb i) a3;have f4:=fun i=>cell_kept (fb i) a4;have f5:=fun i=>cell_kept (fb i) a5;have f6:=fun i=>cell_kept (fb i) a6;have f7:=fun i=>cell_kept (fb i) a7;have f8:=fun i=>cell_kept (fb i) a8);(clear a0 a1 a2 a3 a4 a5 a6 a7 a8)
       (have g0:=fun i=>cell_kept (fb i) d0;have g1:=fun i=>cell_kept (fb i) d1;have g2:=fun i=>cell_kept (fb i) d2;have g3:=fun i=>cell_kept (fb i) d3;have g4:=fun i=>cell_kept (fb i) d4;have g5:=fun i=>cell_kept (fb i) d5;have g6:=fun i=>cell_kept (fb i) d6;have g7:=fun i=>cell_kept (fb i) d7;have g8:=fun i=>cell_kept (fb i) d8);(clear d0 d1 d2 d3 d4 d5 d6 d7 d8)
       (refine region_chain (dPlan wr (fun i=>.bool r) [10] [] []) () [] [0,1,2,3,4,5,6,7,8,9,10,11] [] mixed (by kernel_rfl) (by kernel_rfl) (dPlan_ok (by simp) (by simp)) (dPlan_start _ _ _ _ _) ?_;refine wpPure_nil ?_;simp only[List.map_cons,List.map_nil,Array.getD_eq_getD_getElem?,List.getElem?_toArray,List.getElem?_cons_zero,List.getElem?_cons_succ,Option.getD_some])
       (repeat (first | (refine wpChain_skip rfl ?_;simp only[Act.put,List.setIfInBounds_toArray,List.set_cons_succ,List.set_cons_zero]) | (refine wpChain_quiet hF rfl rfl rfl ?_;intro K hK;go_big_quiet_op;go_big_quiet_on) | (refine wpChain_pure _ rfl rfl (fun w' _=>by go_simp;try rfl) ?_;simp only[Act.put,List.setIfInBounds_toArray,List.set_cons_succ,List.set_cons_zero])))
       refine wpChain_dcall 82 _ rfl rfl (fun w'=>by go_simp) (fun w' hb=>C47.out w') ?_
       simp only[Act.put,List.setIfInBounds_toArray,List.set_cons_succ,List.set_cons_zero]
       (repeat (first | (refine wpChain_skip rfl ?_;simp only[Act.put,List.setIfInBounds_toArray,List.set_cons_succ,List.set_cons_zero]) | (refine wpChain_quiet hF rfl rfl rfl ?_;intro K hK;go_big_quiet_op;go_big_quiet_on) | (refine wpChain_pure _ rfl rfl (fun w' _=>by go_simp;try rfl) ?_;simp only[Act.put,List.setIfInBounds_toArray,List.set_cons_succ,List.set_cons_zero])))
       refine wpChain_nil (fun w4 hb4 hl4=>?_)
       have B4:Hid (Grew wr w4):=hb4
       clear hb4 hl4 hF fb hne C47 f0 f1 f2 f3 f4 f5 f6 f7 f8 g0 g1 g2 g3 g4 g5 g6 g7 g8
       go_wp2_with fail
       refine onlyN_intro ?_
       have RR4:EvRow w4 base (.slice (some ⟨b,0,none⟩) n c) n F':=Row.off (X:=fun _=>False) HREL.out.2.2.1 (Off.of_below B4.out.1) (fun _ _ h=>h)
       have z4:=szs (Nat.lt_of_lt_of_le hb (Nat.le_trans HREL.out.2.2.2.size B4.out.1.size))
       have ST:=firsts_step F (show 0 < kk+1+(i+1) by omega)
       have e2:kk+1+(i+1) - 1 = kk+1+i:=by omega
       rw[e2,sameN_comm,←HS.out] at ST
       have OW:=Lib.hid (HREL.out.2.2.2.trans (Off.of_below (X:=fun k=>k = b) B4.out.1) (fun _ _ h=>h))
       cases r
       ·rw[if_neg (by decide)] at ST
        have HST:=Lib.hid ST
        have A2:=RR4.at2 (k:=kk+1) (i:=i+1) (by omega)
        have A3:=RR4.at (show j < n by omega)
        have e1:F' (kk+1+(i+1)) = F (kk+1+(i+1)):=HREL.out.2.1 _ (by omega)
        rw[e1,←HV.out] at A2
        have fr:∀ o,w4.frozen? ⟨b,o,none⟩ = false:=fun o=>Row.free RR4 o
        have tj:(j:Int) < (n:Int):=by omega
        have HR4:=Lib.hid RR4
        (have a0:=(A2).c0;have a1:=(A2).c1;have a2:=(A2).c2;have a3:=(A2).c3;have a4:=(A2).c4;have a5:=(A2).c5;have a6:=(A2).c6;have a7:=(A2).c7;have a8:=(A2).c8);(try dsimp only at a0 a1 a2 a3 a4 a5 a6 a7 a8)
        have d0:=A3.c0
        have d1:=A3.c1
        have d2:=A3.c2
        have d3:=A3.c3
        have d4:=A3.c4
        have d5:=A3.c5
        have d6:=A3.c6
        have d7:=A3.c7
        have d8:=A3.c8
        clear ST e2 RR4 A2 A3 e1 zr
        go_wp2_with fail
        go_roundw
        case rel =>
         have hput:=(HR4.out).put (show j < n by omega) ⟨x1,x2,x3,x4,x5,x6,x7,x8,x9⟩
         refine ⟨j+1,i+1,upd F' j (F (kk+1+(i+1))),by go_num,by go_num,by omega,by omega,Lib.hid ⟨?_,fun x hx=>?_,?_,?_⟩⟩
         ·rw[ents_push,HREL.out.1];exact HST.out.symm
         ·rw[upd_ne (by omega)];exact HREL.out.2.1 x (by omega)
         ·rw[←HV.out];exact hput
         ·exact off_putCells (X:=fun k=>k = b) rfl (evs ⟨x1,x2,x3,x4,x5,x6,x7,x8,x9⟩) (j * 9) w4 OW.out
        case measure=>simp [intOf];omega
       ·rw[if_pos rfl] at ST
        have HST:=Lib.hid ST
        have HR4:=Lib.hid RR4
        clear ST e2 RR4 zr
        go_wp2_with fail
        go_roundw
        case rel =>
         exact ⟨j,i+1,F',rfl,by go_num,by omega,by omega,Lib.hid ⟨HREL.out.1.trans HST.out.symm,HREL.out.2.1,HR4.out,OW.out⟩⟩
        case measure=>simp [intOf];omega
      ·obtain rfl:m = i+1:=by omega
       obtain ⟨w5,hcl,hr5,ho5⟩:=clear_rest (P:=Tryz.prog) (fun i=>evs_len _) HREL.out.2.2.1 (k:=j) (by omega) Tryz.underlying25 (zv:=.agg #[.int .i64 0,.int .i64 0,.int .i64 0,.int .i64 0,.int .i64 0,.int .i64 0,.int .i64 0,.int .i64 0,.int .i64 0]) (fun w=>by kernel_rfl) (by rfl) (by simp [Value.cells];rfl)
       have H5:=Lib.hid hr5
       have O5:=Lib.hid ho5
       have tj:(j:Int)≤(n:Int):=by omega
       have tc:(j:Int)≤(c:Int):=by omega
       clear hr5 ho5
       go_wp2_with fail
       go_returns
       refine ⟨j,F',rfl,by omega,?_,H5.out,HREL.out.2.2.2.trans O5.out (fun _ _ h=>h)⟩
       rw[HREL.out.1,hmn]
   ·obtain rfl:n = kk+1:=by omega
    go_wp2_with fail
    go_returns
    exact ⟨_,F,rfl,Nat.le_refl _,hrel.out.1.symm,Row.off (X:=fun _=>False) HR.out (Off.of_below hrel.out.2) (fun _ _ h=>h),Off.of_below hrel.out.2⟩
end Go.Proofs.YtdpoppilnokniaaGreatDoor
namespace Go.Proofs.YtdpoppilnokniaaGreatDoor
open Go.RowKit Go.ChangeShapes Go.WideShapes Go.Deep
set_option linter.unusedVariables false
set_option linter.unusedSimpArgs false
theorem infoEv:(Tryz.prog.info? 81).map (fun i=>(i.zero,i.size,i.bytes)) = some (some (.agg #[.int .i64 0,.int .i64 0,.int .i64 0,.int .i64 0,.int .i64 0,.int .i64 0,.int .i64 0,.int .i64 0,.int .i64 0]),9,72):=by kernel_rfl
theorem evs_one (v:Ev):∀ u∈evs v,u.oneCell' = true:=by
 intro u hu
 simp only[evs,List.mem_cons,List.not_mem_nil,or_false] at hu
 rcases hu with rfl | rfl | rfl | rfl | rfl | rfl | rfl | rfl | rfl <;> rfl
theorem swoE:Go.Sort.SWO (ltOf cmpE) where
 irrefl x:=by simp [ltOf,cmpE,cmpL_self]
 trans x y z h1 h2:=decide_eq_true (cmpL_trans (by rfl) (by rfl) (of_decide_eq_true h1) (of_decide_eq_true h2))
 ntrans x y z h1 h2:=by
  have h1:=of_decide_eq_false h1
  have h2:=of_decide_eq_false h2
  refine decide_eq_false fun h=>?_
  by_cases e:cmpE x y = 0
  ·have:x = y:=keyE_inj (cmpL_zero (by rfl) e)
   subst this;exact h2 h
  ·have hn:cmpE y x = - cmpE x y:=cmpL_neg _ _
   exact h2 (cmpL_trans (xs:=keyE y) (ys:=keyE x) (by rfl) (by rfl) (by unfold cmpE at *;omega) h)
theorem swoD:Go.Sort.SWO (ltOf cmpD) where
 irrefl x:=by simp [ltOf,cmpD,cmpL_self]
 trans x y z h1 h2:=decide_eq_true (cmpL_trans (by rfl) (by rfl) (of_decide_eq_true h1) (of_decide_eq_true h2))
 ntrans x y z h1 h2:=by
  have h1:=of_decide_eq_false h1
  have h2:=of_decide_eq_false h2
  refine decide_eq_false fun h=>?_
  by_cases e:cmpD x y = 0
  ·have:x = y:=cmpD_zero e
   subst this;exact h2 h
  ·have hn:cmpD y x = - cmpD x y:=cmpL_neg _ _
   exact h2 (cmpL_trans (xs:=keyD y) (ys:=keyD x) (by rfl) (by rfl) (by unfold cmpD at *;omega) h)
def Sorted (cf:Ev→Ev→Int) (w:World) (base b n c:Nat) (F:Nat→Ev) (e:Ending) (w':World):Prop :=
 e = .returned (.tuple #[])∧∃ F':Nat→Ev,(ents F' n).Perm (ents F n)∧(∀ i j,i < j→j < n→ltOf cf (F' j) (F' i) = false)∧EvRow w' base (.slice (some ⟨b,0,none⟩) n c) n F'∧Off (fun k=>k = b) w w'
set_option maxRecDepth 8000 in
theorem sortD (base b n c:Nat) (F:Nat→Ev) (w:World) (hR:EvRow w base (.slice (some ⟨b,0,none⟩) n c) n F) (hn:n < 4611686018427387904):Calls Tryz.prog 78 #[.slice (some ⟨b,0,none⟩) n c,.func (.func 79) #[] #[]] w (Sorted cmpD w base b n c F) :=
 sort_row sort78 9 (fun w=>by kernel_rfl) (fun w=>by kernel_rfl) evs evs_len evs_one cmpD swoD 79 (enters_of Tryz.func79 (by kernel_rfl) rfl) (fun x y w=>set79 x y w) hR hn
set_option maxRecDepth 8000 in
theorem sortE (base b n c:Nat) (F:Nat→Ev) (w:World) (hR:EvRow w base (.slice (some ⟨b,0,none⟩) n c) n F) (hn:n < 4611686018427387904):Calls Tryz.prog 78 #[.slice (some ⟨b,0,none⟩) n c,.func (.func 80) #[] #[]] w (Sorted cmpE w base b n c F) :=
 sort_row sort78 9 (fun w=>by kernel_rfl) (fun w=>by kernel_rfl) evs evs_len evs_one cmpE swoE 80 (enters_of Tryz.func80 (by kernel_rfl) rfl) (fun x y w=>compare80 x y w) hR hn
theorem sort_none (fv:Value) (c:Nat) (p:Option Addr) (w:World):Calls Tryz.prog 78 #[.slice p 0 c,fv] w fun e w'=>e = .returned (.tuple #[])∧w' = w :=
 AnyF.slices_SortFunc_none sort78 p c fv w
def Cloned (w:World) (n:Nat) (f:Nat→List Value) (e:Ending) (w':World):Prop:=∃ v,e = .returned v∧Row w' w.heap.size 81 9 v n f∧Below w.heap.size w w'
theorem clone41w (ao:Option Addr) (n c:Nat) (f:Nat→List Value) (w:World) (h:Sl w 9 ao n c f) (h1:∀ i,∀ u∈f i,u.oneCell' = true) (hn:n≤1000000):Calls Tryz.prog 77 #[.slice ao n c] w (Cloned w n f):=by
 obtain ⟨i0,hi,hz0,hz1,hz2⟩:=info_parts infoEv
 cases ao with
 | none =>
  obtain ⟨rfl,rfl⟩:=h.hno rfl
  have q34:∀ w,(binOp .eql 25 (.slice none 0 0) (.slice none 0 0)).run Tryz.prog w = .ok (.bool true) w:=fun w=>Lib.run_eql_slice_nil w _ _ none 0 0 0 0 Tryz.underlying25
  clear h
  go_enter Tryz.func77,Tryz.ntmps77
  go_wp2_with fail
  go_returns
  exact ⟨_,rfl,⟨by simp [flat],.inl ⟨rfl,rfl⟩⟩,Below.refl _ _⟩
 | some a =>
  have HS:=Lib.hid h
  have q34:∀ w,(binOp .eql 25 (.slice (some a) n c) (.slice none 0 0)).run Tryz.prog w = .ok (.bool false) w:=fun w=>Lib.run_eql_slice_nil w _ _ (some a) n c 0 0 Tryz.underlying25
  have B0:Hid (Below w.heap.size w (w.alloc (.cells #[] 81))):=Lib.hid (by (repeat' (first | with_reducible (first | exact Below.refl _ _ | assumption | refine Below.drew ?_ | refine below_drewN ?_ _ | refine Below.alloc ?_ ?_ _ | refine Below.setCell ?_ ?_ _) | go_size)))
  clear h
  go_enter Tryz.func77,Tryz.ntmps77
  go_wp2_with (at_builtin;refine wpList_append_sl _ rfl (.tmp 5) (.tmp 6) 25 rfl w.heap.size 81 i0 _ 9 72 Tryz.underlying25 hi hz0 hz1 hz2 rfl (by decide) _ 0 f rfl (World.ownsRow_made w #[] 0 (Nat.le_refl _) (Nat.zero_le _) (by simp)) HS.out.len (some a) n c f rfl HS.out.len (fun h=>by cases h) (HS.out.sl.below HS.out.len B0.out) h1 (by omega) (by unfold maxLen;omega) (by simp) ?_)
  intro v' w' hr hg hf
  have B1:Hid (Below w.heap.size w w'):=Lib.hid ((Below.refl _ w).alloc (Nat.le_refl _) _ |>.grown hg (by simp) (by intro k hk;simp [Value.ownBlock] at hk;omega))
  have HR:Hid (Row w' w.heap.size 81 9 v' n f):=Lib.hid (by
   exact Row.congr hr fun i hi=>by simp [cat])
  clear hr hg hf
  go_wp2_with fail
  go_returns
  exact ⟨_,rfl,HR.out,B1.out⟩
theorem compact46_nil (fv:Value) (w:World):Calls Tryz.prog 81 #[.slice none 0 0,fv] w fun e w'=>e = .returned (.slice none 0 0)∧w = w':=by
 go_enter Tryz.func81,Tryz.ntmps81
 go_wp2_with fail
 go_returns
 exact ⟨rfl,rfl⟩
def SetMade (w:World) (l:List Ev) (e:Ending) (w':World):Prop:=∃ (v:Value) (m:Nat) (R:Nat→Ev),e = .returned v∧ents R m = setE l∧EvRow w' w.heap.size v m R∧Below w.heap.size w w'
theorem set57 (ao:Option Addr) (n c:Nat) (F:Nat→Ev) (w:World) (h:Sl w 9 ao n c (fun i=>evs (F i))) (hn:n≤1000000):Calls Tryz.prog 57 #[.slice ao n c] w (SetMade w (ents F n)):=by
 have C1:=Lib.hid (clone41w ao n c _ w h (fun i=>evs_one _) hn)
 clear h
 go_enter Tryz.func57,Tryz.ntmps57
 go_wp2_with fail
 refine C1.out.mono ?_
 rintro e w1 ⟨v,rfl,r1,b1⟩
 have B1:=Lib.hid b1
 clear b1
 rcases Row.shape r1 with ⟨rfl,rfl⟩ | ⟨b,cap,rfl,hb,hlt,hnc,hcm⟩
 ·have C2:=Lib.hid (sort_none (.func (.func 79) #[] #[]) 0 none w1)
  have C3:=Lib.hid (sort_none (.func (.func 80) #[] #[]) 0 none w1)
  clear r1
  go_wp2_with fail
  refine C2.out.mono ?_
  rintro e w2 ⟨rfl,rfl⟩
  go_wp2_with fail
  refine (compact46_nil (.func (.func 82) #[] #[]) _).mono ?_
  rintro e w3 ⟨rfl,rfl⟩
  go_wp2_with fail
  refine C3.out.mono ?_
  rintro e w4 ⟨rfl,rfl⟩
  go_wp2_with fail
  go_returns
  exact ⟨_,0,F,rfl,rfl,⟨by simp [flat],.inl ⟨rfl,rfl⟩⟩,B1.out⟩
 ·have R1:Hid (EvRow w1 w.heap.size (.slice (some ⟨b,0,none⟩) n cap) n F):=Lib.hid r1
  clear r1
  have C2:=Lib.hid (sortD _ b n cap F w1 R1.out (by omega))
  go_wp2_with fail
  refine C2.out.mono ?_
  rintro e w2 ⟨rfl,D,p2,s2,r2,o2⟩
  have R2:=Lib.hid r2
  have S2:=Lib.hid s2
  have P2:=Lib.hid p2
  have O2:=Lib.hid o2
  clear r2 s2 p2 o2 C2 C1
  have C3:=Lib.hid (compact81 _ b n cap D w2 R2.out)
  go_wp2_with fail
  refine C3.out.mono ?_
  rintro e w3 ⟨m,G,rfl,hm,g3,r3,o3⟩
  have R3:=Lib.hid r3
  have G3:=Lib.hid g3
  have O3:=Lib.hid o3
  clear r3 g3 o3 C3
  have C4:=Lib.hid (sortE _ b m cap G w3 R3.out (by omega))
  go_wp2_with fail
  refine C4.out.mono ?_
  rintro e w4 ⟨rfl,R,p4,s4,r4,o4⟩
  have R4:=Lib.hid r4
  have S4:=Lib.hid s4
  have P4:=Lib.hid p4
  have O4:=Lib.hid o4
  clear r4 s4 p4 o4 C4
  go_wp2_with fail
  go_returns
  refine ⟨_,m,R,rfl,set_of_sorts P2.out (fun i j h1 h2=>of_decide_eq_false (S2.out i j h1 h2)) (by rw[←G3.out];exact P4.out) (fun i j h1 h2=>S4.out i j h1 h2),R4.out,?_⟩
  have o:=(O2.out.trans (O3.out.trans O4.out (fun _ _ h=>h)) (fun _ _ h=>h))
  exact B1.out.trans (o.toBelow B1.out.size (fun k hk h=>by omega))
end Go.Proofs.YtdpoppilnokniaaGreatDoor
namespace Go.Proofs.YtdpoppilnokniaaGreatDoor
open Go.RowKit Go.ChangeShapes Go.WideShapes Go.Deep
set_option linter.unusedVariables false
set_option linter.unusedSimpArgs false
def Made (w:World) (l:List Ev) (e:Ending) (w':World):Prop:=∃ (v:Value) (m:Nat) (R:Nat→Ev),e = .returned v∧ents R m = l∧EvRow w' w.heap.size v m R∧Below w.heap.size w w'
def Box (w:World) (b:Nat) (v:Ev):Prop:=EvRow w 0 (.slice (some ⟨b,0,none⟩) 1 1) 1 (fun _=>v)
theorem Box.new (w:World) (v:Ev):Box (w.alloc (.cells (eC v) 81)) w.heap.size v :=
 ⟨rfl,.inr ⟨_,1,eC v,rfl,Nat.zero_le _,heap_alloc_new w _,Nat.le_refl _,by decide,rfl,rfl⟩⟩
theorem Box.at {w:World}{b:Nat}{v:Ev}(h:Box w b v):EvAt w b 0 v:=by
 have:=EvRow.at h (i:=0) (by decide)
 rwa [Nat.zero_mul] at this
theorem Box.put {w:World}{b:Nat}{v:Ev}(h:Box w b v) (x:Ev):Box (putCells w b 0 (evs x)) b x:=by
 have:=EvRow.put h (i:=0) (by decide) x
 rw[Nat.zero_mul] at this
 exact Row.congr this fun i hi=>by
  obtain rfl:i = 0:=by omega
  rw[upd_same]
theorem Box.lt {w:World}{b:Nat}{v:Ev}(h:Box w b v):b < w.heap.size:=by
 rcases Row.shape h with ⟨h,_⟩ | ⟨g,c,he,_,hl,_⟩
 ·cases h
 ·cases he;exact hl
theorem Box.off {X:Nat→Prop}{w w':World}{b:Nat}{v:Ev}(h:Box w b v) (ho:Off X w w') (hX:¬ X b):Box w' b v:=Row.off h ho (fun g hg=>by cases hg;exact hX)
theorem Box.below {w w':World}{b:Nat}{v:Ev}(h:Box w b v) (hb:Below w.heap.size w w'):Box w' b v:=h.off (X:=fun _=>False) (Off.of_below hb) (fun h=>h)
theorem EvRow.below {w w':World}{base:Nat}{v:Value}{n:Nat}{F:Nat→Ev}(h:EvRow w base v n F) (hb:Below w.heap.size w w'):EvRow w' base v n F:=Row.off (X:=fun _=>False) h (Off.of_below hb) (fun _ _ h=>h)
theorem evs_at {w:World}{ao:Option Addr}{m c:Nat}{F:Nat→Ev}(h:Sl w 9 ao m c (fun i=>evs (F i))) {i:Nat}(hi:i < m):∃ g o,ao = some ⟨g,o,none⟩∧g < w.heap.size∧EvAt w g (o+i * 9) (F i):=by
 obtain ⟨g,o,e,hc⟩:=h.cell hi
 have hA:=EvAt.of (v:=F i) hc
 exact ⟨g,o,e,cell_lt hA.c0,hA⟩
theorem EvAt.below {w w':World}{b o:Nat}{v:Ev}(h:EvAt w b o v) (hb:Below w.heap.size w w'):EvAt w' b o v:=⟨cell_kept hb h.c0,cell_kept hb h.c1,cell_kept hb h.c2,cell_kept hb h.c3,cell_kept hb h.c4,cell_kept hb h.c5,cell_kept hb h.c6,cell_kept hb h.c7,cell_kept hb h.c8⟩
theorem Box.free {w:World}{b:Nat}{v:Ev}(h:Box w b v) (j:Nat):w.frozen? ⟨b,j,none⟩ = false:=Row.free h j
theorem EvRow.after {w:World}{base b n:Nat}{v:Value}{F:Nat→Ev}(h:EvRow w base v n F) (hb:b < base) (x:Ev):EvRow (putCells w b 0 (evs x)) base v n F :=
 Row.off h (off_putCells (X:=fun k=>k = b) rfl (evs x) 0 w (Off.refl _ _)) (fun g hg hx=>by
  rcases Row.shape h with ⟨rfl,_⟩ | ⟨g',c,rfl,h1,_⟩
  ·simp [Value.ownBlock] at hg
  ·simp [Value.ownBlock] at hg;omega)
theorem EvRow.apart {w:World}{base b n:Nat}{v:Value}{F:Nat→Ev}(h:EvRow w base v n F) (hb:b < base):¬ some b = v.ownBlock:=fun hg=>by
 rcases Row.shape h with ⟨rfl,_⟩ | ⟨g',c,rfl,h1,_⟩
 ·simp [Value.ownBlock] at hg
 ·simp [Value.ownBlock] at hg;omega
theorem Row.apart {w:World}{base e s n:Nat}{v:Value}{f:Nat→List Value}(h:Row w base e s v n f) {q:Nat}(hq:q < base):¬ some q = v.ownBlock:=fun hg=>by
 rcases Row.shape h with ⟨rfl,_⟩ | ⟨g',c,rfl,h1,_⟩
 ·simp [Value.ownBlock] at hg
 ·simp [Value.ownBlock] at hg;omega
theorem SlE.drop {w:World}{s g o m:Nat}{f:Nat→List Value}(h:SlE w s (some ⟨g,o,none⟩) m f) (j:Nat):SlE w s (some ⟨g,o+j * s,none⟩) (m - j) (fun i=>f (j+i)):=fun i hi=>by
 obtain ⟨g',o',e,hc⟩:=h (j+i) (by omega)
 cases e
 refine ⟨g,o+j * s,rfl,fun q hq=>?_⟩
 rw[Nat.add_assoc o,←Nat.add_mul];exact hc q hq
end Go.Proofs.YtdpoppilnokniaaGreatDoor
namespace Go.Proofs.YtdpoppilnokniaaGreatDoor
open Go.RowKit Go.ChangeShapes Go.WideShapes Go.Deep
set_option linter.unusedVariables false
set_option linter.unusedSimpArgs false
abbrev EvSl (w:World) (ao:Option Addr) (n c:Nat) (F:Nat→Ev):Prop:=Sl w 9 ao n c (fun i=>evs (F i))
theorem EvRow.toSl {w:World}{base n:Nat}{v:Value}{F:Nat→Ev}(h:EvRow w base v n F):∃ ao c,v = .slice ao n c∧EvSl w ao n c F:=Row.toSl h (fun i=>evs_len _)
end Go.Proofs.YtdpoppilnokniaaGreatDoor
