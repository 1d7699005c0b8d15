/- Theorems of this seat. -/
import Derived.Shelf.Small.Bits
import Derived.Shelf.SlLaysH
import Derived.Shelf.SlicesE.IndexFunc
import Derived.Test.YtdpoppilnokniaaGreatDoorProg
namespace Go.Proofs.YtdpoppilnokniaaGreatDoor
open Go.Shelf
def len67_ren:Go.Shelf.Ren:=⟨fun | 129=>67 | n=>n,fun | 53=>72 | 3=>3 | 4=>4 | 46=>142 | 5=>5 | 9=>9 | n=>n,fun | n=>n⟩
theorem len67:Go.Proofs.Lays.n129 Tryz.prog len67_ren:={
 mixed:=by kernel_rfl
 f129:=Tryz.func67.trans (congrArg some (by kernel_rfl))
 t3:=Tryz.underlying3
 a3:=Tryz.isAgg3
 z3:=Tryz.sizeOf3
 v3:=Tryz.zeroValue3
 t4:=Tryz.underlying4
 a4:=Tryz.isAgg4
 z4:=Tryz.sizeOf4
 v4:=Tryz.zeroValue4
 t5:=Tryz.underlying5
 a5:=Tryz.isAgg5
 z5:=Tryz.sizeOf5
 v5:=Tryz.zeroValue5
 t9:=Tryz.underlying9
 a9:=Tryz.isAgg9
 z9:=Tryz.sizeOf9
 v9:=Tryz.zeroValue9
 t46:=Tryz.underlying142
 a46:=Tryz.isAgg142
 z46:=Tryz.sizeOf142
 v46:=Tryz.zeroValue142
 t53:=Tryz.underlying72
 a53:=Tryz.isAgg72
 z53:=Tryz.sizeOf72
 v53:=Tryz.zeroValue72 }
def has73_ren:Go.Shelf.Ren:=⟨fun | 8=>73 | 6=>105 | n=>n,fun | 22=>22 | 23=>3 | 25=>114 | 4=>4 | 3=>3 | 0=>0 | n=>n,fun | n=>n⟩
theorem has73:Go.Proofs.SlLaysH.n8 Tryz.prog has73_ren:={
 mixed:=by kernel_rfl
 f6:=⟨Tryz.f105.name,by decide,Tryz.func105.trans (congrArg some (by kernel_rfl))⟩
 f8:=⟨Tryz.f73.name,by decide,Tryz.func73.trans (congrArg some (by kernel_rfl))⟩
 t0:=Tryz.underlying0
 a0:=Tryz.isAgg0
 z0:=Tryz.sizeOf0
 v0:=Tryz.zeroValue0
 t3:=Tryz.underlying3
 a3:=Tryz.isAgg3
 z3:=Tryz.sizeOf3
 v3:=Tryz.zeroValue3
 t4:=Tryz.underlying4
 a4:=Tryz.isAgg4
 z4:=Tryz.sizeOf4
 v4:=Tryz.zeroValue4
 t22:=Tryz.underlying22
 a22:=Tryz.isAgg22
 z22:=Tryz.sizeOf22
 v22:=Tryz.zeroValue22
 a23:=Tryz.isAgg3
 z23:=Tryz.sizeOf3
 t25:=Tryz.underlying114
 a25:=Tryz.isAgg114
 z25:=Tryz.sizeOf114
 v25:=Tryz.zeroValue114 }
end Go.Proofs.YtdpoppilnokniaaGreatDoor
