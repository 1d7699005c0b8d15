/- The law CrewRests. -/
import Derived.Test.YtlnfhlmgnppcbaaGreatRFA
import Derived.Test.YtlnfhlmgnppcbaaGreatYOPS
import Derived.Test.YtlnfhlmgnppcbaaGreatYAWS
import Derived.BigQuiet
namespace Go.Proofs.YtlnfhlmgnppcbaaGreat
open Go.RowKit Go.ChangeShapes Go.WideShapes Go.Deep
set_option linter.unusedVariables false
set_option linter.unusedSimpArgs false
open Rd
theorem Sl.nil {w : World} {n : Nat} {V : Nat → List Value} (hV : ∀ i, (V i).length = n) : Sl w n none 0 0 V := ⟨by omega, by omega, fun _ => ⟨rfl, rfl⟩, hV, fun i hi => absurd hi (by omega)⟩
end Go.Proofs.YtlnfhlmgnppcbaaGreat
