/- The closed facts of the row CallingPlaces, as the program has them: one theorem, checked by the kernel alone. -/
import Derived.Test.YtlcechkalldhfaaGreatDoorTie
import Derived.JoinedOf
import Derived.ProofKit
import Derived.WalkKit
set_option linter.all false
set_option maxRecDepth 100000
namespace Go.Proofs.YtlcechkalldhfaaGreatDoor
theorem closedFacts:joinedFacts Tryz.pinned.checked.prog 3 Tryz.f3 Rows.callingPlacesSpec Rows.callingPlacesRow=true:=by kernel_rfl
end Go.Proofs.YtlcechkalldhfaaGreatDoor
