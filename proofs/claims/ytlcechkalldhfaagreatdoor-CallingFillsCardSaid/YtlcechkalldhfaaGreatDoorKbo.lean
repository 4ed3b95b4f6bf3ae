/- The closed facts of the row CallingFills, as the program has them: one theorem, checked by the kernel alone. -/
import Derived.Test.YtlcechkalldhfaaGreatDoorTie
import Derived.JoinedOf
import Derived.ProofKit
import Derived.WalkKit
set_option linter.all false
set_option maxRecDepth 100000
namespace Go.Proofs.YtlcechkalldhfaaGreatDoor
theorem closedFacts:joinedFacts Tryz.pinned.checked.prog 4 Tryz.f4 Rows.callingFillsSpec Rows.callingFillsRow=true:=by kernel_rfl
end Go.Proofs.YtlcechkalldhfaaGreatDoor
