/- Part of the proof of CallingFills: engine, contracts or law, joined by a program from the texts RB. -/
import Derived.Test.YtlcechkalldhfaaGreatDoorKbl
import Derived.Test.YtlcechkalldhfaaGreatDoorKbo
set_option linter.all false
set_option maxRecDepth 100000
namespace Go.Proofs.YtlcechkalldhfaaGreatDoor
open Go.ChangeShapes Go.WideShapes Go.ChangeAt Go.WideMaps Go.WideElems Go.RowKit Go.En Go.En.V
theorem callingFills_holds:Rows.CallingFillsSaid:=
 OpenClaim.holds_of_wide 4 Tryz.f4 rfl rfl rfl rfl rfl rfl rfl ⟨rfl,rfl,rfl,rfl,rfl⟩ rfl rfl rfl rfl rfl (by kernel_rfl) Tryz.func4 closedFacts
  (of_decide_eq_true (by kernel_rfl)) (by unfold Func.isWrapper;first|(rw[if_pos (by decide+kernel)];kernel_rfl)|(rw[if_neg (by decide+kernel)];exact⟨rfl,rfl⟩))
  (fun os started H enc _=>lifted os started H enc)
end Go.Proofs.YtlcechkalldhfaaGreatDoor
