/- Part of the proof of CallingFills: engine, contracts or law, joined by a program from the texts RC. -/
import Derived.Test.YtlcechkalldhfaaGreatDoorKbm
set_option linter.all false
set_option maxRecDepth 100000
namespace Go.Proofs.YtlcechkalldhfaaGreatDoor
open Go.ChangeShapes Go.WideShapes Go.ChangeAt Go.WideMaps Go.WideElems Go.RowKit Go.En Go.En.V
theorem callingFills_card:Rows.CallingFillsCardSaid:=
 Claim7.holds_tied_plain_at .later [] [.data] true (true, "c4ae710ddea176483b2120d7583113c53286eadaf46a46f7e5e988eca0aaff99") false
  callingFills_holds (fun _ h=>by cases h) (by kernel_rfl) (fun _ h=>by cases h) callingFills_row_tie rfl ⟨rfl,rfl⟩ (by kernel_rfl) rfl
  (fun f fn hf WQ=>by
    obtain rfl:f=4:=Option.some.inj ((show Tryz.prog.funcNamed "retarget/retargetlaw32.CallingFills" =some 4 by kernel_rfl).symm.trans hf)|>.symm
    obtain rfl:fn=Tryz.f4:=(Option.some.inj (Tryz.func4.symm.trans WQ)).symm
    exact⟨by kernel_rfl,fun j t ht=>by
     rw[Tryz.params4] at ht
     have hm:t∈[27,33,31,3,3,3]:=by simpa using Array.mem_of_getElem? ht
     have l6:([27,33,31,3,3,3].all fun u=> !Tryz.prog.wantsStandIn u)=true:=by kernel_rfl
     exact(show Tryz.prog.wantsStandIn t=false by simpa using List.all_eq_true.1 l6 t hm)⟩)
  (by kernel_rfl)
end Go.Proofs.YtlcechkalldhfaaGreatDoor
