/- Part of the proof of CallingFills: engine, contracts or law, joined by a program from the texts X86. -/
import Derived.Test.YtlcechkalldhfaaGreatDoorKad
set_option linter.all false
set_option maxRecDepth 100000
set_option maxHeartbeats 4000000
namespace Go.En.V
open Go.Proofs
theorem G'(n:Nat):R (n+5) 191 [.p (.int .u8 17)] []=some (.p (.sl [.fn 249 [.ptr [.fn 250 [.ptr [.int .u64 0] 0]] 0],.fn 248 [.ptr [.fn 250 [.ptr [.int .u64 0] 0]] 0,.ptr [.int .u64 0] 0]]),[]):=by
 kernel_rfl
theorem G_(n:Nat):R (n+5) 191 [.p (.int .u8 18)] []=some (.p (.sl [.fn 249 [.ptr [.fn 250 [.ptr [.int .u64 0] 0]] 0]]),[]):=by
 kernel_rfl
theorem G9(n:Nat):R (n+5) 191 [.p (.int .u8 19)] []=some (.p (.sl [.fn 219 []]),[]):=by
 kernel_rfl
theorem G8(n:Nat):R (n+5) 191 [.p (.int .u8 20)] []=some (.p (.sl [.fn 220 []]),[]):=by
 kernel_rfl
theorem G7(n:Nat):R (n+5) 191 [.p (.int .u8 21)] []=some (.p (.sl [.fn 221 [],.fn 222 []]),[]):=by
 kernel_rfl
theorem G6(n:Nat):R (n+5) 191 [.p (.int .u8 22)] []=some (.p (.sl [.fn 221 [],.fn 222 []]),[]):=by
 kernel_rfl
theorem G5(n:Nat):R (n+5) 191 [.p (.int .u8 23)] []=some (.p (.sl [.fn 221 [],.fn 222 []]),[]):=by
 kernel_rfl
theorem G4(n:Nat):R (n+5) 191 [.p (.int .u8 24)] []=some (.p .nils,[]):=by
 kernel_rfl
end Go.En.V
