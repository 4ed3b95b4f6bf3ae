/- Part of the proof of CallingFills: engine, contracts or law, joined by a program from the texts X84. -/
import Derived.Test.YtlcechkalldhfaaGreatDoorKad
set_option linter.all false
set_option maxRecDepth 100000
set_option maxHeartbeats 4000000
namespace Go.En.V
open Go.Proofs
theorem KC(n:Nat):R (n+5) 191 [.p (.int .u8 1)] []=some (.p .nils,[]):=by
 kernel_rfl
theorem KB(n:Nat):R (n+5) 191 [.p (.int .u8 2)] []=some (.p .nils,[]):=by
 kernel_rfl
theorem KA(n:Nat):R (n+5) 191 [.p (.int .u8 3)] []=some (.p (.sl [.fn 211 []]),[]):=by
 kernel_rfl
theorem Kz(n:Nat):R (n+5) 191 [.p (.int .u8 4)] []=some (.p (.sl [.fn 211 []]),[]):=by
 kernel_rfl
theorem Ky(n:Nat):R (n+5) 191 [.p (.int .u8 5)] []=some (.p (.sl [.fn 245 [.ptr [.fn 213 []] 0,.ptr [.int .u64 0] 0],.fn 248 [.ptr [.fn 215 []] 0,.ptr [.int .u64 0] 0]]),[]):=by
 kernel_rfl
theorem Kx(n:Nat):R (n+5) 191 [.p (.int .u8 6)] []=some (.p (.sl [.fn 248 [.ptr [.fn 215 []] 0,.ptr [.int .u64 0] 0],.fn 249 [.ptr [.fn 250 [.ptr [.int .u64 0] 0]] 0]]),[]):=by
 kernel_rfl
theorem Kw(n:Nat):R (n+5) 191 [.p (.int .u8 7)] []=some (.p (.sl [.fn 245 [.ptr [.fn 250 [.ptr [.int .u64 0] 0]] 0,.ptr [.int .u64 0] 0],.fn 248 [.ptr [.fn 250 [.ptr [.int .u64 0] 0]] 0,.ptr [.int .u64 0] 0],.fn 245 [.ptr [.fn 213 []] 0,.ptr [.int .u64 1] 0],.fn 248 [.ptr [.fn 215 []] 0,.ptr [.int .u64 1] 0]]),[]):=by
 kernel_rfl
theorem Kv(n:Nat):R (n+5) 191 [.p (.int .u8 8)] []=some (.p (.sl [.fn 245 [.ptr [.fn 250 [.ptr [.int .u64 0] 0]] 0,.ptr [.int .u64 0] 0],.fn 248 [.ptr [.fn 250 [.ptr [.int .u64 0] 0]] 0,.ptr [.int .u64 0] 0],.fn 245 [.ptr [.fn 213 []] 0,.ptr [.int .u64 18446744073709551615] 0],.fn 248 [.ptr [.fn 215 []] 0,.ptr [.int .u64 18446744073709551615] 0],.fn 249 [.ptr [.fn 215 []] 0]]),[]):=by
 kernel_rfl
end Go.En.V
