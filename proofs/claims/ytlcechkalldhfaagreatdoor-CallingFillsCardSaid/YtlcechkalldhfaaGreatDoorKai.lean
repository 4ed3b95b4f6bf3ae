/- Part of the proof of CallingFills: engine, contracts or law, joined by a program from the texts X85. -/
import Derived.Test.YtlcechkalldhfaaGreatDoorKad
set_option linter.all false
set_option maxRecDepth 100000
set_option maxHeartbeats 4000000
namespace Go.En.V
open Go.Proofs
theorem Ku(n:Nat):R (n+5) 191 [.p (.int .u8 9)] []=some (.p (.sl [.fn 245 [.ptr [.fn 250 [.ptr [.int .u64 18446744073709551615] 0]] 0,.ptr [.int .u64 18446744073709551615] 0],.fn 248 [.ptr [.fn 250 [.ptr [.int .u64 18446744073709551615] 0]] 0,.ptr [.int .u64 18446744073709551615] 0],.fn 245 [.ptr [.fn 213 []] 0,.ptr [.int .u64 0] 0],.fn 248 [.ptr [.fn 215 []] 0,.ptr [.int .u64 0] 0],.fn 249 [.ptr [.fn 215 []] 0]]),[]):=by
 kernel_rfl
theorem Hg(n:Nat):R (n+5) 191 [.p (.int .u8 10)] []=some (.p (.sl [.fn 245 [.ptr [.fn 213 []] 0,.ptr [.int .u64 0] 0],.fn 248 [.ptr [.fn 215 []] 0,.ptr [.int .u64 0] 0],.fn 249 [.ptr [.fn 250 [.ptr [.int .u64 0] 0]] 0]]),[]):=by
 kernel_rfl
theorem Hf(n:Nat):R (n+5) 191 [.p (.int .u8 11)] []=some (.p (.sl [.fn 248 [.ptr [.fn 215 []] 0,.ptr [.int .u64 0] 0],.fn 218 [],.fn 245 [.ptr [.fn 250 [.ptr [.int .u64 0] 0]] 0,.ptr [.int .u64 0] 0]]),[]):=by
 kernel_rfl
theorem He(n:Nat):R (n+5) 191 [.p (.int .u8 12)] []=some (.p (.sl [.fn 248 [.ptr [.fn 215 []] 0,.ptr [.int .u64 0] 0],.fn 218 [],.fn 245 [.ptr [.fn 250 [.ptr [.int .u64 0] 0]] 0,.ptr [.int .u64 0] 0]]),[]):=by
 kernel_rfl
theorem Hd(n:Nat):R (n+5) 191 [.p (.int .u8 13)] []=some (.p (.sl [.fn 248 [.ptr [.fn 215 []] 0,.ptr [.int .u64 0] 0],.fn 245 [.ptr [.fn 250 [.ptr [.int .u64 0] 0]] 0,.ptr [.int .u64 0] 0]]),[]):=by
 kernel_rfl
theorem Hc(n:Nat):R (n+5) 191 [.p (.int .u8 14)] []=some (.p (.sl [.fn 248 [.ptr [.fn 215 []] 0,.ptr [.int .u64 1] 0]]),[]):=by
 kernel_rfl
theorem Hb(n:Nat):R (n+5) 191 [.p (.int .u8 15)] []=some (.p (.sl [.fn 248 [.ptr [.fn 250 [.ptr [.int .u64 0] 0]] 0,.ptr [.int .u64 1] 0]]),[]):=by
 kernel_rfl
theorem Ha(n:Nat):R (n+5) 191 [.p (.int .u8 16)] []=some (.p (.sl [.fn 249 [.ptr [.fn 250 [.ptr [.int .u64 1] 0]] 0]]),[]):=by
 kernel_rfl
end Go.En.V
