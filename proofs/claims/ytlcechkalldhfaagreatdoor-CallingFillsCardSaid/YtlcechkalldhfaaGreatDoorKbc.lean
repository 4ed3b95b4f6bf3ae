/- Part of the proof of CallingFills: engine, contracts or law, joined by a program from the texts X75. -/
import Derived.Test.YtlcechkalldhfaaGreatDoorKaz
set_option linter.all false
set_option maxRecDepth 100000
set_option maxHeartbeats 4000000
namespace Go.En.V
open Go.Proofs
theorem NZ(n0:Nat)(CP:gf→Int→Bool)(N:Nat)(p:eU)(hM:MV p.m)(hC:CV p.c)(hN:n0+3≤N)(kc:2300≤N)
  (H3:∀n,n0≤n→∀x∈p.c.moves,0≤x.bank→x.bank<p.m.banks.length→R n 54 [ag (aD p),.p (.str ⟨#[99,111,112,121]⟩),ag (bm x.copy),ai x.bank] []=some (ab (aG p.m x.copy false&&CP x.copy x.bank),[])):
  R N 34 [ag (aD p)] []=some (ab (gh p.m p.c CP),[]):=by
 have aa:rows 34=_:=w34.eq_1
 obtain⟨n,rfl⟩:=up N
 rw[aE 34 Tryz.func34 rfl rfl]
 have x6:=fun r=>Vi n (by omega) p r
 unfold gh
 cases h1:mo p.m p.c
 ·have nA:=h1
  unfold mo at nA
  have cm:=x6 p.c.stack
  cases d0:vh p.m p.c.stack
  ·rw[d0] at cm
   simp -implicitDefEqProofs[aa,cm]
  rw[d0] at cm nA
  have n6:=cT.1 d0
  obtain⟨x,g2,hx,bI,_⟩:=aR n6.1 n6.2
  rw[bI] at nA
  have s0:=n6.1
  have s1:=n6.2
  by_cases d1:x.of=-1
  rotate_left
  ·simp -implicitDefEqProofs[aa,cm,s0,s1,g2,hx,d1]
  by_cases d2:x.width=p.m.address
  rotate_left
  ·simp -implicitDefEqProofs[aa,cm,s0,s1,g2,hx,eq_true d1,d2]
  by_cases d3:0≤p.c.bank
  rotate_left
  ·have kf:p.c.bank<0:=by omega
   simp -implicitDefEqProofs[aa,cm,s0,s1,g2,hx,eq_true d1,eq_true d2,kf]
  have kf:¬p.c.bank<0:=by omega
  by_cases d4:p.c.bank<p.m.banks.length
  ·simp[d1,d2,d3,d4] at nA
  ·have nF:(p.m.banks.length:Int)≤p.c.bank:=by omega
   simp -implicitDefEqProofs[aa,cm,s0,s1,g2,hx,eq_true d1,eq_true d2,kf,nF]
 have nA:=h1
 simp only[mo,Bool.and_eq_true,decide_eq_true_eq] at nA
 obtain⟨d0,d1,d2,d3,d4⟩:=nA
 have cm:=x6 p.c.stack
 rw[d0] at cm
 have n6:=cT.1 d0
 obtain⟨x,g2,hx,bI,_⟩:=aR n6.1 n6.2
 rw[bI] at d1 d2
 have s0:=n6.1
 have s1:=n6.2
 have kf:¬p.c.bank<0:=by omega
 have nF:¬(p.m.banks.length:Int)≤p.c.bank:=by omega
 have gq:=x6 p.c.link
 have tu:Pu p.m p.c.link→R n 51 [ag (aD p),ai p.c.link,.p (.sl [i64 p.c.stack])] []=some (ab ([p.c.stack].any (aP p.m p.c.link)),[]):=fun (l1:Pu p.m p.c.link)=>iw n p p.c.link [p.c.stack] (by simp;omega) (by simp) l1.1 l1.2 (by intro z hz;simp at hz;subst hz;exact n6.2)
 cases h2:sG p.m p.c
 ·have p_:=h2
  unfold sG at p_
  by_cases l0:p.c.link=-1
  ·rw[l0] at p_;simp at p_
  cases l1:vh p.m p.c.link
  ·rw[l1] at gq
   simp -implicitDefEqProofs[aa,cm,s0,s1,g2,hx,eq_true d1,eq_true d2,kf,nF,l0,gq]
  rw[l1] at gq p_
  have oO:=cT.1 l1
  obtain⟨y,g3,hy,dV,_⟩:=aR oO.1 oO.2
  rw[dV] at p_
  have y0:=oO.1
  have y1:=oO.2
  have tu:=tu oO
  by_cases l2:y.width=p.m.address
  rotate_left
  ·simp -implicitDefEqProofs[aa,cm,s0,s1,g2,hx,eq_true d1,eq_true d2,kf,nF,l0,gq,y0,y1,g3,hy,l2]
  cases l3:aP p.m p.c.link p.c.stack
  ·rw[l3] at p_;simp[l2] at p_
  ·simp[l3] at tu
   simp -implicitDefEqProofs[aa,cm,s0,s1,g2,hx,eq_true d1,eq_true d2,kf,nF,l0,gq,y0,y1,g3,hy,eq_true l2,tu]
 have jc:R n 40 [.p (.sl [.int .i64 1,.int .i64 2,.int .i64 4,.int .i64 8,.int .i64 16]),ai p.c.align] []=some (ab (vF p.c),[]):=fj n [1,2,4,8,16] p.c.align (by simp;omega) (by simp)
 have mG:=O8 n0 CP n p (hM.cmv hC) (by omega) (by omega) H3
 by_cases l0:p.c.link=-1
 ·have Vh:vh p.m p.c.link=false:=by unfold vh;rw[l0];rfl
  rw[Vh] at gq
  have q8:=eq_true l0
  have qZ:True:=trivial
  have qY:True:=trivial
  have qX:True:=trivial
  have qW:True:=trivial
  have qV:True:=trivial
  have qU:True:=trivial
  have qT:True:=trivial
  (cases a0:vF p.c
   ·rw[a0] at jc
    simp -implicitDefEqProofs[aa,cm,s0,s1,g2,hx,eq_true d1,eq_true d2,kf,nF,q8,qZ,qY,qX,qW,qV,qU,qT,gO,gq,jc]
   rw[a0] at jc
   cases a1:xB p.m p.c CP
   ·rw[a1] at mG
    simp -implicitDefEqProofs[aa,cm,s0,s1,g2,hx,eq_true d1,eq_true d2,kf,nF,q8,qZ,qY,qX,qW,qV,qU,qT,gO,gq,jc,mG]
   rw[a1] at mG
   have Ns:=wB hM hC h1 h2 a1
   have n7:=sc n (by omega) p Ns
   cases a2:BK p.m p.c
   ·rw[a2] at n7
    simp -implicitDefEqProofs[aa,cm,s0,s1,g2,hx,eq_true d1,eq_true d2,kf,nF,q8,qZ,qY,qX,qW,qV,qU,qT,gO,gq,jc,mG,n7]
   rw[a2] at n7
   have hj:=qg n (by omega) p p.c.adjust 0 hM.wb hC.t1 hM.ins (fun hs=>(hM.mt hC.t1).vok hs)
   have jb:=u9 n (by omega) p p.c.call 0 hM.wb hC.t2 hM.ins (fun hs=>(hM.mt hC.t2).vok hs) (fun hs=>uW hM (hM.mt hC.t2) h1 hs)
   have JA:=sb n (by omega) p p.c.leave 0 hM.wb hC.t3 hM.ins (fun hs=>(hM.mt hC.t3).vok hs) (fun hs=>uW hM (hM.mt hC.t3) h1 hs)
   have Ui:=u7 n (by omega) p p.c.nop 0 hM.wb hC.t4 hM.ins
   rw[O2] at Ui
   have ep:(⟨p.m,p.c⟩:eU)=p:=rfl
   unfold Fj
   rw[ep]
   generalize (aG p.m p.c.adjust false&&zb (bc p p.c.adjust))=e1 at*
   generalize (aG p.m p.c.call true&&JQ p.m p.c (nth p.m.instrs p.c.call.instr) p.c.call.args)=e2 at*
   generalize (aG p.m p.c.leave false&&Jq p.m p.c (nth p.m.instrs p.c.leave.instr) p.c.leave.args)=e3 at*
   generalize HH p.m p.c=e4 at*
   cases e1
   ·simp -implicitDefEqProofs[aa,cm,s0,s1,g2,hx,eq_true d1,eq_true d2,kf,nF,q8,qZ,qY,qX,qW,qV,qU,qT,gO,gq,jc,mG,n7,hj]
   cases e2
   ·simp -implicitDefEqProofs[aa,cm,s0,s1,g2,hx,eq_true d1,eq_true d2,kf,nF,q8,qZ,qY,qX,qW,qV,qU,qT,gO,gq,jc,mG,n7,hj,jb]
   cases e3
   ·simp -implicitDefEqProofs[aa,cm,s0,s1,g2,hx,eq_true d1,eq_true d2,kf,nF,q8,qZ,qY,qX,qW,qV,qU,qT,gO,gq,jc,mG,n7,hj,jb,JA]
   simp -implicitDefEqProofs[aa,cm,s0,s1,g2,hx,eq_true d1,eq_true d2,kf,nF,q8,qZ,qY,qX,qW,qV,qU,qT,gO,gq,jc,mG,n7,hj,jb,JA,Ui])
 ·have p_:=h2
  unfold sG at p_
  simp only[l0,decide_false,Bool.false_or,Bool.and_eq_true,decide_eq_true_eq,Bool.not_eq_true'] at p_
  obtain⟨l1,l2,l3⟩:=p_
  rw[l1] at gq
  have oO:=cT.1 l1
  obtain⟨y,g3,hy,dV,_⟩:=aR oO.1 oO.2
  rw[dV] at l2
  have tu:=tu oO
  simp[l3] at tu
  have q8:=eq_false l0
  have qZ:=gq
  have qY:=oO.1
  have qX:=oO.2
  have qW:=g3
  have qV:=hy
  have qU:=eq_true l2
  have qT:=tu
  (cases a0:vF p.c
   ·rw[a0] at jc
    simp -implicitDefEqProofs[aa,cm,s0,s1,g2,hx,eq_true d1,eq_true d2,kf,nF,q8,qZ,qY,qX,qW,qV,qU,qT,gO,gq,jc]
   rw[a0] at jc
   cases a1:xB p.m p.c CP
   ·rw[a1] at mG
    simp -implicitDefEqProofs[aa,cm,s0,s1,g2,hx,eq_true d1,eq_true d2,kf,nF,q8,qZ,qY,qX,qW,qV,qU,qT,gO,gq,jc,mG]
   rw[a1] at mG
   have Ns:=wB hM hC h1 h2 a1
   have n7:=sc n (by omega) p Ns
   cases a2:BK p.m p.c
   ·rw[a2] at n7
    simp -implicitDefEqProofs[aa,cm,s0,s1,g2,hx,eq_true d1,eq_true d2,kf,nF,q8,qZ,qY,qX,qW,qV,qU,qT,gO,gq,jc,mG,n7]
   rw[a2] at n7
   have hj:=qg n (by omega) p p.c.adjust 0 hM.wb hC.t1 hM.ins (fun hs=>(hM.mt hC.t1).vok hs)
   have jb:=u9 n (by omega) p p.c.call 0 hM.wb hC.t2 hM.ins (fun hs=>(hM.mt hC.t2).vok hs) (fun hs=>uW hM (hM.mt hC.t2) h1 hs)
   have JA:=sb n (by omega) p p.c.leave 0 hM.wb hC.t3 hM.ins (fun hs=>(hM.mt hC.t3).vok hs) (fun hs=>uW hM (hM.mt hC.t3) h1 hs)
   have Ui:=u7 n (by omega) p p.c.nop 0 hM.wb hC.t4 hM.ins
   rw[O2] at Ui
   have ep:(⟨p.m,p.c⟩:eU)=p:=rfl
   unfold Fj
   rw[ep]
   generalize (aG p.m p.c.adjust false&&zb (bc p p.c.adjust))=e1 at*
   generalize (aG p.m p.c.call true&&JQ p.m p.c (nth p.m.instrs p.c.call.instr) p.c.call.args)=e2 at*
   generalize (aG p.m p.c.leave false&&Jq p.m p.c (nth p.m.instrs p.c.leave.instr) p.c.leave.args)=e3 at*
   generalize HH p.m p.c=e4 at*
   cases e1
   ·simp -implicitDefEqProofs[aa,cm,s0,s1,g2,hx,eq_true d1,eq_true d2,kf,nF,q8,qZ,qY,qX,qW,qV,qU,qT,gO,gq,jc,mG,n7,hj]
   cases e2
   ·simp -implicitDefEqProofs[aa,cm,s0,s1,g2,hx,eq_true d1,eq_true d2,kf,nF,q8,qZ,qY,qX,qW,qV,qU,qT,gO,gq,jc,mG,n7,hj,jb]
   cases e3
   ·simp -implicitDefEqProofs[aa,cm,s0,s1,g2,hx,eq_true d1,eq_true d2,kf,nF,q8,qZ,qY,qX,qW,qV,qU,qT,gO,gq,jc,mG,n7,hj,jb,JA]
   simp -implicitDefEqProofs[aa,cm,s0,s1,g2,hx,eq_true d1,eq_true d2,kf,nF,q8,qZ,qY,qX,qW,qV,qU,qT,gO,gq,jc,mG,n7,hj,jb,JA,Ui])
end Go.En.V
