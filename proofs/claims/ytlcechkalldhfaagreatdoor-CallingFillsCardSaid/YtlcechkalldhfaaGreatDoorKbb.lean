/- Part of the proof of CallingFills: engine, contracts or law, joined by a program from the texts X76. -/
import Derived.Test.YtlcechkalldhfaaGreatDoorKas
import Derived.Test.YtlcechkalldhfaaGreatDoorKaz
set_option linter.all false
set_option maxRecDepth 100000
set_option maxHeartbeats 4000000
namespace Go.En.V
open Go.Proofs
theorem xh(N:Nat)(hN:1700≤N)(m:aw)(c:Conv)(t:gf)(h:MT m t)(hc:aG m t true=true→VC m c (nth m.instrs t.instr)):
  R N 67 [ag (ah m),ag (ax c),ag (bm t)] []=some (ab (aG m t true&&JQ m c (nth m.instrs t.instr) t.args),[]):=by
 cases hs:aG m t true
 ·skip
  have aa:rows 67=_:=U_.eq_1
  obtain⟨n,rfl⟩:=up N
  rw[aE 67 Tryz.func67 rfl rfl]
  have ho:=(ik n (by omega) m c t true h.al h.ins).2 hs
  unfold fw at ho
  simp[aa,ho]
 ·have:=KL N (by omega) m c t h (hc hs)
  rw[hs] at this;exact this
theorem u6(N:Nat)(hN:1700≤N)(m:aw)(c:Conv)(t:gf)(h:MT m t)(hc:aG m t false=true→VC m c (nth m.instrs t.instr)):
  R N 68 [ag (ah m),ag (ax c),ag (bm t)] []=some (ab (aG m t false&&Jq m c (nth m.instrs t.instr) t.args),[]):=by
 cases hs:aG m t false
 ·skip
  have aa:rows 68=_:=U9.eq_1
  obtain⟨n,rfl⟩:=up N
  rw[aE 68 Tryz.func68 rfl rfl]
  have ho:=(ik n (by omega) m c t false h.al h.ins).2 hs
  unfold fw at ho
  simp[aa,ho]
 ·have:=Hj N (by omega) m c t h (hc hs)
  rw[hs] at this;exact this
theorem Ks(n0:Nat)(CP:gf→Int→Bool)(N:Nat)(m:aw)(c:Conv)(hM:MV m)(hC:CV c)(hN:n0+3≤N)(kc:2300≤N)
  (H3:∀n,n0≤n→∀x∈c.moves,0≤x.bank→x.bank<m.banks.length→R n 92 [ag (ah m),ag (ax c),ag (bm x.copy),ai x.bank] []=some (ab (aG m x.copy false&&CP x.copy x.bank),[])):
  R N 37 [ag (ah m),ag (ax c)] []=some (ab (gh m c CP),[]):=by
 have aa:rows 37=_:=YT.eq_1
 obtain⟨n,rfl⟩:=up N
 rw[aE 37 Tryz.func37 rfl rfl]
 have x6:=fun r=>u_ n (by omega) m r
 have nr:=hM.wb.nr
 unfold gh
 cases h1:mo m c
 ·have nA:=h1
  unfold mo at nA
  have cm:=x6 c.stack
  cases d0:vh m c.stack
  ·rw[d0] at cm
   simp[aa,cm]
  rw[d0] at cm nA
  have n6:=cT.1 d0
  obtain⟨x,g2,hx,bI,_⟩:=aR n6.1 n6.2
  rw[bI] at nA
  have s0:=n6.1
  have s1:=n6.2
  by_cases d1:x.of=-1
  rotate_left
  ·simp[aa,cm,s0,s1,g2,hx,d1]
  by_cases d2:x.width=m.address
  rotate_left
  ·simp[aa,cm,s0,s1,g2,hx,eq_true d1,d2]
  by_cases d3:0≤c.bank
  rotate_left
  ·have kf:c.bank<0:=by omega
   simp[aa,cm,s0,s1,g2,hx,eq_true d1,eq_true d2,kf]
  have kf:¬c.bank<0:=by omega
  by_cases d4:c.bank<m.banks.length
  ·simp[d1,d2,d3,d4] at nA
  ·have nF:(m.banks.length:Int)≤c.bank:=by omega
   simp[aa,cm,s0,s1,g2,hx,eq_true d1,eq_true d2,kf,nF]
 have nA:=h1
 simp only[mo,Bool.and_eq_true,decide_eq_true_eq] at nA
 obtain⟨d0,d1,d2,d3,d4⟩:=nA
 have cm:=x6 c.stack
 rw[d0] at cm
 have n6:=cT.1 d0
 obtain⟨x,g2,hx,bI,_⟩:=aR n6.1 n6.2
 rw[bI] at d1 d2
 have s0:=n6.1
 have s1:=n6.2
 have kf:¬c.bank<0:=by omega
 have nF:¬(m.banks.length:Int)≤c.bank:=by omega
 have gq:=x6 c.link
 have tu:=fun (l1:Pu m c.link)=>tq n m hM.wr (by omega) (by omega) c.link c.stack l1.1 l1.2 n6.1 n6.2
 cases h2:sG m c
 ·have p_:=h2
  unfold sG at p_
  by_cases l0:c.link=-1
  ·rw[l0] at p_;simp at p_
  cases l1:vh m c.link
  ·rw[l1] at gq
   simp[aa,cm,s0,s1,g2,hx,eq_true d1,eq_true d2,kf,nF,l0,gq]
  rw[l1] at gq p_
  have oO:=cT.1 l1
  obtain⟨y,g3,hy,dV,_⟩:=aR oO.1 oO.2
  rw[dV] at p_
  have y0:=oO.1
  have y1:=oO.2
  have tu:=tu oO
  by_cases l2:y.width=m.address
  rotate_left
  ·simp[aa,cm,s0,s1,g2,hx,eq_true d1,eq_true d2,kf,nF,l0,gq,y0,y1,g3,hy,l2]
  cases l3:aP m c.link c.stack
  ·rw[l3] at p_;simp[l2] at p_
  ·rw[l3] at tu
   simp[aa,cm,s0,s1,g2,hx,eq_true d1,eq_true d2,kf,nF,l0,gq,y0,y1,g3,hy,eq_true l2,tu]
 have jc:cE (cE (cE (cE (decide (c.align=1)) (decide (c.align=2))) (decide (c.align=4))) (decide (c.align=8))) (decide (c.align=16))=vF c:=by
  simp[vF,aK,Bool.or_assoc]
 have mG:=KM n0 CP n m c (hM.cmv hC) (by omega) (by omega) H3
 by_cases l0:c.link=-1
 ·have Vh:vh m c.link=false:=by unfold vh;rw[l0];rfl
  rw[Vh] at gq
  have q8:=eq_true l0
  have qZ:True:=trivial
  have qY:True:=trivial
  have qX:True:=trivial
  have qW:True:=trivial
  have qV:True:=trivial
  have qU:True:=trivial
  have qT:True:=trivial
  (cases a0:vF c
   ·rw[a0] at jc
    simp[aa,cm,s0,s1,g2,hx,eq_true d1,eq_true d2,kf,nF,q8,qZ,qY,qX,qW,qV,qU,qT,gO,gq,jc]
   rw[a0] at jc
   cases a1:xB m c CP
   ·rw[a1] at mG
    simp[aa,cm,s0,s1,g2,hx,eq_true d1,eq_true d2,kf,nF,q8,qZ,qY,qX,qW,qV,qU,qT,gO,gq,jc,mG]
   rw[a1] at mG
   have Ns:=wB hM hC h1 h2 a1
   have n7:=qf n (by omega) m c Ns hM.wr
   cases a2:BK m c
   ·rw[a2] at n7
    simp[aa,cm,s0,s1,g2,hx,eq_true d1,eq_true d2,kf,nF,q8,qZ,qY,qX,qW,qV,qU,qT,gO,gq,jc,mG,n7]
   rw[a2] at n7
   have hj:=vb n (by omega) m c c.adjust (hM.mt hC.t1)
   have jb:R n 67 [.agg ((ah m).map .p),.agg ((ax c).map .p),.agg ((bm c.call).map .p)] []=some (ab (aG m c.call true&&JQ m c (nth m.instrs c.call.instr) c.call.args),[]):=xh n (by omega) m c c.call (hM.mt hC.t2) (fun hs=>uW hM (hM.mt hC.t2) h1 hs)
   have JA:R n 68 [.agg ((ah m).map .p),.agg ((ax c).map .p),.agg ((bm c.leave).map .p)] []=some (ab (aG m c.leave false&&Jq m c (nth m.instrs c.leave.instr) c.leave.args),[]):=u6 n (by omega) m c c.leave (hM.mt hC.t3) (fun hs=>uW hM (hM.mt hC.t3) h1 hs)
   have Ui:=xu n (by omega) m c c.nop (hM.mt hC.t4)
   unfold Fj HH
   generalize (aG m c.adjust false&&zb (bc ⟨m,c⟩ c.adjust))=e1 at*
   generalize (aG m c.call true&&JQ m c (nth m.instrs c.call.instr) c.call.args)=e2 at*
   generalize (aG m c.leave false&&Jq m c (nth m.instrs c.leave.instr) c.leave.args)=e3 at*
   generalize (aG m c.nop false&&(decide ((nth m.instrs c.nop.instr).opds=[])&&decide ((nth m.instrs c.nop.instr).effs=[])))=e4 at*
   cases e1
   ·simp[aa,cm,s0,s1,g2,hx,eq_true d1,eq_true d2,kf,nF,q8,qZ,qY,qX,qW,qV,qU,qT,gO,gq,jc,mG,n7,hj]
   cases e2
   ·simp[aa,cm,s0,s1,g2,hx,eq_true d1,eq_true d2,kf,nF,q8,qZ,qY,qX,qW,qV,qU,qT,gO,gq,jc,mG,n7,hj,jb]
   cases e3
   ·simp[aa,cm,s0,s1,g2,hx,eq_true d1,eq_true d2,kf,nF,q8,qZ,qY,qX,qW,qV,qU,qT,gO,gq,jc,mG,n7,hj,jb,JA]
   simp[aa,cm,s0,s1,g2,hx,eq_true d1,eq_true d2,kf,nF,q8,qZ,qY,qX,qW,qV,qU,qT,gO,gq,jc,mG,n7,hj,jb,JA,Ui])
 ·have p_:=h2
  unfold sG at p_
  simp only[l0,decide_false,Bool.false_or,Bool.and_eq_true,decide_eq_true_eq,Bool.not_eq_true'] at p_
  obtain⟨l1,l2,l3⟩:=p_
  rw[l1] at gq
  have oO:=cT.1 l1
  obtain⟨y,g3,hy,dV,_⟩:=aR oO.1 oO.2
  rw[dV] at l2
  have tu:=tu oO
  rw[l3] at tu
  have q8:=eq_false l0
  have qZ:=gq
  have qY:=oO.1
  have qX:=oO.2
  have qW:=g3
  have qV:=hy
  have qU:=eq_true l2
  have qT:=tu
  (cases a0:vF c
   ·rw[a0] at jc
    simp[aa,cm,s0,s1,g2,hx,eq_true d1,eq_true d2,kf,nF,q8,qZ,qY,qX,qW,qV,qU,qT,gO,gq,jc]
   rw[a0] at jc
   cases a1:xB m c CP
   ·rw[a1] at mG
    simp[aa,cm,s0,s1,g2,hx,eq_true d1,eq_true d2,kf,nF,q8,qZ,qY,qX,qW,qV,qU,qT,gO,gq,jc,mG]
   rw[a1] at mG
   have Ns:=wB hM hC h1 h2 a1
   have n7:=qf n (by omega) m c Ns hM.wr
   cases a2:BK m c
   ·rw[a2] at n7
    simp[aa,cm,s0,s1,g2,hx,eq_true d1,eq_true d2,kf,nF,q8,qZ,qY,qX,qW,qV,qU,qT,gO,gq,jc,mG,n7]
   rw[a2] at n7
   have hj:=vb n (by omega) m c c.adjust (hM.mt hC.t1)
   have jb:R n 67 [.agg ((ah m).map .p),.agg ((ax c).map .p),.agg ((bm c.call).map .p)] []=some (ab (aG m c.call true&&JQ m c (nth m.instrs c.call.instr) c.call.args),[]):=xh n (by omega) m c c.call (hM.mt hC.t2) (fun hs=>uW hM (hM.mt hC.t2) h1 hs)
   have JA:R n 68 [.agg ((ah m).map .p),.agg ((ax c).map .p),.agg ((bm c.leave).map .p)] []=some (ab (aG m c.leave false&&Jq m c (nth m.instrs c.leave.instr) c.leave.args),[]):=u6 n (by omega) m c c.leave (hM.mt hC.t3) (fun hs=>uW hM (hM.mt hC.t3) h1 hs)
   have Ui:=xu n (by omega) m c c.nop (hM.mt hC.t4)
   unfold Fj HH
   generalize (aG m c.adjust false&&zb (bc ⟨m,c⟩ c.adjust))=e1 at*
   generalize (aG m c.call true&&JQ m c (nth m.instrs c.call.instr) c.call.args)=e2 at*
   generalize (aG m c.leave false&&Jq m c (nth m.instrs c.leave.instr) c.leave.args)=e3 at*
   generalize (aG m c.nop false&&(decide ((nth m.instrs c.nop.instr).opds=[])&&decide ((nth m.instrs c.nop.instr).effs=[])))=e4 at*
   cases e1
   ·simp[aa,cm,s0,s1,g2,hx,eq_true d1,eq_true d2,kf,nF,q8,qZ,qY,qX,qW,qV,qU,qT,gO,gq,jc,mG,n7,hj]
   cases e2
   ·simp[aa,cm,s0,s1,g2,hx,eq_true d1,eq_true d2,kf,nF,q8,qZ,qY,qX,qW,qV,qU,qT,gO,gq,jc,mG,n7,hj,jb]
   cases e3
   ·simp[aa,cm,s0,s1,g2,hx,eq_true d1,eq_true d2,kf,nF,q8,qZ,qY,qX,qW,qV,qU,qT,gO,gq,jc,mG,n7,hj,jb,JA]
   simp[aa,cm,s0,s1,g2,hx,eq_true d1,eq_true d2,kf,nF,q8,qZ,qY,qX,qW,qV,qU,qT,gO,gq,jc,mG,n7,hj,jb,JA,Ui])
theorem Ho(n0:Nat)(CP:gf→Int→Bool)(N:Nat)(m:aw)(c:Conv)(hg:Gm m)(he:∀s∈m.instrs,∀x∈s.effs,Gr x.addr∧Gr x.val∧Gr x.cond)(hM:dG m=0→MV m)(hC:CV c)(hN:n0+4≤N)(kc:17000≤N)
  (H3:dG m=0→∀n,n0≤n→∀x∈c.moves,0≤x.bank→x.bank<m.banks.length→R n 92 [ag (ah m),ag (ax c),ag (bm x.copy),ai x.bank] []=some (ab (aG m x.copy false&&CP x.copy x.bank),[])):
  R N 23 [ag (ah m),ag (ax c)] []=some (ai (if dG m=0 then(if gh m c CP=true then 0 else 8) else dG m),[]):=by
 have aa:rows 23={}:=rfl
 obtain⟨n,rfl⟩:=up N
 rw[aE 23 Tryz.func23 rfl rfl]
 have h1:=HJ n (by omega) m hg he
 by_cases h0:dG m=0
 ·have h2:=Ks n0 CP n m c (hM h0) hC (by omega) (by omega) (H3 h0)
  rw[if_pos h0]
  rw[h0] at h1
  cases hv:gh m c CP<;>rw[hv] at h2<;>simp[aa,h1,h2]
 ·rw[if_neg h0]
  simp[aa,h1,h0]
end Go.En.V
