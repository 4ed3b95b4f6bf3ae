/- Part of the proof of CallingFills: engine, contracts or law, joined by a program from the texts X64. -/
import Derived.Test.YtlcechkalldhfaaGreatDoorKav
set_option linter.all false
set_option maxRecDepth 100000
set_option maxHeartbeats 4000000
namespace Go.En.V
open Go.Proofs
theorem GD(x:Int): -9223372036854775808≤IntKind.i64.wrap x∧IntKind.i64.wrap x≤9223372036854775807:=by
 simp only[IntKind.wrap,IntKind.bits,IntKind.signed,Bool.true_and]
 split<;>(rename_i h;simp at h;omega)
theorem CC(N:Nat)(hN:300≤N)(f:Da)(c:Int)(ha:f.m.address=16∨f.m.address=32)(hc: -9223372036854775808≤c∧c≤9223372036854775807):
  R N 106 [ag (bP f),ai c] []=some (ag (aC (eR f.m c)),[]):=by
 have aa:rows 106=_:=aaf.eq_1
 obtain⟨n,rfl⟩:=up N
 rw[aE 106 Tryz.func106 rfl rfl]
 have hm:=MH n (by omega) c f.m.address ha hc
 unfold eR
 generalize c % 2^f.m.address.toNat=q at*
 simp -implicitDefEqProofs[aa,hm,ae,bD,Tr.kind,Tr.width,Tr.bits,Tr.name,Tr.low,Tr.z,Tr.sub]
theorem KL(N:Nat)(hN:1600≤N)(m:aw)(c:Conv)(t:gf)(h:MT m t)(hc:VC m c (nth m.instrs t.instr)):
  R N 67 [ag (ah m),ag (ax c),ag (bm t)] []=some (ab (aG m t true&&JQ m c (nth m.instrs t.instr) t.args),[]):=by
 have aa:rows 67=_:=U_.eq_1
 obtain⟨n,rfl⟩:=up N
 rw[aE 67 Tryz.func67 rfl rfl]
 have ho:=ik n (by omega) m c t true h.al h.ins
 cases hs:aG m t true
 ·have ho:=ho.2 hs
  unfold fw at ho
  simp -implicitDefEqProofs[aa,ho]
 have ho:=ho.1 hs
 obtain⟨hf,hm⟩:=h.fok c hs
 have hlen:=hf.len
 have rk:=fun (i:Int) (i0:0≤i) (i1:i<(t.args.length:Int))=>hf.var n (by omega) (i:=i) i0 i1
 have zn:=fun k l=>Cy n (by omega) ⟨m,c,t,nth m.instrs t.instr⟩ k l
 have LF:=fun x hx=>CC n (by omega) ⟨m,c,t,nth m.instrs t.instr⟩ x hc.addr hx
 have cm:=AM n (by omega) ⟨m,c,t,nth m.instrs t.instr⟩ hc.st0 hc.st1 hc.nm
 simp only at hlen rk zn LF cm hc ⊢
 generalize nth m.instrs t.instr=s at*
 unfold JQ
 by_cases c1:t.args.length=1
 rotate_left
 ·have fY:¬(t.args.length:Int)=1:=by omega
  have e:jB s t.args=false:=by simp[jB,c1]
  rw[e]
  simp -implicitDefEqProofs[aa,ho,fY]
 have fY:(t.args.length:Int)=1:=by omega
 have g1:0<t.args.length:=by omega
 obtain⟨x,hx,bI,_⟩:=ay (l:=t.args) (k:=0) g1
 have bI:nth t.args 0=x:=bI
 have g2:0<s.opds.length:=by omega
 obtain⟨o,wk,zE,hom⟩:=ay (l:=s.opds) (k:=0) g2
 have zE:nth s.opds 0=o:=zE
 by_cases c2:x=-4
 rotate_left
 ·have e:jB s t.args=false:=by simp[jB,bI,c2]
  rw[e]
  simp -implicitDefEqProofs[aa,ho,eq_true fY,g1,hx,c2]
 by_cases c3:o.kind=4
 rotate_left
 ·have e:jB s t.args=false:=by simp[jB,zE,c3]
  rw[e]
  simp -implicitDefEqProofs[aa,ho,eq_true fY,g1,hx,eq_true c2,g2,wk,c3]
 have e:jB s t.args=true:=by simp[jB,c1,bI,c2,zE,c3]
 rw[e]
 have eM:=LF (IntKind.i64.wrap (IntKind.i64.wrap (1+s.slots)*m.word)) (GD _)
 have p7:=zn 5 [nh m.address ⟨#[112,99]⟩,eR m (IntKind.i64.wrap (IntKind.i64.wrap (1+s.slots)*m.word))]
 have vN:=rk 0 (by omega) (by omega)
 have hb:iR 5 m.address [nh m.address ⟨#[112,99]⟩,eR m (IntKind.i64.wrap (IntKind.i64.wrap (1+s.slots)*m.word))]=vD m s:=rfl
 rw[hb] at p7
 simp[aT,←OX] at p7
 have AE:=fun e (he:e∈s.effs)=>c_ 80 n e.val (vD m s) (hc.dp e he).2 (by omega)
 have hg:=fun e (he:e∈s.effs)=>Br n (by omega) e (dc m s 0) (hc.dp e he).2
 have zC:=fun e=>ye n (by omega) e (-1)
 generalize eR m (IntKind.i64.wrap (IntKind.i64.wrap (1+s.slots)*m.word))=nt at*
 generalize vD m s=bt at*
 generalize dc m s 0=vt at*
 by_cases hl:0≤c.link
 ·rw[if_pos hl]
  by_cases c4:s.effs.length=2
  rotate_left
  ·have fF:¬(s.effs.length:Int)=2:=by omega
   simp -implicitDefEqProofs[aa,ho,eq_true fY,g1,hx,eq_true c2,g2,wk,eq_true c3,eM,p7,hl,c4,fF]
  have fF:(s.effs.length:Int)=2:=by omega
  have k0:0<s.effs.length:=by omega
  have k1:1<s.effs.length:=by omega
  have oK:(0:Int)<s.effs.length:=by omega
  have q_:(1:Int)<s.effs.length:=by omega
  obtain⟨y0,fV,gQ,EN⟩:=ay (l:=s.effs) (k:=0) k0
  obtain⟨y1,iB,kU,nX⟩:=ay (l:=s.effs) (k:=1) k1
  have gQ:nth s.effs 0=y0:=gQ
  have kU:nth s.effs 1=y1:=by exact_mod_cast kU
  have t1:=AE y0 EN
  have t2:=hg y1 nX
  have t3:=zC y0
  rw[gQ,kU]
  generalize aI y0.val bt=s1 at*
  generalize ga y1 vt=s2 at*
  generalize fz y0 (-1)=s3 at*
  cases s3
  ·simp -implicitDefEqProofs[aa,ho,eq_true fY,g1,hx,eq_true c2,g2,wk,eq_true c3,eM,p7,hl,c4,eq_true fF,k0,k1,oK,q_,fV,iB,t3]
  by_cases c5:y0.reg=c.link
  rotate_left
  ·simp -implicitDefEqProofs[aa,ho,eq_true fY,g1,hx,eq_true c2,g2,wk,eq_true c3,eM,p7,hl,c4,eq_true fF,k0,k1,oK,q_,fV,iB,t3,c5]
  cases s1
  ·simp -implicitDefEqProofs[aa,ho,eq_true fY,g1,hx,eq_true c2,g2,wk,eq_true c3,eM,p7,hl,c4,eq_true fF,k0,k1,oK,q_,fV,iB,t3,eq_true c5,t1]
  ·simp -implicitDefEqProofs[aa,ho,eq_true fY,g1,hx,eq_true c2,g2,wk,eq_true c3,eM,p7,hl,c4,eq_true fF,k0,k1,oK,q_,fV,iB,t3,eq_true c5,t1,vN,t2]
 ·rw[if_neg hl]
  have eZ:=LF (dL m) (by unfold dL;split<;>omega)
  have fW:=zn 6 [dj m c,eR m (dL m)]
  have p9:iR 6 m.address [dj m c,eR m (dL m)]=mb m c:=rfl
  rw[p9] at fW
  have x_:=I0 hc.addr
  simp[aT] at fW
  have Jw:=fun e (he:e∈s.effs)=>c_ 80 n e.addr (mb m c) (hc.dp e he).1 (by omega)
  have Ms:=fun e (he:e∈s.effs)=>c_ 80 n e.val (mb m c) (hc.dp e he).2 (by omega)
  generalize dj m c=Va at*
  generalize eR m (dL m)=Vf at*
  generalize mb m c=bw at*
  generalize dL m=XR at*
  by_cases c4:s.effs.length=3
  rotate_left
  ·have fF:¬(s.effs.length:Int)=3:=by omega
   simp -implicitDefEqProofs[aa,ho,eq_true fY,g1,hx,eq_true c2,g2,wk,eq_true c3,eM,p7,hl,c4,fF,cm,eZ,fW,x_]
  have fF:(s.effs.length:Int)=3:=by omega
  have k0:0<s.effs.length:=by omega
  have k1:1<s.effs.length:=by omega
  have k2:2<s.effs.length:=by omega
  have oK:(0:Int)<s.effs.length:=by omega
  have q_:(1:Int)<s.effs.length:=by omega
  have Lm:(2:Int)<s.effs.length:=by omega
  obtain⟨y0,fV,gQ,EN⟩:=ay (l:=s.effs) (k:=0) k0
  obtain⟨y1,iB,kU,nX⟩:=ay (l:=s.effs) (k:=1) k1
  obtain⟨y2,vM,HS,QU⟩:=ay (l:=s.effs) (k:=2) k2
  have gQ:nth s.effs 0=y0:=gQ
  have kU:nth s.effs 1=y1:=by exact_mod_cast kU
  have HS:nth s.effs 2=y2:=by exact_mod_cast HS
  have t1:=AE y0 EN
  have t2:=hg y2 QU
  have t3:=Jw y0 EN
  have t4:=Ms y1 nX
  have t5:=zC y1
  unfold lJ
  rw[gQ,kU,HS]
  generalize aI y0.val bt=s1 at*
  generalize ga y2 vt=s2 at*
  generalize aI y0.addr bw=s3 at*
  generalize aI y1.val bw=s4 at*
  generalize fz y1 (-1)=s5 at*
  by_cases c5:y0.kind=2
  rotate_left
  ·simp -implicitDefEqProofs[aa,ho,eq_true fY,g1,hx,eq_true c2,g2,wk,eq_true c3,eM,p7,hl,c4,eq_true fF,k0,k1,k2,oK,q_,Lm,fV,iB,vM,cm,eZ,fW,x_,c5]
  cases s3
  ·simp -implicitDefEqProofs[aa,ho,eq_true fY,g1,hx,eq_true c2,g2,wk,eq_true c3,eM,p7,hl,c4,eq_true fF,k0,k1,k2,oK,q_,Lm,fV,iB,vM,cm,eZ,fW,x_,eq_true c5,t3]
  cases s1
  ·simp -implicitDefEqProofs[aa,ho,eq_true fY,g1,hx,eq_true c2,g2,wk,eq_true c3,eM,p7,hl,c4,eq_true fF,k0,k1,k2,oK,q_,Lm,fV,iB,vM,cm,eZ,fW,x_,eq_true c5,t3,t1]
  cases s5
  ·simp -implicitDefEqProofs[aa,ho,eq_true fY,g1,hx,eq_true c2,g2,wk,eq_true c3,eM,p7,hl,c4,eq_true fF,k0,k1,k2,oK,q_,Lm,fV,iB,vM,cm,eZ,fW,x_,eq_true c5,t3,t1,t5]
  by_cases c6:y1.reg=c.stack
  rotate_left
  ·simp -implicitDefEqProofs[aa,ho,eq_true fY,g1,hx,eq_true c2,g2,wk,eq_true c3,eM,p7,hl,c4,eq_true fF,k0,k1,k2,oK,q_,Lm,fV,iB,vM,cm,eZ,fW,x_,eq_true c5,t3,t1,t5,c6]
  cases s4
  ·simp -implicitDefEqProofs[aa,ho,eq_true fY,g1,hx,eq_true c2,g2,wk,eq_true c3,eM,p7,hl,c4,eq_true fF,k0,k1,k2,oK,q_,Lm,fV,iB,vM,cm,eZ,fW,x_,eq_true c5,t3,t1,t5,eq_true c6,t4]
  ·simp -implicitDefEqProofs[aa,ho,eq_true fY,g1,hx,eq_true c2,g2,wk,eq_true c3,eM,p7,hl,c4,eq_true fF,k0,k1,k2,oK,q_,Lm,fV,iB,vM,cm,eZ,fW,x_,eq_true c5,t3,t1,t5,eq_true c6,t4,vN,t2]
end Go.En.V
