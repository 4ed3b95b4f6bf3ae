/- Part of the proof of CallingFills: engine, contracts or law, joined by a program from the texts X59. -/
import Derived.Test.YtlcechkalldhfaaGreatDoorKal
set_option linter.all false
set_option maxRecDepth 100000
set_option maxHeartbeats 4000000
namespace Go.En.V
open Go.Proofs
def eR(m:aw)(c:Int):Tr:=bD m.address (c % 2^m.address.toNat)
def dL(m:aw):Int:=if m.address=16 then 2 else 4
def vD(m:aw)(s:dh):Tr:=iR 5 m.address [nh m.address ⟨#[112,99]⟩,eR m (IntKind.i64.wrap (IntKind.i64.wrap (1+s.slots)*m.word))]
def mb(m:aw)(c:Conv):Tr:=iR 6 m.address [dj m c,eR m (dL m)]
def rK(m:aw)(c:Conv):Tr:=iR 5 m.address [dj m c,eR m (dL m)]
def rA(m:aw)(c:Conv):Tr:=iR 24 m.address [dj m c]
def jB(s:dh)(args:List Int):Bool:=decide (args.length=1)&&(decide (nth args 0=-4)&&decide ((nth s.opds 0).kind=4))
def JQ(m:aw)(c:Conv)(s:dh)(args:List Int):Bool:=
 jB s args&&(if 0≤c.link then decide (s.effs.length=2)&&(fz (nth s.effs 0) (-1)&&(decide ((nth s.effs 0).reg=c.link)&&(aI (nth s.effs 0).val (vD m s)&&ga (nth s.effs 1) (dc m s 0))))
  else decide (s.effs.length=3)&&(decide ((nth s.effs 0).kind=2)&&(aI (nth s.effs 0).addr (mb m c)&&(aI (nth s.effs 0).val (vD m s)&&(lJ c (nth s.effs 1) (mb m c)&&ga (nth s.effs 2) (dc m s 0))))))
def Jq(m:aw)(c:Conv)(s:dh)(args:List Int):Bool:=
 e9 args 0 0 0 0&&(if 0≤c.link then decide (s.effs.length=1)&&(bo args c.link).any (fun i=>aj (eX s i (-1)) (ga (nth s.effs 0) (dc m s i)))
  else decide (s.effs.length=2)&&(lJ c (nth s.effs 0) (rK m c)&&ga (nth s.effs 1) (rA m c)))
structure VC(m:aw)(c:Conv)(s:dh):Prop where
 addr:m.address=16∨m.address=32
 st0:0≤c.stack
 st1:c.stack<m.regs.length
 nm:∀r∈m.regs,r.name.size≤1000000
 dp:∀e∈s.effs,Dp 80 e.addr∧Dp 80 e.val
theorem I0{m:aw}(h:m.address=16∨m.address=32):IntKind.i64.wrap (m.address.tdiv 8)=dL m:=by
 unfold dL
 rcases h with h|h<;>rw[h]<;>decide
theorem OX(w:Int):[PV.int .u8 2,.int .i64 w,.int .u64 0,.str ⟨#[112,99]⟩,.int .i64 0,.nils]=aC (nh w ⟨#[112,99]⟩):=by
 simp[ae,nh,Tr.kind,Tr.width,Tr.bits,Tr.name,Tr.low,Tr.z,Tr.sub]
theorem J'(N:Nat)(hN:1500≤N)(v:View)(hv:zr v)(hc:VC v.p.m v.p.c v.ins)(b:Int):
  R N 125 [ag (aB v),ai b] []=some (ab (JQ v.p.m v.p.c v.ins v.args),[]):=by
 have aa:rows 125=_:=NN.eq_1
 obtain⟨n,rfl⟩:=up N
 rw[aE 125 Tryz.func125 rfl rfl]
 unfold JQ
 by_cases c1:v.args.length=1
 rotate_left
 ·have fY:¬(v.args.length:Int)=1:=by omega
  have e:jB v.ins v.args=false:=by simp[jB,c1]
  rw[e]
  simp[aa,fY]
 have fY:(v.args.length:Int)=1:=by omega
 have g1:0<v.args.length:=by omega
 obtain⟨x,hx,bI,_⟩:=ay (l:=v.args) (k:=0) g1
 have bI:nth v.args 0=x:=bI
 have hlen:=hv.len
 have g2:0<v.ins.opds.length:=by omega
 obtain⟨o,ho,lM,hom⟩:=ay (l:=v.ins.opds) (k:=0) g2
 have lM:nth v.ins.opds 0=o:=lM
 by_cases c2:x=-4
 rotate_left
 ·have e:jB v.ins v.args=false:=by simp[jB,bI,c2]
  rw[e]
  simp[aa,eq_true fY,g1,hx,c2]
 by_cases c3:o.kind=4
 rotate_left
 ·have e:jB v.ins v.args=false:=by simp[jB,lM,c3]
  rw[e]
  simp[aa,eq_true fY,g1,hx,eq_true c2,g2,ho,c3]
 have e:jB v.ins v.args=true:=by simp[jB,c1,bI,c2,lM,c3]
 rw[e]
 have eM:=BT n (by omega) v (IntKind.i64.wrap (IntKind.i64.wrap (1+v.ins.slots)*v.p.m.word)) hc.addr
 have p7:=pH n (by omega) v 5 [nh v.p.m.address ⟨#[112,99]⟩,eR v.p.m (IntKind.i64.wrap (IntKind.i64.wrap (1+v.ins.slots)*v.p.m.word))]
 have vN:=hv.var n (by omega) (i:=0) (by omega) (by omega)
 have hb:iR 5 v.p.m.address [nh v.p.m.address ⟨#[112,99]⟩,eR v.p.m (IntKind.i64.wrap (IntKind.i64.wrap (1+v.ins.slots)*v.p.m.word))]=vD v.p.m v.ins:=rfl
 rw[hb] at p7
 have Nk:bD v.p.m.address (IntKind.i64.wrap (IntKind.i64.wrap (1+v.ins.slots)*v.p.m.word) % 2^v.p.m.address.toNat)=eR v.p.m (IntKind.i64.wrap (IntKind.i64.wrap (1+v.ins.slots)*v.p.m.word)):=rfl
 rw[Nk] at eM
 simp[aT,←OX] at p7
 have AE:=fun e (he:e∈v.ins.effs)=>iM 80 n e.val (vD v.p.m v.ins) (hc.dp e he).2 (by omega)
 have hg:=fun e (he:e∈v.ins.effs)=>Cu n (by omega) e (dc v.p.m v.ins 0) (hc.dp e he).2
 have zC:=fun e=>rY n (by omega) e (-1)
 generalize eR v.p.m (IntKind.i64.wrap (IntKind.i64.wrap (1+v.ins.slots)*v.p.m.word))=nt at*
 generalize vD v.p.m v.ins=bt at*
 generalize dc v.p.m v.ins 0=vt at*
 by_cases hl:0≤v.p.c.link
 ·rw[if_pos hl]
  by_cases c4:v.ins.effs.length=2
  rotate_left
  ·have fF:¬(v.ins.effs.length:Int)=2:=by omega
   simp[aa,eq_true fY,g1,hx,eq_true c2,g2,ho,eq_true c3,eM,p7,hl,c4,fF]
  have fF:(v.ins.effs.length:Int)=2:=by omega
  have k0:0<v.ins.effs.length:=by omega
  have k1:1<v.ins.effs.length:=by omega
  have oK:(0:Int)<v.ins.effs.length:=by omega
  have q_:(1:Int)<v.ins.effs.length:=by omega
  obtain⟨y0,fV,gQ,EN⟩:=ay (l:=v.ins.effs) (k:=0) k0
  obtain⟨y1,iB,kU,nX⟩:=ay (l:=v.ins.effs) (k:=1) k1
  have gQ:nth v.ins.effs 0=y0:=gQ
  have kU:nth v.ins.effs 1=y1:=by exact_mod_cast kU
  have t1:=AE y0 EN
  have t2:=hg y1 nX
  have t3:=zC y0
  rw[gQ,kU]
  generalize aI y0.val bt=s1 at*
  generalize ga y1 vt=s2 at*
  generalize fz y0 (-1)=s3 at*
  cases s3
  ·simp[aa,eq_true fY,g1,hx,eq_true c2,g2,ho,eq_true c3,eM,p7,hl,c4,eq_true fF,k0,k1,oK,q_,fV,iB,t3]
  by_cases c5:y0.reg=v.p.c.link
  rotate_left
  ·simp[aa,eq_true fY,g1,hx,eq_true c2,g2,ho,eq_true c3,eM,p7,hl,c4,eq_true fF,k0,k1,oK,q_,fV,iB,t3,c5]
  cases s1
  ·simp[aa,eq_true fY,g1,hx,eq_true c2,g2,ho,eq_true c3,eM,p7,hl,c4,eq_true fF,k0,k1,oK,q_,fV,iB,t3,eq_true c5,t1]
  ·simp[aa,eq_true fY,g1,hx,eq_true c2,g2,ho,eq_true c3,eM,p7,hl,c4,eq_true fF,k0,k1,oK,q_,fV,iB,t3,eq_true c5,t1,vN,t2]
 ·rw[if_neg hl]
  have cm:=zW n (by omega) v hc.st0 hc.st1 hc.nm
  have eZ:=BT n (by omega) v (dL v.p.m) hc.addr
  have fW:=pH n (by omega) v 6 [dj v.p.m v.p.c,eR v.p.m (dL v.p.m)]
  have p9:iR 6 v.p.m.address [dj v.p.m v.p.c,eR v.p.m (dL v.p.m)]=mb v.p.m v.p.c:=rfl
  rw[p9] at fW
  have acM:bD v.p.m.address (dL v.p.m % 2^v.p.m.address.toNat)=eR v.p.m (dL v.p.m):=rfl
  rw[acM] at eZ
  have x_:=I0 hc.addr
  simp[aT] at fW
  have Jw:=fun e (he:e∈v.ins.effs)=>iM 80 n e.addr (mb v.p.m v.p.c) (hc.dp e he).1 (by omega)
  have wo:=fun e (he:e∈v.ins.effs)=>Aw n (by omega) v e (mb v.p.m v.p.c) (hc.dp e he).2
  generalize dj v.p.m v.p.c=Va at*
  generalize eR v.p.m (dL v.p.m)=Vf at*
  generalize mb v.p.m v.p.c=bw at*
  generalize dL v.p.m=XR at*
  by_cases c4:v.ins.effs.length=3
  rotate_left
  ·have fF:¬(v.ins.effs.length:Int)=3:=by omega
   simp[aa,eq_true fY,g1,hx,eq_true c2,g2,ho,eq_true c3,eM,p7,hl,c4,fF,cm,eZ,fW,x_]
  have fF:(v.ins.effs.length:Int)=3:=by omega
  have k0:0<v.ins.effs.length:=by omega
  have k1:1<v.ins.effs.length:=by omega
  have k2:2<v.ins.effs.length:=by omega
  have oK:(0:Int)<v.ins.effs.length:=by omega
  have q_:(1:Int)<v.ins.effs.length:=by omega
  have Lm:(2:Int)<v.ins.effs.length:=by omega
  obtain⟨y0,fV,gQ,EN⟩:=ay (l:=v.ins.effs) (k:=0) k0
  obtain⟨y1,iB,kU,nX⟩:=ay (l:=v.ins.effs) (k:=1) k1
  obtain⟨y2,vM,HS,QU⟩:=ay (l:=v.ins.effs) (k:=2) k2
  have gQ:nth v.ins.effs 0=y0:=gQ
  have kU:nth v.ins.effs 1=y1:=by exact_mod_cast kU
  have HS:nth v.ins.effs 2=y2:=by exact_mod_cast HS
  have t1:=AE y0 EN
  have t2:=hg y2 QU
  have t3:=Jw y0 EN
  have t4:=wo y1 nX
  rw[gQ,kU,HS]
  generalize aI y0.val bt=s1 at*
  generalize ga y2 vt=s2 at*
  generalize aI y0.addr bw=s3 at*
  generalize lJ v.p.c y1 bw=s4 at*
  by_cases c5:y0.kind=2
  rotate_left
  ·simp[aa,eq_true fY,g1,hx,eq_true c2,g2,ho,eq_true c3,eM,p7,hl,c4,eq_true fF,k0,k1,k2,oK,q_,Lm,fV,iB,vM,cm,eZ,fW,x_,c5]
  cases s3
  ·simp[aa,eq_true fY,g1,hx,eq_true c2,g2,ho,eq_true c3,eM,p7,hl,c4,eq_true fF,k0,k1,k2,oK,q_,Lm,fV,iB,vM,cm,eZ,fW,x_,eq_true c5,t3]
  cases s1
  ·simp[aa,eq_true fY,g1,hx,eq_true c2,g2,ho,eq_true c3,eM,p7,hl,c4,eq_true fF,k0,k1,k2,oK,q_,Lm,fV,iB,vM,cm,eZ,fW,x_,eq_true c5,t3,t1]
  cases s4
  ·simp[aa,eq_true fY,g1,hx,eq_true c2,g2,ho,eq_true c3,eM,p7,hl,c4,eq_true fF,k0,k1,k2,oK,q_,Lm,fV,iB,vM,cm,eZ,fW,x_,eq_true c5,t3,t1,t4]
  ·simp[aa,eq_true fY,g1,hx,eq_true c2,g2,ho,eq_true c3,eM,p7,hl,c4,eq_true fF,k0,k1,k2,oK,q_,Lm,fV,iB,vM,cm,eZ,fW,x_,eq_true c5,t3,t1,t4,vN,t2]
end Go.En.V
