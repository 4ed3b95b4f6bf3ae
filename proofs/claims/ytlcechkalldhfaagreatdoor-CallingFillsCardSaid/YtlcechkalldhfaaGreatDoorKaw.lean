/- Part of the proof of CallingFills: engine, contracts or law, joined by a program from the texts X60 X66 X68 X67. -/
import Derived.Test.YtlcechkalldhfaaGreatDoorKaq
set_option linter.all false
set_option maxRecDepth 100000
set_option maxHeartbeats 4000000
namespace Go.En.V
open Go.Proofs
theorem abV(N:Nat)(hN:1400≤N)(v:View)(hv:zr v)(hc:VC v.p.m v.p.c v.ins)(h1:v.ins.effs.length=1)(i:Int)(i0:0≤i)(i1:i<v.args.length):
  R N 159 (ai i::refs 2) (boxes [aB v,[.sl (v.ins.effs.map s8)]])=some (ab (aj (eX v.ins i (-1)) (ga (nth v.ins.effs 0) (dc v.p.m v.ins i))),boxes [aB v,[.sl (v.ins.effs.map s8)]]):=by
 have aa:rows 159=_:=ZZ.eq_1
 obtain⟨n,rfl⟩:=up N
 rw[aE 159 Tryz.func159 rfl rfl]
 have hr:=hv.reg n (by omega) (-1) i0 i1
 have vN:=hv.var n (by omega) i0 i1
 have k0:0<v.ins.effs.length:=by omega
 have oK:(0:Int)<v.ins.effs.length:=by omega
 obtain⟨y0,fV,gQ,EN⟩:=ay (l:=v.ins.effs) (k:=0) k0
 have gQ:nth v.ins.effs 0=y0:=gQ
 have hg:=Cu n (by omega) y0 (dc v.p.m v.ins i) (hc.dp y0 EN).2
 rw[gQ]
 generalize dc v.p.m v.ins i=vt at*
 cases hk:eX v.ins i (-1)
 ·rw[hk] at hr
  simp[aa,boxes,refs,fA,hr]
 ·rw[hk] at hr
  simp[aa,boxes,refs,fA,hr,vN,k0,oK,fV,hg]
theorem GI(N:Nat)(hN:1600≤N)(v:View)(hv:zr v)(hc:VC v.p.m v.p.c v.ins)(b:Int):
  R N 126 [ag (aB v),ai b] []=some (ab (Jq v.p.m v.p.c v.ins v.args),[]):=by
 have aa:rows 126=_:=NM.eq_1
 obtain⟨n,rfl⟩:=up N
 rw[aE 126 Tryz.func126 rfl rfl]
 have jc:=hv.al
 have vn:=mL n (by omega) v 0 0 0 0 (by omega)
 have ha:=FN n v v.p.c.link (by omega) (by omega)
 unfold Jq
 cases hq:e9 v.args 0 0 0 0
 ·rw[hq] at vn
  simp[aa,vn]
 rw[hq] at vn
 by_cases hl:0≤v.p.c.link
 ·rw[if_pos hl]
  by_cases c4:v.ins.effs.length=1
  rotate_left
  ·have fF:¬(v.ins.effs.length:Int)=1:=by omega
   simp[aa,vn,hl,c4,fF]
  have fF:(v.ins.effs.length:Int)=1:=by omega
  have oO:(bo v.args v.p.c.link).length≤v.args.length:=dQ _ _ _
  have ny:∀i∈bo v.args v.p.c.link,0≤i∧i<(v.args.length:Int):=kM _ _ _
  have cb:=di n (bo v.args v.p.c.link) 159 [aB v,[.sl (v.ins.effs.map s8)]] (fun i=>aj (eX v.ins i (-1)) (ga (nth v.ins.effs 0) (dc v.p.m v.ins i))) rfl (by simp) (by omega) (by omega) (fun M hM x hx=>abV M (by omega) v hv hc c4 x (ny x hx).1 (ny x hx).2)
  simp[boxes,refs,fA,-List.any_eq_true] at cb
  generalize ((bo v.args v.p.c.link).any fun i=>aj (eX v.ins i (-1)) (ga (nth v.ins.effs 0) (dc v.p.m v.ins i)))=Q at*
  simp[aa,vn,hl,c4,eq_true fF,ha,cb]
 ·rw[if_neg hl]
  have cm:=zW n (by omega) v hc.st0 hc.st1 hc.nm
  have eZ:=BT n (by omega) v (dL v.p.m) hc.addr
  have fW:=pH n (by omega) v 5 [dj v.p.m v.p.c,eR v.p.m (dL v.p.m)]
  have p9:iR 5 v.p.m.address [dj v.p.m v.p.c,eR v.p.m (dL v.p.m)]=rK v.p.m v.p.c:=rfl
  rw[p9] at fW
  have acM:bD v.p.m.address (dL v.p.m % 2^v.p.m.address.toNat)=eR v.p.m (dL v.p.m):=rfl
  rw[acM] at eZ
  have HY:=pH n (by omega) v 24 [dj v.p.m v.p.c]
  have RI:iR 24 v.p.m.address [dj v.p.m v.p.c]=rA v.p.m v.p.c:=rfl
  rw[RI] at HY
  have x_:=I0 hc.addr
  simp[aT] at fW HY
  have wo:=fun e (he:e∈v.ins.effs)=>Aw n (by omega) v e (rK v.p.m v.p.c) (hc.dp e he).2
  have hg:=fun e (he:e∈v.ins.effs)=>Cu n (by omega) e (rA v.p.m v.p.c) (hc.dp e he).2
  generalize dj v.p.m v.p.c=Va at*
  generalize eR v.p.m (dL v.p.m)=Vf at*
  generalize rK v.p.m v.p.c=bw at*
  generalize rA v.p.m v.p.c=dr at*
  generalize dL v.p.m=XR at*
  by_cases c4:v.ins.effs.length=2
  rotate_left
  ·have fF:¬(v.ins.effs.length:Int)=2:=by omega
   simp[aa,vn,hl,c4,fF]
  have fF:(v.ins.effs.length:Int)=2:=by omega
  have k0:0<v.ins.effs.length:=by omega
  have k1:1<v.ins.effs.length:=by omega
  have oK:(0:Int)<v.ins.effs.length:=by omega
  have q_:(1:Int)<v.ins.effs.length:=by omega
  obtain⟨y0,fV,gQ,EN⟩:=ay (l:=v.ins.effs) (k:=0) k0
  obtain⟨y1,iB,kU,nX⟩:=ay (l:=v.ins.effs) (k:=1) k1
  have gQ:nth v.ins.effs 0=y0:=gQ
  have kU:nth v.ins.effs 1=y1:=by exact_mod_cast kU
  have t2:=hg y1 nX
  have t4:=wo y0 EN
  rw[gQ,kU]
  generalize ga y1 dr=s2 at*
  generalize lJ v.p.c y0 bw=s4 at*
  cases s4
  ·simp[aa,vn,hl,c4,eq_true fF,k0,k1,oK,q_,fV,iB,cm,eZ,fW,x_,t4]
  ·simp[aa,vn,hl,c4,eq_true fF,k0,k1,oK,q_,fV,iB,cm,eZ,fW,HY,x_,t4,t2]
theorem cM(l r:List UInt8):cc ⟨l.toArray⟩ ⟨r.toArray⟩=(l==r):=by
 unfold cc
 rw[ByteArray.toList_eq,ByteArray.toList_eq]
def uZ(v:View):List (ByteArray×PV):=
 [(⟨#[99,111,112,121]⟩,.fb 121 [iX v]),(⟨#[108,111,97,100]⟩,.fb 122 [iX v]),(⟨#[115,116,111,114,101]⟩,.fb 123 [iX v]),(⟨#[97,100,106,117,115,116]⟩,.fb 124 [iX v]),(⟨#[99,97,108,108]⟩,.fb 125 [iX v]),(⟨#[108,101,97,118,101]⟩,.fb 126 [iX v]),(⟨#[110,111,112]⟩,.fb 127 [iX v])]
theorem qA(N:Nat)(hN:1≤N)(v:View)(k:ByteArray):R N 85 [ag (aB v),.p (.str k)] []=some (.p ((l9 k (uZ v)).getD .nilf),[]):=by
 have aa:rows 85={}:=rfl
 obtain⟨n,rfl⟩:=up N
 rw[aE 85 Tryz.func85 rfl rfl]
 have e:∀a b c d e f g:PV,nZ ⟨#[110,111,112]⟩ g (nZ ⟨#[108,101,97,118,101]⟩ f (nZ ⟨#[99,97,108,108]⟩ e (nZ ⟨#[97,100,106,117,115,116]⟩ d (nZ ⟨#[115,116,111,114,101]⟩ c (nZ ⟨#[108,111,97,100]⟩ b [(⟨#[99,111,112,121]⟩,a)])))))=[(⟨#[99,111,112,121]⟩,a),(⟨#[108,111,97,100]⟩,b),(⟨#[115,116,111,114,101]⟩,c),(⟨#[97,100,106,117,115,116]⟩,d),(⟨#[99,97,108,108]⟩,e),(⟨#[108,101,97,118,101]⟩,f),(⟨#[110,111,112]⟩,g)]:=by
  intros;simp[nZ,cM]
 simp[aa,e]
 rfl
theorem GO(N:Nat)(hN:1≤N)(v:View):R N 85 [ag (aB v),.p (.str ⟨#[99,111,112,121]⟩)] []=some (.p (.fb 121 [iX v]),[]):=by
 rw[qA N hN v]
 simp[uZ,l9,cM]
theorem Ka(N:Nat)(hN:1≤N)(v:View):R N 85 [ag (aB v),.p (.str ⟨#[108,111,97,100]⟩)] []=some (.p (.fb 122 [iX v]),[]):=by
 rw[qA N hN v]
 simp[uZ,l9,cM]
theorem GM(N:Nat)(hN:1≤N)(v:View):R N 85 [ag (aB v),.p (.str ⟨#[115,116,111,114,101]⟩)] []=some (.p (.fb 123 [iX v]),[]):=by
 rw[qA N hN v]
 simp[uZ,l9,cM]
theorem Du(N:Nat)(hN:1≤N)(v:View):R N 85 [ag (aB v),.p (.str ⟨#[97,100,106,117,115,116]⟩)] []=some (.p (.fb 124 [iX v]),[]):=by
 rw[qA N hN v]
 simp[uZ,l9,cM]
theorem Kc(N:Nat)(hN:1≤N)(v:View):R N 85 [ag (aB v),.p (.str ⟨#[99,97,108,108]⟩)] []=some (.p (.fb 125 [iX v]),[]):=by
 rw[qA N hN v]
 simp[uZ,l9,cM]
theorem GN(N:Nat)(hN:1≤N)(v:View):R N 85 [ag (aB v),.p (.str ⟨#[108,101,97,118,101]⟩)] []=some (.p (.fb 126 [iX v]),[]):=by
 rw[qA N hN v]
 simp[uZ,l9,cM]
theorem Kb(N:Nat)(hN:1≤N)(v:View):R N 85 [ag (aB v),.p (.str ⟨#[110,111,112]⟩)] []=some (.p (.fb 127 [iX v]),[]):=by
 rw[qA N hN v]
 simp[uZ,l9,cM]
def fk:List PV:=[.str ⟨#[]⟩,.int .i64 0,.int .i64 0,.nils,.nils,.nils,.nils,.int .i64 0,.int .i64 0,.int .i64 0,.nils,.int .i64 0,.nils,.int .i64 0,.nils,.int .i64 0,.nils,.int .i64 0,.nils,.int .i64 0,.nils,.int .i64 0,.nils,.int .i64 0,.nils,.str ⟨#[]⟩,.int .u64 0,.int .u64 0,.nils,.nils,.int .i64 0,.int .i64 0,.int .i64 0,.int .i64 0,.int .u8 0,.int .i64 0,.int .i64 0,.int .u8 0,.int .i64 0,.int .u64 0,.str ⟨#[]⟩,.int .i64 0,.nils,.int .u8 0,.int .i64 0,.int .u64 0,.str ⟨#[]⟩,.int .i64 0,.nils,.int .u8 0,.int .i64 0,.int .u64 0,.str ⟨#[]⟩,.int .i64 0,.nils,.bool false]
theorem uV:eK=fk.map AV.p:=rfl
theorem aeN(N:Nat)(hN:10≤N)(x:Int):R N 143 [.agg eK,ai x] []=some (.p (.sl []),[]):=by
 have aa:rows 143=_:=NL.eq_1
 obtain⟨n,rfl⟩:=up N
 rw[aE 143 Tryz.func143 rfl rfl]
 unfold eK
 simp[aa]
 rw[abC 0 (fun k=>⟨[(1,ai x),(5,.arr 2 0 0 0),(9,.p .nils),(10,ai 0),(11,ai 0)],[.box eK,.arr 0 1 false [],.arr 0 1 false []]⟩) (by omega) (by simp[aa,eK]) (by
    intro k h K;omega) (by simp[aa])]
 simp
theorem oZ(N:Nat)(hN:20≤N)(a b c d:Int):R N 142 [.agg eK,ai a,ai b,ai c,ai d] []=some (ab (aj (aj (aj (decide (0=a)) (decide (0=b))) (decide (0=c))) (decide (0=d))),[]):=by
 have aa:rows 142={}:=rfl
 obtain⟨n,rfl⟩:=up N
 rw[aE 142 Tryz.func142 rfl rfl]
 have h:=fun x=>aeN n (by omega) x
 unfold eK at*
 by_cases c1:(0:Int)=a
 ·by_cases c2:(0:Int)=b
  ·by_cases c3:(0:Int)=c
   ·simp[aa,h,eq_true c1,eq_true c2,eq_true c3]
   ·simp[aa,h,eq_true c1,eq_true c2,c3]
  ·simp[aa,h,eq_true c1,c2]
 ·simp[aa,h,c1]
theorem TV(N:Nat)(hN:30≤N)(b:Int):R N 122 [.agg eK,ai b] []=some (ab false,[]):=by
 have aa:rows 122=_:=NP.eq_1
 obtain⟨n,rfl⟩:=up N
 rw[aE 122 Tryz.func122 rfl rfl]
 have h:=oZ n (by omega)
 unfold eK at*
 simp[aa,h]
theorem Og(N:Nat)(hN:30≤N)(b:Int):R N 123 [.agg eK,ai b] []=some (ab false,[]):=by
 have aa:rows 123=_:=NO.eq_1
 obtain⟨n,rfl⟩:=up N
 rw[aE 123 Tryz.func123 rfl rfl]
 have h:=oZ n (by omega)
 unfold eK at*
 simp[aa,h]
theorem Qu(N:Nat)(hN:30≤N)(b:Int):R N 121 [.agg eK,ai b] []=some (ab false,[]):=by
 have aa:rows 121=_:=NQ.eq_1
 obtain⟨n,rfl⟩:=up N
 rw[aE 121 Tryz.func121 rfl rfl]
 have h:=oZ n (by omega)
 unfold eK at*
 simp[aa,h]
theorem Mi(N:Nat)(hN:30≤N)(b:Int):R N 124 [.agg eK,ai b] []=some (ab false,[]):=by
 have aa:rows 124={}:=rfl
 obtain⟨n,rfl⟩:=up N
 rw[aE 124 Tryz.func124 rfl rfl]
 have h:=oZ n (by omega)
 have ha:=fun x=>aeN n (by omega) x
 unfold eK at*
 simp[aa,h,ha]
theorem UM(N:Nat)(hN:30≤N)(b:Int):R N 125 [.agg eK,ai b] []=some (ab false,[]):=by
 have aa:rows 125=_:=NN.eq_1
 obtain⟨n,rfl⟩:=up N
 rw[aE 125 Tryz.func125 rfl rfl]
 unfold eK at*
 simp[aa]
theorem Po(N:Nat)(hN:30≤N)(b:Int):R N 126 [.agg eK,ai b] []=some (ab false,[]):=by
 have aa:rows 126=_:=NM.eq_1
 obtain⟨n,rfl⟩:=up N
 rw[aE 126 Tryz.func126 rfl rfl]
 have h:=oZ n (by omega)
 have ha:=fun x=>aeN n (by omega) x
 unfold eK at*
 simp[aa,h,ha]
theorem T7(N:Nat)(hN:30≤N)(b:Int):R N 127 [.agg eK,ai b] []=some (ab true,[]):=by
 have aa:rows 127={}:=rfl
 obtain⟨n,rfl⟩:=up N
 rw[aE 127 Tryz.func127 rfl rfl]
 unfold eK at*
 simp[aa]
def uY(l:List PV):List (ByteArray×PV):=
 [(⟨#[99,111,112,121]⟩,.fb 121 [.agg l]),(⟨#[108,111,97,100]⟩,.fb 122 [.agg l]),(⟨#[115,116,111,114,101]⟩,.fb 123 [.agg l]),(⟨#[97,100,106,117,115,116]⟩,.fb 124 [.agg l]),(⟨#[99,97,108,108]⟩,.fb 125 [.agg l]),(⟨#[108,101,97,118,101]⟩,.fb 126 [.agg l]),(⟨#[110,111,112]⟩,.fb 127 [.agg l])]
theorem wI(N:Nat)(hN:1≤N)(k:ByteArray):R N 85 [.agg eK,.p (.str k)] []=some (.p ((l9 k (uY fk)).getD .nilf),[]):=by
 rw[uV]
 have PS:fk.length=56:=rfl
 have Ly:∀x∈fk.map AV.p,x.one=true:=by simp[fk]
 have RD:fk.all (AV.one∘AV.p)=true:=by simp[fk]
 have Sb:(fk.map AV.p).take 56=fk.map AV.p:=by rw[List.take_of_length_le (by simp[PS])]
 have hl5:∀x∈fk,(AV.p x).one=true:=by simp[fk]
 generalize fk=l at*
 have aa:rows 85={}:=rfl
 obtain⟨n,rfl⟩:=up N
 rw[aE 85 Tryz.func85 rfl rfl]
 have e:∀a b c d e f g:PV,nZ ⟨#[110,111,112]⟩ g (nZ ⟨#[108,101,97,118,101]⟩ f (nZ ⟨#[99,97,108,108]⟩ e (nZ ⟨#[97,100,106,117,115,116]⟩ d (nZ ⟨#[115,116,111,114,101]⟩ c (nZ ⟨#[108,111,97,100]⟩ b [(⟨#[99,111,112,121]⟩,a)])))))=[(⟨#[99,111,112,121]⟩,a),(⟨#[108,111,97,100]⟩,b),(⟨#[115,116,111,114,101]⟩,c),(⟨#[97,100,106,117,115,116]⟩,d),(⟨#[99,97,108,108]⟩,e),(⟨#[108,101,97,118,101]⟩,f),(⟨#[110,111,112]⟩,g)]:=by
  intros;simp[nZ,cM]
 simp[aa,e,PS,eq_true Ly,Sb,RD,eq_true hl5]
 rfl
theorem i6(n:Nat)(hn:500≤n)(p:eU)(t:gf)(b:Int)(k:ByteArray)(f:Nat)(X:Bool)(oN:T.muts f=false)(hw:qa p.m)(ha:t.args.length≤100)(hi:∀s∈p.m.instrs,vW p.m s)
  (hu:R n 85 [ag (aB (bc p t)),.p (.str k)] []=some (.p (.fb f [iX (bc p t)]),[]))
  (Rx:R n 85 [.agg eK,.p (.str k)] []=some (.p (.fb f [.agg fk]),[]))
  (z:Bool)(Cm:R n f [.agg eK,ai b] []=some (ab z,[]))
  (hf:aG p.m t (cc k ⟨#[99,97,108,108]⟩)=true→R n f [ag (aB (bc p t)),ai b] []=some (ab X,[])):
  R (n+1) 54 [ag (aD p),.p (.str k),ag (bm t),ai b] []=some (ab (aG p.m t (cc k ⟨#[99,97,108,108]⟩)&&X),[]):=by
 obtain⟨N,hN⟩:∃N,N=n+1:=⟨_,rfl⟩
 rw[←hN]
 have gq:=TT n (by omega) p t (cc k ⟨#[99,97,108,108]⟩) hw ha hi
 have Uw:n=N-1:=by omega
 subst Uw
 have aa:rows 54={}:=rfl
 obtain⟨n,rfl⟩:=up N
 rw[aE 54 Tryz.func54 rfl rfl]
 simp only[Nat.add_sub_cancel] at*
 cases hs:aG p.m t (cc k ⟨#[99,97,108,108]⟩)
 ·have gq:=gq.2 hs
  have PS:eK.length=56:=rfl
  have Ly:∀x∈eK,x.one=true:=by simp[eK]
  have Sb:eK.take 56=eK:=List.take_of_length_le (by simp[PS])
  have hl6:eK.drop 56=[]:=List.drop_eq_nil_of_le (by simp[PS])
  have hl7:∀h,eK.map (lC h)=eK:=by intro h;simp[eK,lC]
  have RD:eK.all AV.one=true:=List.all_eq_true.2 Ly
  have hl8:cZ (eK++[.p (.str k)])=some (fk++[.str k]):=by
   rw[uV,show fk.map AV.p++[AV.p (PV.str k)]=(fk++[PV.str k]).map AV.p by simp];exact Kg _
  have Lu:scalar (.p (.fb f [.agg fk]))=false:=rfl
  have Dh:T.fresh 85=false:=rfl
  generalize eK=zv at*
  generalize fk=zc at*
  simp at oN Dh
  simp[aa,gq,PS,eq_true Ly,Sb,RD,hl6,hl7,gO,hl8,Rx,Lu,Dh]
 ·have gq:=gq.1 hs
  have hf:=hf hs
  have hcu:PV.up (iX (bc p t))=ag (aB (bc p t)):=rfl
  generalize bc p t=v at*
  simp at oN
  simp[aa,gq,hu,hf,oN,hcu]
theorem DL(N:Nat)(hN:2000≤N)(p:eU)(t:gf)(b:Int)(hw:qa p.m)(ha:t.args.length≤100)(hi:∀s∈p.m.instrs,vW p.m s)(hv:aG p.m t false=true→zr (bc p t))(b0:0≤b)(b1:b<p.m.banks.length):
  R N 54 [ag (aD p),.p (.str ⟨#[108,111,97,100]⟩),ag (bm t),ai b] []=some (ab (aG p.m t false&&TX (bc p t) b),[]):=by
 obtain⟨n,rfl⟩:∃n,N=n+1:=⟨N-1,by omega⟩
 have e:cc ⟨#[108,111,97,100]⟩ ⟨#[99,97,108,108]⟩=false:=by simp[cM]
 have:=i6 n (by omega) p t b ⟨#[108,111,97,100]⟩ 122 (TX (bc p t) b) rfl hw ha hi (Ka n (by omega) _)
  (by rw[wI n (by omega)];simp[uY,l9,cM]) _ (TV n (by omega) b) (fun h=>by rw[e] at h;exact Pm n (by omega) _ (hv h) b b0 b1)
 rw[e] at this
 exact this
theorem BI(N:Nat)(hN:2000≤N)(p:eU)(t:gf)(b:Int)(hw:qa p.m)(ha:t.args.length≤100)(hi:∀s∈p.m.instrs,vW p.m s)(hv:aG p.m t false=true→zr (bc p t)):
  R N 54 [ag (aD p),.p (.str ⟨#[115,116,111,114,101]⟩),ag (bm t),ai b] []=some (ab (aG p.m t false&&SX (bc p t) b),[]):=by
 obtain⟨n,rfl⟩:∃n,N=n+1:=⟨N-1,by omega⟩
 have e:cc ⟨#[115,116,111,114,101]⟩ ⟨#[99,97,108,108]⟩=false:=by simp[cM]
 have:=i6 n (by omega) p t b ⟨#[115,116,111,114,101]⟩ 123 (SX (bc p t) b) rfl hw ha hi (GM n (by omega) _)
  (by rw[wI n (by omega)];simp[uY,l9,cM]) _ (Og n (by omega) b) (fun h=>by rw[e] at h;exact Km n (by omega) _ (hv h) b)
 rw[e] at this
 exact this
theorem qg(N:Nat)(hN:2000≤N)(p:eU)(t:gf)(b:Int)(hw:qa p.m)(ha:t.args.length≤100)(hi:∀s∈p.m.instrs,vW p.m s)(hv:aG p.m t false=true→zr (bc p t)):
  R N 54 [ag (aD p),.p (.str ⟨#[97,100,106,117,115,116]⟩),ag (bm t),ai b] []=some (ab (aG p.m t false&&zb (bc p t)),[]):=by
 obtain⟨n,rfl⟩:∃n,N=n+1:=⟨N-1,by omega⟩
 have e:cc ⟨#[97,100,106,117,115,116]⟩ ⟨#[99,97,108,108]⟩=false:=by simp[cM]
 have:=i6 n (by omega) p t b ⟨#[97,100,106,117,115,116]⟩ 124 (zb (bc p t)) rfl hw ha hi (Du n (by omega) _)
  (by rw[wI n (by omega)];simp[uY,l9,cM]) _ (Mi n (by omega) b) (fun h=>by rw[e] at h;exact Iy n (by omega) _ (hv h) b)
 rw[e] at this
 exact this
theorem u9(N:Nat)(hN:2000≤N)(p:eU)(t:gf)(b:Int)(hw:qa p.m)(ha:t.args.length≤100)(hi:∀s∈p.m.instrs,vW p.m s)(hv:aG p.m t true=true→zr (bc p t))(hc:aG p.m t true=true→VC p.m p.c (nth p.m.instrs t.instr)):
  R N 54 [ag (aD p),.p (.str ⟨#[99,97,108,108]⟩),ag (bm t),ai b] []=some (ab (aG p.m t true&&JQ p.m p.c (nth p.m.instrs t.instr) t.args),[]):=by
 obtain⟨n,rfl⟩:∃n,N=n+1:=⟨N-1,by omega⟩
 have e:cc ⟨#[99,97,108,108]⟩ ⟨#[99,97,108,108]⟩=true:=by simp[cM]
 have:=i6 n (by omega) p t b ⟨#[99,97,108,108]⟩ 125 (JQ p.m p.c (nth p.m.instrs t.instr) t.args) rfl hw ha hi (Kc n (by omega) _)
  (by rw[wI n (by omega)];simp[uY,l9,cM]) _ (UM n (by omega) b) (fun h=>by rw[e] at h;exact J' n (by omega) _ (hv h) (hc h) b)
 rw[e] at this
 exact this
theorem sb(N:Nat)(hN:2000≤N)(p:eU)(t:gf)(b:Int)(hw:qa p.m)(ha:t.args.length≤100)(hi:∀s∈p.m.instrs,vW p.m s)(hv:aG p.m t false=true→zr (bc p t))(hc:aG p.m t false=true→VC p.m p.c (nth p.m.instrs t.instr)):
  R N 54 [ag (aD p),.p (.str ⟨#[108,101,97,118,101]⟩),ag (bm t),ai b] []=some (ab (aG p.m t false&&Jq p.m p.c (nth p.m.instrs t.instr) t.args),[]):=by
 obtain⟨n,rfl⟩:∃n,N=n+1:=⟨N-1,by omega⟩
 have e:cc ⟨#[108,101,97,118,101]⟩ ⟨#[99,97,108,108]⟩=false:=by simp[cM]
 have:=i6 n (by omega) p t b ⟨#[108,101,97,118,101]⟩ 126 (Jq p.m p.c (nth p.m.instrs t.instr) t.args) rfl hw ha hi (GN n (by omega) _)
  (by rw[wI n (by omega)];simp[uY,l9,cM]) _ (Po n (by omega) b) (fun h=>by rw[e] at h;exact GI n (by omega) _ (hv h) (hc h) b)
 rw[e] at this
 exact this
theorem u7(N:Nat)(hN:2000≤N)(p:eU)(t:gf)(b:Int)(hw:qa p.m)(ha:t.args.length≤100)(hi:∀s∈p.m.instrs,vW p.m s):
  R N 54 [ag (aD p),.p (.str ⟨#[110,111,112]⟩),ag (bm t),ai b] []=some (ab (aG p.m t false&&aj (decide (t.args=[])) (decide ((nth p.m.instrs t.instr).effs=[]))),[]):=by
 obtain⟨n,rfl⟩:∃n,N=n+1:=⟨N-1,by omega⟩
 have e:cc ⟨#[110,111,112]⟩ ⟨#[99,97,108,108]⟩=false:=by simp[cM]
 have:=i6 n (by omega) p t b ⟨#[110,111,112]⟩ 127 (aj (decide (t.args=[])) (decide ((nth p.m.instrs t.instr).effs=[]))) rfl hw ha hi (Kb n (by omega) _)
  (by rw[wI n (by omega)];simp[uY,l9,cM]) _ (T7 n (by omega) b) (fun h=>by rw[e] at h;exact PF n (by omega) _ b)
 rw[e] at this
 exact this
end Go.En.V
