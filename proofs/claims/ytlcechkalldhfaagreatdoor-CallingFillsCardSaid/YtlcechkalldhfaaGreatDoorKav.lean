/- Part of the proof of CallingFills: engine, contracts or law, joined by a program from the texts X61 X62 X63 X72. -/
import Derived.Test.YtlcechkalldhfaaGreatDoorKaq
import Derived.Test.YtlcechkalldhfaaGreatDoorKar
set_option linter.all false
set_option maxRecDepth 100000
set_option maxHeartbeats 4000000
namespace Go.En.V
open Go.Proofs
structure Sq(f:Da):Prop where
 wb:qa f.m
 wr:QP f.m
 len:f.t.args.length=f.s.opds.length
 al:f.t.args.length≤100
 el:f.s.effs.length≤100
 opds:∀o∈f.s.opds,Bf f.m o
 effs:∀e∈f.s.effs,RX f.m e
 dp:∀e∈f.s.effs,Dp 80 e.addr∧Dp 80 e.val
theorem ua(m:aw)(l:List jY):∀k,k≤l.length→(bN m l k).1=mj∨(bN m l k).1∈l
 |0,_=>.inl rfl
 |k+1,h=>by
  simp only[bN]
  split
  ·exact ua m l k (by omega)
  ·obtain⟨x,_,hx,hm⟩:=ay (l:=l) (k:=k) (by omega)
   rw[hx];exact .inr hm
theorem Ny:Dp 80 mj.addr∧Dp 80 mj.val:=by
 have:Dp 80 (default:Tr):=⟨by simp[rB,Tr.sub],by simp[rB,Tr.sub]⟩
 exact⟨this,this⟩
theorem Sq.main_dp{f:Da}(h:Sq f):Dp 80 (bN f.m f.s.effs f.s.effs.length).1.addr∧Dp 80 (bN f.m f.s.effs f.s.effs.length).1.val:=by
 rcases ua f.m f.s.effs f.s.effs.length (Nat.le_refl _) with e|e
 ·rw[e];exact Ny
 ·exact h.dp _ e
theorem Sq.var{f:Da}(h:Sq f)(N:Nat)(hN:3≤N){i:Int}(h0:0≤i)(h1:i<f.t.args.length):R N 105 [ag (bP f),ai i] []=some (ag (aC (dc f.m f.s i)),[]):=by
 have nA:i<f.s.opds.length:=by have:=h.len;omega
 obtain⟨x,_,_,hx,hm⟩:=aR h0 nA
 exact Cv N hN f h.wb i h0 nA (by rw[hx];exact h.opds x hm)
theorem Sq.reg{f:Da}(h:Sq f)(N:Nat)(hN:1≤N){i:Int}(b:Int)(hb: -1≤b)(h0:0≤i)(h1:i<f.t.args.length):R N 101 [ag (bP f),ai i,ai b] []=some (ab (eX f.s i b),[]):=by
 have e:eX f.s i b=aj (decide ((nth f.s.opds i).kind=1)) (cE (decide (b<0)) (decide ((nth f.s.opds i).bank=b))):=by
  have:decide (b=-1)=decide (b<0):=by rw[decide_eq_decide];omega
  unfold eX;rw[this]
 rw[e]
 exact UB N hN f i b h0 (by have:=h.len;omega)
theorem Sq.num{f:Da}(h:Sq f)(N:Nat)(hN:1≤N){i:Int}(h0:0≤i)(h1:i<f.t.args.length):R N 164 [ag (bP f),ai i] []=some (ab (HG f.s i),[]):=
 H8 N hN f i h0 (by have:=h.len;omega)
def Bz(s:dh)(args:List Int)(fl ot b:Int):Bool:=
 (decide ((bo args fl).length=1)&&(decide ((bo args (-3)).length=1)&&(decide ((bo args (-4)).length=1)&&decide ((bo args ot).length=0))))&&zw s args fl b
def qb:List AV:=[.p (.int .u8 0),ai 0,.p (.int .u64 0),.p (.str ⟨#[]⟩),ai 0,.p .nils]
theorem vq(N:Nat)(hN:200≤N)(f:Da)(hf:Sq f)(fl ot b:Int)(hb: -1≤b):
  (Bz f.s f.t.args fl ot b=true→R N 135 [ag (bP f),ai fl,ai ot,ai b] []=some (.tup [ai (pl f.t.args fl),.agg ((aC (dg f.m f.s (pl f.t.args (-3)) (pl f.t.args (-4)))).map .p),ab true],[]))∧
  (Bz f.s f.t.args fl ot b=false→R N 135 [ag (bP f),ai fl,ai ot,ai b] []=some (.tup [ai 0,.agg qb,ab false],[])):=by
 have jc:=hf.al
 have ha:=fun N (hN:190≤N) x=>pD N f x (by omega) (by omega)
 unfold Bz
 by_cases c1:(bo f.t.args fl).length=1
 rotate_left
 ·refine⟨fun h=>by simp[c1] at h,fun _=> ?_⟩
  have aa:rows 135=_:=n9.eq_1
  obtain⟨n,rfl⟩:=up N
  rw[aE 135 Tryz.func135 rfl rfl]
  unfold qb
  have fY:¬((bo f.t.args fl).length:Int)=1:=by omega
  simp[aa,ha n (by omega),c1,fY]
 have fY:((bo f.t.args fl).length:Int)=1:=by omega
 by_cases c2:(bo f.t.args (-3)).length=1
 rotate_left
 ·refine⟨fun h=>by simp[c2] at h,fun _=> ?_⟩
  have aa:rows 135=_:=n9.eq_1
  obtain⟨n,rfl⟩:=up N
  rw[aE 135 Tryz.func135 rfl rfl]
  unfold qb
  have ma:¬((bo f.t.args (-3)).length:Int)=1:=by omega
  simp[aa,ha n (by omega),eq_true fY,c2,ma]
 have ma:((bo f.t.args (-3)).length:Int)=1:=by omega
 by_cases c3:(bo f.t.args (-4)).length=1
 rotate_left
 ·refine⟨fun h=>by simp[c3] at h,fun _=> ?_⟩
  have aa:rows 135=_:=n9.eq_1
  obtain⟨n,rfl⟩:=up N
  rw[aE 135 Tryz.func135 rfl rfl]
  unfold qb
  have Ip:¬((bo f.t.args (-4)).length:Int)=1:=by omega
  simp[aa,ha n (by omega),eq_true fY,eq_true ma,c3,Ip]
 have Ip:((bo f.t.args (-4)).length:Int)=1:=by omega
 by_cases c4:(bo f.t.args ot).length=0
 rotate_left
 ·refine⟨fun h=>by simp[c4] at h,fun _=> ?_⟩
  have aa:rows 135=_:=n9.eq_1
  obtain⟨n,rfl⟩:=up N
  rw[aE 135 Tryz.func135 rfl rfl]
  unfold qb
  have fF:¬bo f.t.args ot=[]:=fun h=>c4 (by rw[h];rfl)
  have azz:0<(bo f.t.args ot).length:=by omega
  simp[aa,ha n (by omega),eq_true fY,eq_true ma,eq_true Ip,fF,azz]
 have fF:bo f.t.args ot=[]:=List.eq_nil_of_length_eq_zero c4
 have h1:0<(bo f.t.args fl).length:=by omega
 have h2:0<(bo f.t.args (-3)).length:=by omega
 have h3:0<(bo f.t.args (-4)).length:=by omega
 have JI:(0:Int)<(bo f.t.args fl).length:=by omega
 have MB:(0:Int)<(bo f.t.args (-3)).length:=by omega
 have Ux:(0:Int)<(bo f.t.args (-4)).length:=by omega
 obtain⟨⟨p0,p1⟩,p2⟩:=lG h1
 obtain⟨⟨q0,q1⟩,q2⟩:=lG h2
 obtain⟨⟨r0,r1⟩,r2⟩:=lG h3
 have mi:=fun N (hN:1≤N)=>hf.reg N hN b hb p0 p1
 have zD:=fun N (hN:1≤N)=>hf.reg N hN (-1) (by omega) q0 q1
 have hn3:=fun N (hN:1≤N)=>hf.num N hN r0 r1
 have hq:(decide ((bo f.t.args fl).length=1)&&(decide ((bo f.t.args (-3)).length=1)&&(decide ((bo f.t.args (-4)).length=1)&&decide ((bo f.t.args ot).length=0))))=true:=by
  rw[c1,c2,c3,c4];rfl
 rw[hq,Bool.true_and]
 unfold zw
 cases k1:eX f.s (pl f.t.args fl) b
 ·refine⟨fun h=>by simp at h,fun _=> ?_⟩
  have aa:rows 135=_:=n9.eq_1
  obtain⟨n,rfl⟩:=up N
  rw[aE 135 Tryz.func135 rfl rfl]
  unfold qb
  have k:=mi n (by omega)
  rw[k1] at k
  simp[aa,ha n (by omega),eq_true fY,eq_true ma,eq_true Ip,fF,h1,h2,h3,JI,MB,Ux,p2,q2,r2,k]
 cases k2:eX f.s (pl f.t.args (-3)) (-1)
 ·refine⟨fun h=>by simp at h,fun _=> ?_⟩
  have aa:rows 135=_:=n9.eq_1
  obtain⟨n,rfl⟩:=up N
  rw[aE 135 Tryz.func135 rfl rfl]
  unfold qb
  have k:=mi n (by omega)
  rw[k1] at k
  have k':=zD n (by omega)
  rw[k2] at k'
  simp[aa,ha n (by omega),eq_true fY,eq_true ma,eq_true Ip,fF,h1,h2,h3,JI,MB,Ux,p2,q2,r2,k,k']
 cases k3:HG f.s (pl f.t.args (-4))
 ·refine⟨fun h=>by simp at h,fun _=> ?_⟩
  have aa:rows 135=_:=n9.eq_1
  obtain⟨n,rfl⟩:=up N
  rw[aE 135 Tryz.func135 rfl rfl]
  unfold qb
  have k:=mi n (by omega)
  rw[k1] at k
  have k':=zD n (by omega)
  rw[k2] at k'
  have T3:=hn3 n (by omega)
  rw[k3] at T3
  simp[aa,ha n (by omega),eq_true fY,eq_true ma,eq_true Ip,fF,h1,h2,h3,JI,MB,Ux,p2,q2,r2,k,k',T3]
 ·refine⟨fun _=> ?_,fun h=>by simp at h⟩
  have aa:rows 135=_:=n9.eq_1
  obtain⟨n,rfl⟩:=up N
  rw[aE 135 Tryz.func135 rfl rfl]
  have k:=mi n (by omega)
  rw[k1] at k
  have k':=zD n (by omega)
  rw[k2] at k'
  have T3:=hn3 n (by omega)
  rw[k3] at T3
  have WH:=hf.var n (by omega) q0 q1
  have WG:=hf.var n (by omega) r0 r1
  have vk:=Cy n (by omega) f 5 [dc f.m f.s (pl f.t.args (-3)),dc f.m f.s (pl f.t.args (-4))]
  unfold dg
  simp[aT] at vk
  generalize dc f.m f.s (pl f.t.args (-3))=t1 at*
  generalize dc f.m f.s (pl f.t.args (-4))=t2 at*
  simp[aa,ha n (by omega),eq_true fY,eq_true ma,eq_true Ip,fF,h1,h2,h3,JI,MB,Ux,p2,q2,r2,k,k',T3,WH,WG,vk]
theorem Qw(l:List Int):e9 l 1 0 1 1=(decide ((bo l (-1)).length=1)&&(decide ((bo l (-3)).length=1)&&(decide ((bo l (-4)).length=1)&&decide ((bo l (-2)).length=0)))):=by
 simp only[e9,ak]
 rw[Bool.eq_iff_iff]
 simp only[Bool.and_eq_true,decide_eq_true_eq]
 omega
theorem LV(l:List Int):e9 l 0 1 1 1=(decide ((bo l (-2)).length=1)&&(decide ((bo l (-3)).length=1)&&(decide ((bo l (-4)).length=1)&&decide ((bo l (-1)).length=0)))):=by
 simp only[e9,ak]
 rw[Bool.eq_iff_iff]
 simp only[Bool.and_eq_true,decide_eq_true_eq]
 omega
structure MT(m:aw)(t:gf):Prop where
 wb:qa m
 wr:QP m
 al:t.args.length≤100
 ins:∀s∈m.instrs,vW m s
 opds:∀s∈m.instrs,∀o∈s.opds,Bf m o
 dp:∀s∈m.instrs,∀e∈s.effs,Dp 80 e.addr∧Dp 80 e.val
theorem MT.fok{m:aw}{t:gf}(h:MT m t)(c:Conv){j:Bool}(hs:aG m t j=true):Sq ⟨m,c,t,nth m.instrs t.instr⟩∧nth m.instrs t.instr∈m.instrs:=by
 unfold aG at hs
 simp only[Bool.and_eq_true,decide_eq_true_eq] at hs
 obtain⟨s,_,_,Ce,hm⟩:=aR hs.1 hs.2.1
 have hl:=hs.2.2.1
 rw[Ce] at hl ⊢
 have hI:=h.ins s hm
 exact⟨⟨h.wb,h.wr,hl,h.al,hI.el,h.opds s hm,hI.effs,h.dp s hm⟩,hm⟩
theorem Hi(N:Nat)(hN:1500≤N)(m:aw)(c:Conv)(t:gf)(h:MT m t)(b:Int)(b0:0≤b)(b1:b<m.banks.length):
  R N 93 [ag (ah m),ag (ax c),ag (bm t),ai b] []=some (ab (aG m t false&&TX (bc ⟨m,c⟩ t) b),[]):=by
 have aa:rows 93=_:=Yl.eq_1
 obtain⟨n,rfl⟩:=up N
 rw[aE 93 Tryz.func93 rfl rfl]
 have ho:=ik n (by omega) m c t false h.al h.ins
 cases hs:aG m t false
 ·have ho:=ho.2 hs
  unfold fw at ho
  simp[aa,ho]
 have ho:=ho.1 hs
 obtain⟨hf,hm⟩:=h.fok c hs
 have cm:=vq n (by omega) ⟨m,c,t,nth m.instrs t.instr⟩ hf (-1) (-2) b (by omega)
 have Df:=wg n (by omega) ⟨m,c,t,nth m.instrs t.instr⟩ hf.wb hf.wr hf.el hf.effs
 have Co:=hf.main_dp
 unfold TX bc
 rw[Qw]
 simp only at cm Df Co ⊢
 generalize nth m.instrs t.instr=s at*
 generalize bN m s.effs s.effs.length=mn at*
 cases hk:Bz s t.args (-1) (-2) b
 ·have cm:=cm.2 hk
  unfold Bz at hk
  have e:∀a c d:Bool,(a&&((decide ((bo t.args (-1)).length=1)&&(decide ((bo t.args (-3)).length=1)&&(decide ((bo t.args (-4)).length=1)&&decide ((bo t.args (-2)).length=0))))&&(zw s t.args (-1) b&&(c&&d))))=false:=by
   intro a c d
   rw[←Bool.and_assoc (_&&_) (zw _ _ _ _),hk];simp
  rw[e]
  unfold qb at cm
  simp[aa,ho,cm]
 ·have cm:=cm.1 hk
  unfold Bz at hk
  simp only[Bool.and_eq_true] at hk
  rw[hk.1.1,hk.1.2.1,hk.1.2.2.1,hk.1.2.2.2,hk.2]
  have vO:=c_ 80 n mn.1.val (loadT (cy m b) (dg m s (pl t.args (-3)) (pl t.args (-4)))) Co.2 (by omega)
  have QX:=ye n (by omega) mn.1 (pl t.args (-1))
  obtain⟨a1,a2,a3⟩:=h.wb.bank b0 b1
  obtain⟨y,_,hy,uq⟩:=ay (k:=0) a1
  have hy:nth (nth m.banks b).regs 0=y:=hy
  have hr:=a3 y uq
  have EC:=ko n (by omega) m b b0 b1 a1 (by rw[hy];exact hr.1) (by rw[hy];exact hr.2)
  have hwb:(nth m.regs (nth (nth m.banks b).regs 0)).width=cy m b:=rfl
  try rw[hwb] at EC
  have e1:aC (loadT (cy m b) (dg m s (pl t.args (-3)) (pl t.args (-4))))=[.int .u8 24,.int .i64 (cy m b),.int .u64 0,.str ⟨#[]⟩,.int .i64 0,.sl [.agg (aC (dg m s (pl t.args (-3)) (pl t.args (-4))))]]:=by
   simp[loadT,ae,Tr.kind,Tr.width,Tr.bits,Tr.name,Tr.low,Tr.z,Tr.sub,aT]
  rw[e1] at vO
  generalize aI mn.1.val (loadT (cy m b) (dg m s (pl t.args (-3)) (pl t.args (-4))))=sm at*
  generalize dg m s (pl t.args (-3)) (pl t.args (-4))=ad at*
  generalize pl t.args (-1)=p1 at*
  simp[ag] at vO
  generalize fz mn.1 p1=s1 at*
  by_cases EJ:(mn.2:Int)=1
  rotate_left
  ·have p6:¬mn.2=1:=by omega
   simp[aa,ho,cm,Df,EJ,p6]
  have p6:mn.2=1:=by omega
  cases s1
  ·simp[aa,ho,cm,Df,p6,QX]
  ·simp[aa,ho,cm,Df,p6,QX,EC,vO]
theorem Hh(N:Nat)(hN:1500≤N)(m:aw)(c:Conv)(t:gf)(h:MT m t)(b:Int)(b0:0≤b):
  R N 94 [ag (ah m),ag (ax c),ag (bm t),ai b] []=some (ab (aG m t false&&SX (bc ⟨m,c⟩ t) b),[]):=by
 have aa:rows 94=_:=Yk.eq_1
 obtain⟨n,rfl⟩:=up N
 rw[aE 94 Tryz.func94 rfl rfl]
 have ho:=ik n (by omega) m c t false h.al h.ins
 cases hs:aG m t false
 ·have ho:=ho.2 hs
  unfold fw at ho
  simp[aa,ho]
 have ho:=ho.1 hs
 obtain⟨hf,hm⟩:=h.fok c hs
 have cm:=vq n (by omega) ⟨m,c,t,nth m.instrs t.instr⟩ hf (-2) (-1) b (by omega)
 have Df:=wg n (by omega) ⟨m,c,t,nth m.instrs t.instr⟩ hf.wb hf.wr hf.el hf.effs
 have Co:=hf.main_dp
 have rk:=fun i (i0:0≤i) (i1:i<(t.args.length:Int))=>hf.var n (by omega) (i:=i) i0 i1
 unfold SX bc
 rw[LV]
 simp only at cm Df Co rk ⊢
 generalize nth m.instrs t.instr=s at*
 generalize bN m s.effs s.effs.length=mn at*
 cases hk:Bz s t.args (-2) (-1) b
 ·have cm:=cm.2 hk
  unfold Bz at hk
  have e:∀a c:Bool,(a&&((decide ((bo t.args (-2)).length=1)&&(decide ((bo t.args (-3)).length=1)&&(decide ((bo t.args (-4)).length=1)&&decide ((bo t.args (-1)).length=0))))&&(zw s t.args (-2) b&&c)))=false:=by
   intro a c
   rw[←Bool.and_assoc (_&&_) (zw _ _ _ _),hk];simp
  rw[e]
  unfold qb at cm
  simp[aa,ho,cm]
 ·have cm:=cm.1 hk
  unfold Bz at hk
  simp only[Bool.and_eq_true] at hk
  have hlen:0<(bo t.args (-2)).length:=by have:=hk.1.1;simp at this;omega
  rw[hk.1.1,hk.1.2.1,hk.1.2.2.1,hk.1.2.2.2,hk.2]
  obtain⟨⟨p0,p1⟩,_⟩:=lG hlen
  have vN:=rk _ p0 p1
  have Nb:=c_ 80 n mn.1.addr (dg m s (pl t.args (-3)) (pl t.args (-4))) Co.1 (by omega)
  have Mr:=c_ 80 n mn.1.val (dc m s (pl t.args (-2))) Co.2 (by omega)
  generalize dg m s (pl t.args (-3)) (pl t.args (-4))=ad at*
  generalize dc m s (pl t.args (-2))=va at*
  generalize pl t.args (-2)=p2 at*
  generalize aI mn.1.addr ad=s1 at*
  generalize aI mn.1.val va=s2 at*
  by_cases EJ:(mn.2:Int)=1
  rotate_left
  ·have p6:¬mn.2=1:=by omega
   simp[aa,ho,cm,Df,EJ,p6]
  have p6:mn.2=1:=by omega
  by_cases k2:mn.1.kind=2
  rotate_left
  ·simp[aa,ho,cm,Df,p6,k2]
  cases s1
  ·simp[aa,ho,cm,Df,p6,eq_true k2,Nb]
  ·simp[aa,ho,cm,Df,p6,eq_true k2,Nb,vN,Mr]
theorem xu(N:Nat)(hN:500≤N)(m:aw)(c:Conv)(t:gf)(h:MT m t):
  R N 69 [ag (ah m),ag (ax c),ag (bm t)] []=some (ab (aG m t false&&(decide ((nth m.instrs t.instr).opds=[])&&decide ((nth m.instrs t.instr).effs=[]))),[]):=by
 have aa:rows 69={}:=rfl
 obtain⟨n,rfl⟩:=up N
 rw[aE 69 Tryz.func69 rfl rfl]
 have ho:=ik n (by omega) m c t false h.al h.ins
 cases hs:aG m t false
 ·have ho:=ho.2 hs
  unfold fw at ho
  simp[aa,ho]
 have ho:=ho.1 hs
 try simp only at ho
 generalize nth m.instrs t.instr=s at*
 simp[aa,ho,ak]
theorem tg{α:Type}(p:α→Bool){l:List α}{k:Nat}{x:α}(h:k<l.length)(hx:∀h:k<l.length,l[k]=x):(l.take (k+1)).any p=cE ((l.take k).any p) (p x):=by
 rw[List.take_succ_eq_append_getElem h,hx h,List.any_append,aK];simp
theorem vb(N:Nat)(hN:1500≤N)(m:aw)(c:Conv)(t:gf)(h:MT m t):
  R N 66 [ag (ah m),ag (ax c),ag (bm t)] []=some (ab (aG m t false&&zb (bc ⟨m,c⟩ t)),[]):=by
 have aa:rows 66=_:=YA.eq_1
 obtain⟨n,rfl⟩:=up N
 rw[aE 66 Tryz.func66 rfl rfl]
 have ho:=ik n (by omega) m c t false h.al h.ins
 cases hs:aG m t false
 ·have ho:=ho.2 hs
  unfold fw at ho
  simp[aa,ho]
 have ho:=ho.1 hs
 obtain⟨hf,hm⟩:=h.fok c hs
 have Df:=wg n (by omega) ⟨m,c,t,nth m.instrs t.instr⟩ hf.wb hf.wr hf.el hf.effs
 have Co:=hf.main_dp
 have jc:=h.al
 have ha:=fun x=>pD n ⟨m,c,t,nth m.instrs t.instr⟩ x (show t.args.length+1<n by omega) (show t.args.length≤1000 by omega)
 have rk:=fun i (i0:0≤i) (i1:i<(t.args.length:Int))=>hf.var n (by omega) (i:=i) i0 i1
 have uu:=fun i (i0:0≤i) (i1:i<(t.args.length:Int))=>hf.reg n (by omega) (i:=i) (-1) (by omega) i0 i1
 have zn:=fun l=>Cy n (by omega) ⟨m,c,t,nth m.instrs t.instr⟩ 5 l
 have hlen:=hf.len
 unfold zb bc
 simp only at Df Co ha rk uu zn hlen ⊢
 generalize nth m.instrs t.instr=s at*
 generalize bN m s.effs s.effs.length=mn at*
 have oO:(bo t.args (-3)).length≤t.args.length:=dQ _ _ _
 have PS:(bo t.args (-1)).length≤t.args.length:=dQ _ _ _
 have Ly:(bo t.args (-2)).length≤t.args.length:=dQ _ _ _
 have ny:∀i∈bo t.args (-3),0≤i∧i<(t.args.length:Int):=kM _ _ _
 have vn:e9 t.args 0 0 (bo t.args (-3)).length 1=(decide ((bo t.args (-1)).length=0)&&(decide ((bo t.args (-2)).length=0)&&decide ((bo t.args (-4)).length=1))):=by
  simp only[e9,ak]
  generalize (bo t.args (-1)).length=a1
  generalize (bo t.args (-2)).length=a2
  generalize (bo t.args (-3)).length=a3
  generalize (bo t.args (-4)).length=a4
  rw[Bool.eq_iff_iff]
  simp only[Bool.and_eq_true,decide_eq_true_eq]
  constructor
  ·rintro⟨⟨⟨h1,h2⟩,_⟩,h4⟩;exact⟨by omega,by omega,by omega⟩
  ·rintro⟨h1,h2,h4⟩;exact⟨⟨⟨by omega,by omega⟩,trivial⟩,by omega⟩
 rw[vn]
 by_cases c1:(bo t.args (-3)).length=0
 ·have fY:bo t.args (-3)=[]:=List.eq_nil_of_length_eq_zero c1
  simp[aa,ho,ha,fY]
 have fY:¬bo t.args (-3)=[]:=fun h=>c1 (by rw[h];rfl)
 have azA:0<(bo t.args (-3)).length:=by omega
 by_cases c2:(bo t.args (-4)).length=1
 rotate_left
 ·have ma:¬((bo t.args (-4)).length:Int)=1:=by omega
  simp[aa,ho,ha,fY,ma,c2]
 have ma:((bo t.args (-4)).length:Int)=1:=by omega
 have h3:0<(bo t.args (-4)).length:=by omega
 have Ux:(0:Int)<(bo t.args (-4)).length:=by omega
 obtain⟨⟨r0,r1⟩,r2⟩:=lG h3
 have r3:pl t.args (-4)<s.opds.length:=by omega
 obtain⟨o,g1,wk,zE,_⟩:=aR r0 r3
 have hvn:=rk _ r0 r1
 by_cases c3:o.kind=2
 rotate_left
 ·simp[aa,ho,ha,fY,eq_true ma,h3,Ux,r2,r0,r3,g1,wk,zE,c3]
 by_cases c4:(bo t.args (-1)).length=0∧(bo t.args (-2)).length=0
 rotate_left
 ·have w1:IntKind.i64.wrap (((bo t.args (-1)).length:Int)+((bo t.args (-2)).length:Int))=((bo t.args (-1)).length:Int)+((bo t.args (-2)).length:Int):=wrap64 (by omega) (by omega)
  have w2:(0:Int)<((bo t.args (-1)).length:Int)+((bo t.args (-2)).length:Int):=by omega
  have e:(decide ((bo t.args (-1)).length=0)&&(decide ((bo t.args (-2)).length=0)&&decide ((bo t.args (-4)).length=1)))=false:=by
   rw[Bool.eq_false_iff];intro h;simp only[Bool.and_eq_true,decide_eq_true_eq] at h;exact c4 ⟨h.1,h.2.1⟩
  rw[e]
  simp[aa,ho,ha,fY,eq_true ma,h3,Ux,r2,r0,r3,g1,wk,zE,eq_true c3,w1,w2]
 have c5:bo t.args (-1)=[]:=List.eq_nil_of_length_eq_zero c4.1
 have c6:bo t.args (-2)=[]:=List.eq_nil_of_length_eq_zero c4.2
 have e:(decide (0<(bo t.args (-3)).length)&&(decide ((bo t.args (-1)).length=0)&&(decide ((bo t.args (-2)).length=0)&&decide ((bo t.args (-4)).length=1))))=true:=by
  simp[azA,c4.1,c4.2,c2]
 rw[e]
 have e2:decide ((nth s.opds (pl t.args (-4))).kind=2)=true:=by rw[zE];simpa using c3
 rw[e2]
 generalize AJ:((bo t.args (-3)).any fun i=> !eX s i (-1))=Q1
 generalize GA:(bo t.args (-3)).any (fz mn.1)=Q2
 generalize Di:((bo t.args (-3)).any fun i=>aI mn.1.val (dg m s i (pl t.args (-4))))=Q3
 have w0:IntKind.i64.wrap 0=0:=rfl
 simp[aa,ho,ha,fY,eq_true ma,h3,Ux,r2,r0,r3,g1,wk,eq_true c3,c5,c6,Df,w0]
 generalize hL:bo t.args (-3)=L at*
 generalize hM:bo t.args (-4)=M at*
 generalize pl t.args (-4)=pn at*
 rw[aJ L (fun i=> !eX s i (-1)) (fun k=>⟨[(6,ab false),(7,.ref 3 0),(9,.p (ints L)),(10,.p (ints M)),(11,.ref 4 0),(12,ab (decide ((mn.2:Int)=1))),(13,ab ((L.take k).any (fz mn.1))),(14,ab ((L.take k).any fun i=>aI mn.1.val (dg m s i pn))),(15,ai k)],
    [bx (ah m),bx (ax c),bx (bm t),bx (bP ⟨m,c,t,s⟩),bx (b_ mn.1)]⟩)
  (fun k=>(.ret,⟨[(6,ab false),(7,.ref 3 0),(9,.p (ints L)),(10,.p (ints M)),(11,.ref 4 0),(12,ab (decide ((mn.2:Int)=1))),(13,ab ((L.take k).any (fz mn.1))),(14,ab ((L.take k).any fun i=>aI mn.1.val (dg m s i pn))),(15,ai k)],
    [bx (ah m),bx (ax c),bx (bm t),bx (bP ⟨m,c,t,s⟩),bx (b_ mn.1)]⟩))
  (.exit 0,⟨[(6,ab false),(7,.ref 3 0),(9,.p (ints L)),(10,.p (ints M)),(11,.ref 4 0),(12,ab (decide ((mn.2:Int)=1))),(13,ab (L.any (fz mn.1))),(14,ab (L.any fun i=>aI mn.1.val (dg m s i pn))),(15,ai L.length)],
    [bx (ah m),bx (ax c),bx (bm t),bx (bP ⟨m,c,t,s⟩),bx (b_ mn.1)]⟩) (by omega) (by simp[aa]) (by
    intro k x hk hx _ m9 K
    have w1:=aA hk (by omega)
    obtain⟨x0,x1⟩:=ny x m9
    have hr:=uu x x0 x1
    rw[tg _ hk hx,tg (fun i=>aI mn.1.val (dg m s i pn)) hk hx]
    have QX:=ye n (by omega) mn.1 x
    have Vl:=rk x x0 x1
    have ao1:=zn [dc m s x,dc m s pn]
    have vO:=c_ 80 n mn.1.val (dg m s x pn) Co.2 (by omega)
    generalize (L.take k).any (fz mn.1)=A at*
    generalize ((L.take k).any fun i=>aI mn.1.val (dg m s i pn))=B at*
    unfold dg at vO ⊢
    simp[aT] at ao1
    generalize aI mn.1.val (iR 5 m.address [dc m s x,dc m s pn])=s1 at*
    generalize dc m s x=v1 at*
    generalize dc m s pn=v2 at*
    cases jG:eX s x (-1)
    ·rw[jG] at hr
     simp[aa,hk,hx,hr]
    ·rw[jG] at hr
     cases B
     ·simp[aa,hk,hx,hr,QX,Vl,hvn,ao1,vO,w1,h3,Ux,r2]
     ·simp[aa,hk,hx,hr,QX,w1]) (by simp[aa])]
 rcases ao (fun i:Int=> !eX s i (-1)) L with⟨e1,e2,_⟩|⟨i,e1,e2,_⟩
 ·rw[e2] at AJ;subst AJ;rw[e1]
  rw[GA,Di]
  generalize decide ((mn.2:Int)=1)=one
  cases one<;>cases Q2<;>cases Q3<;>simp[aa]
 ·rw[e2] at AJ;subst AJ;rw[e1];simp[aa]
def D8(m:aw)(l:List Int):Bool:=(List.range l.length).any fun k=>(List.range k).any fun j=>aP m (nth l k) (nth l j)
def aal(m:aw)(c:Conv)(CP:gf→Int→Bool)(x:zU):Bool:=
 (aG m x.copy false&&CP x.copy x.bank)&&((aG m x.load false&&TX (bc ⟨m,c⟩ x.load) x.bank)&&(aG m x.store false&&SX (bc ⟨m,c⟩ x.store) x.bank))
def xl(m:aw)(c:Conv)(k:Nat):Bool:=
 (decide (0≤(nth c.moves k).bank)&&decide ((nth c.moves k).bank<m.banks.length))&&(decide (k=0)||decide ((nth c.moves ((k:Int)-1)).bank<(nth c.moves k).bank))
def mJ(m:aw)(c:Conv)(CP:gf→Int→Bool)(k:Nat):Bool:=
 xl m c k&&(!D8 m (nth m.banks (nth c.moves k).bank).regs&&(gE (cy m (nth c.moves k).bank)&&aal m c CP (nth c.moves k)))
def xB(m:aw)(c:Conv)(CP:gf→Int→Bool):Bool:=
 (decide (0<c.moves.length)&&decide (c.moves.length≤16))&&((List.range c.moves.length).all (mJ m c CP)&&c.moves.any fun x=>decide (x.bank=c.bank))
structure Yg(m:aw)(c:Conv):Prop where
 ml:c.moves.length≤100
 mt:∀x∈c.moves,MT m x.copy∧MT m x.load∧MT m x.store
 wb:qa m
 wr:QP m
theorem KM(n0:Nat)(CP:gf→Int→Bool)(N:Nat)(m:aw)(c:Conv)(h:Yg m c)(hN:n0+1≤N)(kc:1700≤N)
  (H3:∀n,n0≤n→∀x∈c.moves,0≤x.bank→x.bank<m.banks.length→R n 92 [ag (ah m),ag (ax c),ag (bm x.copy),ai x.bank] []=some (ab (aG m x.copy false&&CP x.copy x.bank),[])):
  R N 64 [ag (ah m),ag (ax c)] []=some (ab (xB m c CP),[]):=by
 have q1:=h.ml
 have aa:rows 64=_:=YC.eq_1
 obtain⟨n,rfl⟩:=up N
 rw[aE 64 Tryz.func64 rfl rfl]
 unfold xB
 by_cases c0:c.moves.length=0
 ·have FG:c.moves=[]:=List.eq_nil_of_length_eq_zero c0
  simp[aa,FG]
 have FG:¬c.moves=[]:=fun h=>c0 (by rw[h];rfl)
 have e0:decide (0<c.moves.length)=true:=by simpa using Nat.pos_of_ne_zero c0
 by_cases c1:16<c.moves.length
 ·have fY:(16:Int)<(c.moves.length:Int):=by omega
  have e1:decide (c.moves.length≤16)=false:=by simpa using c1
  simp[aa,FG,fY,e1]
 have fY:¬(16:Int)<(c.moves.length:Int):=by omega
 have e1:decide (c.moves.length≤16)=true:=by simpa using Nat.le_of_not_lt c1
 rw[e0,e1]
 generalize AJ:(List.range c.moves.length).all (mJ m c CP)=Q1
 generalize GA:(c.moves.any fun x=>decide (x.bank=c.bank))=Q2
 simp[aa,FG,fY]
 rw[bf c.moves.length (fun k=> !mJ m c CP k) (fun k=>⟨[(2,.ref 0 0),(3,.ref 1 0),(4,ab false),(5,ab ((c.moves.take k).any fun x=>decide (x.bank=c.bank))),(6,ai k)],[bx (ah m),bx (ax c)]⟩)
  (fun k=>(.ret,⟨[(2,.ref 0 0),(3,.ref 1 0),(4,ab false),(5,ab ((c.moves.take k).any fun x=>decide (x.bank=c.bank))),(6,ai k)],[bx (ah m),bx (ax c)]⟩))
  (.exit 0,⟨[(2,.ref 0 0),(3,.ref 1 0),(4,ab false),(5,ab Q2),(6,ai c.moves.length)],[bx (ah m),bx (ax c)]⟩) (by omega) (by simp[aa]) (by
    intro k hk K
    have w1:=aA hk (by omega)
    obtain⟨x,hx,bI,m9⟩:=ay hk
    have Ul:=h.mt x m9
    have eo:(c.moves.take (k+1)).any (fun x=>decide (x.bank=c.bank))=cE ((c.moves.take k).any fun x=>decide (x.bank=c.bank)) (decide (x.bank=c.bank)):=tg _ hk hx
    rw[eo]
    generalize (c.moves.take k).any (fun x=>decide (x.bank=c.bank))=ow
    unfold mJ
    cases c2:xl m c k
    ·
     have ma:=c2
     unfold xl at ma
     rw[bI] at ma
     by_cases d0:0≤x.bank∧x.bank<m.banks.length
     ·have e:(decide (0≤x.bank)&&decide (x.bank<(m.banks.length:Int)))=true:=by simp[d0]
      rw[e,Bool.true_and] at ma
      simp only[Bool.or_eq_false_iff,decide_eq_false_iff_not] at ma
      have Mw:k-1<c.moves.length:=by omega
      obtain⟨y,hy,dV,_⟩:=ay Mw
      have ek:((k-1:Nat):Int)=(k:Int)-1:=by omega
      rw[ek] at dV
      rw[dV] at ma
      have d1:¬x.bank<0:=by omega
      have d2:¬(m.banks.length:Int)≤x.bank:=by omega
      have d3:(0:Int)<(k:Int):=by omega
      have kf:0<k:=by omega
      have d4:x.bank≤y.bank:=by omega
      have w5:IntKind.i64.wrap ((k:Int)-1)=(k:Int)-1:=wrap64 (by omega) (by omega)
      have d5:(1:Int)≤(k:Int):=by omega
      have d6:(k:Int)-1<(c.moves.length:Int):=by omega
      have d7:((k:Int)-1).toNat=k-1:=by omega
      have d8:1≤k:=by omega
      simp[aa,hk,hx,d1,d2,d3,kf,w5,d5,d6,d7,d8,Mw,hy,d4]
     ·have d1:cE (decide (x.bank<0)) (decide ((m.banks.length:Int)≤x.bank))=true:=by rw[aK];simp;omega
      simp[aa,hk,hx,d1]
    have ma:=c2
    unfold xl at ma
    rw[bI] at ma
    simp only[Bool.and_eq_true,decide_eq_true_eq] at ma
    obtain⟨⟨b0,b1⟩,b2⟩:=ma
    have d1:¬x.bank<0:=by omega
    have d2:¬(m.banks.length:Int)≤x.bank:=by omega
    obtain⟨bk,g2,zq,Cp,hbm⟩:=aR b0 b1
    obtain⟨a1,a2,a3⟩:=h.wb.bank b0 b1
    obtain⟨y0,_,fV,uq⟩:=ay (k:=0) a1
    have fV:nth (nth m.banks x.bank).regs 0=y0:=fV
    have AF:=a3 y0 uq
    have EC:=ko n (by omega) m x.bank b0 b1 a1 (by rw[fV];exact AF.1) (by rw[fV];exact AF.2)
    have ya:=H3 n (by omega) x m9 b0 b1
    have Dg:=Hi n (by omega) m c x.load Ul.2.1 x.bank b0 b1
    have Ua:=Hh n (by omega) m c x.store Ul.2.2 x.bank b0
    rw[bI,Cp]
    rw[Cp] at a2 a3
    generalize hP:D8 m bk.regs=P
    unfold aal
    generalize cy m x.bank=wd at*
    generalize (aG m x.copy false&&CP x.copy x.bank)=t1 at*
    generalize (aG m x.load false&&TX (bc ⟨m,c⟩ x.load) x.bank)=t2 at*
    generalize (aG m x.store false&&SX (bc ⟨m,c⟩ x.store) x.bank)=t3 at*
    generalize hW:gE wd=W
    by_cases Mx:k=0
    ·have d3:¬(0:Int)<(k:Int):=by omega
     have kf:¬0<k:=by omega
     simp[aa,hk,hx,d1,d2,d3,kf,EC,b0,b1,g2,zq]
     (rw[bf bk.regs.length (fun a=>(List.range a).any fun j=>aP m (nth bk.regs a) (nth bk.regs j)) (fun a=>⟨[(2,.ref 0 0),(3,.ref 1 0),(4,ab false),(5,ab ow),(6,ai k),(7,.ref 2 0),(8,ai wd),(9,.p (ints bk.regs)),(10,ai a)],[.box ((ah m).map .p),.box ((ax c).map .p),.box ((ew x).map .p)]⟩)
       (fun a=>(.ret,⟨[(2,.ref 0 0),(3,.ref 1 0),(4,ab false),(5,ab ow),(6,ai k),(7,.ref 2 0),(8,ai wd),(9,.p (ints bk.regs)),(10,ai a)],[.box ((ah m).map .p),.box ((ax c).map .p),.box ((ew x).map .p)]⟩))
       (.exit 2,⟨[(2,.ref 0 0),(3,.ref 1 0),(4,ab false),(5,ab ow),(6,ai k),(7,.ref 2 0),(8,ai wd),(9,.p (ints bk.regs)),(10,ai bk.regs.length)],[.box ((ah m).map .p),.box ((ax c).map .p),.box ((ew x).map .p)]⟩) (by omega) (by simp[aa]) (by
         intro a ha K
         have v1:=aA ha (by omega)
         obtain⟨r,mi,zD,ti⟩:=ay ha
         rw[zD]
         generalize Uv:((List.range a).any fun j=>aP m r (nth bk.regs j))=P2
         simp[aa,ha]
         rw[bf a (fun j=>aP m r (nth bk.regs j)) (fun j=>⟨[(2,.ref 0 0),(3,.ref 1 0),(4,ab false),(5,ab ow),(6,ai k),(7,.ref 2 0),(8,ai wd),(9,.p (ints bk.regs)),(10,ai a),(11,ai j)],[.box ((ah m).map .p),.box ((ax c).map .p),.box ((ew x).map .p)]⟩)
          (fun j=>(.ret,⟨[(2,.ref 0 0),(3,.ref 1 0),(4,ab false),(5,ab ow),(6,ai k),(7,.ref 2 0),(8,ai wd),(9,.p (ints bk.regs)),(10,ai a),(11,ai j)],[.box ((ah m).map .p),.box ((ax c).map .p),.box ((ew x).map .p)]⟩))
          (.exit 4,⟨[(2,.ref 0 0),(3,.ref 1 0),(4,ab false),(5,ab ow),(6,ai k),(7,.ref 2 0),(8,ai wd),(9,.p (ints bk.regs)),(10,ai a),(11,ai a)],[.box ((ah m).map .p),.box ((ax c).map .p),.box ((ew x).map .p)]⟩) (by omega) (by simp[aa]) (by
            intro j hj K
            have v2:=aA hj (by omega)
            have iO:j<bk.regs.length:=by omega
            obtain⟨y,iB,vM,acC⟩:=ay iO
            have Q_:=a3 r ti
            have Q9:=a3 y acC
            have tu:=tq n m h.wr (by have:=h.wb.nr;omega) (by have:=h.wb.nr;omega) r y Q_.1 Q_.2 Q9.1 Q9.2
            rw[vM]
            cases hp:aP m r y<;>rw[hp] at tu<;>simp[aa,ha,hj,iO,mi,iB,tu,v2]) (by simp[aa])]
         rcases ao (fun j:Nat=>aP m r (nth bk.regs j)) (List.range a) with⟨e1,e2,_⟩|⟨i,e1,e2,_⟩
         ·rw[e2] at Uv;subst Uv;rw[e1];simp[aa,v1]
         ·rw[e2] at Uv;subst Uv;rw[e1];simp[aa]) (by simp[aa])]
      unfold D8 at hP
      rcases ao (fun a:Nat=>(List.range a).any fun j=>aP m (nth bk.regs a) (nth bk.regs j)) (List.range bk.regs.length) with⟨e1,e2,_⟩|⟨i,e1,e2,_⟩
      rotate_left
      ·rw[e2] at hP;subst hP;rw[e1];simp[aa]
      rw[e2] at hP;subst hP;rw[e1]
      unfold gE at hW
      cases W
      ·have lr:aj (aj (aj (!decide (wd=8)) (!decide (wd=16))) (!decide (wd=32))) (!decide (wd=64))=true:=by
        simp only[aK,Bool.or_eq_false_iff,decide_eq_false_iff_not] at hW
        simp[ak,hW]
       simp[aa,lr]
      have lr:aj (aj (aj (!decide (wd=8)) (!decide (wd=16))) (!decide (wd=32))) (!decide (wd=64))=false:=by
       simp only[aK,Bool.or_eq_true,decide_eq_true_eq] at hW
       rcases hW with((hW|hW)|hW)|hW<;>simp[ak,hW]
      cases t1
      ·simp[aa,lr,ya]
      cases t2
      ·simp[aa,lr,ya,Dg]
      cases t3
      ·simp[aa,lr,ya,Dg,Ua]
      cases ow
      ·simp[aa,lr,ya,Dg,Ua,w1]
      ·simp[aa,lr,ya,Dg,Ua,w1])
    ·obtain⟨y,hy,dV,_⟩:=ay (show k-1<c.moves.length by omega)
     have ek:((k-1:Nat):Int)=(k:Int)-1:=by omega
     rw[ek] at dV
     rw[dV] at b2
     have d3:(0:Int)<(k:Int):=by omega
     have kf:0<k:=by omega
     have d4:¬x.bank≤y.bank:=by
      simp only[Bool.or_eq_true,decide_eq_true_eq] at b2
      rcases b2 with b2|b2
      ·exact absurd b2 Mx
      ·omega
     have w5:IntKind.i64.wrap ((k:Int)-1)=(k:Int)-1:=wrap64 (by omega) (by omega)
     have d5:(1:Int)≤(k:Int):=by omega
     have d6:(k:Int)-1<(c.moves.length:Int):=by omega
     have d7:((k:Int)-1).toNat=k-1:=by omega
     have d8:1≤k:=by omega
     have Mw:k-1<c.moves.length:=by omega
     simp[aa,hk,hx,d1,d2,d3,kf,w5,d5,d6,d7,d8,Mw,hy,d4,EC,b0,b1,g2,zq]
     (rw[bf bk.regs.length (fun a=>(List.range a).any fun j=>aP m (nth bk.regs a) (nth bk.regs j)) (fun a=>⟨[(2,.ref 0 0),(3,.ref 1 0),(4,ab false),(5,ab ow),(6,ai k),(7,.ref 2 0),(8,ai wd),(9,.p (ints bk.regs)),(10,ai a)],[.box ((ah m).map .p),.box ((ax c).map .p),.box ((ew x).map .p)]⟩)
       (fun a=>(.ret,⟨[(2,.ref 0 0),(3,.ref 1 0),(4,ab false),(5,ab ow),(6,ai k),(7,.ref 2 0),(8,ai wd),(9,.p (ints bk.regs)),(10,ai a)],[.box ((ah m).map .p),.box ((ax c).map .p),.box ((ew x).map .p)]⟩))
       (.exit 2,⟨[(2,.ref 0 0),(3,.ref 1 0),(4,ab false),(5,ab ow),(6,ai k),(7,.ref 2 0),(8,ai wd),(9,.p (ints bk.regs)),(10,ai bk.regs.length)],[.box ((ah m).map .p),.box ((ax c).map .p),.box ((ew x).map .p)]⟩) (by omega) (by simp[aa]) (by
         intro a ha K
         have v1:=aA ha (by omega)
         obtain⟨r,mi,zD,ti⟩:=ay ha
         rw[zD]
         generalize Uv:((List.range a).any fun j=>aP m r (nth bk.regs j))=P2
         simp[aa,ha]
         rw[bf a (fun j=>aP m r (nth bk.regs j)) (fun j=>⟨[(2,.ref 0 0),(3,.ref 1 0),(4,ab false),(5,ab ow),(6,ai k),(7,.ref 2 0),(8,ai wd),(9,.p (ints bk.regs)),(10,ai a),(11,ai j)],[.box ((ah m).map .p),.box ((ax c).map .p),.box ((ew x).map .p)]⟩)
          (fun j=>(.ret,⟨[(2,.ref 0 0),(3,.ref 1 0),(4,ab false),(5,ab ow),(6,ai k),(7,.ref 2 0),(8,ai wd),(9,.p (ints bk.regs)),(10,ai a),(11,ai j)],[.box ((ah m).map .p),.box ((ax c).map .p),.box ((ew x).map .p)]⟩))
          (.exit 4,⟨[(2,.ref 0 0),(3,.ref 1 0),(4,ab false),(5,ab ow),(6,ai k),(7,.ref 2 0),(8,ai wd),(9,.p (ints bk.regs)),(10,ai a),(11,ai a)],[.box ((ah m).map .p),.box ((ax c).map .p),.box ((ew x).map .p)]⟩) (by omega) (by simp[aa]) (by
            intro j hj K
            have v2:=aA hj (by omega)
            have iO:j<bk.regs.length:=by omega
            obtain⟨y,iB,vM,acC⟩:=ay iO
            have Q_:=a3 r ti
            have Q9:=a3 y acC
            have tu:=tq n m h.wr (by have:=h.wb.nr;omega) (by have:=h.wb.nr;omega) r y Q_.1 Q_.2 Q9.1 Q9.2
            rw[vM]
            cases hp:aP m r y<;>rw[hp] at tu<;>simp[aa,ha,hj,iO,mi,iB,tu,v2]) (by simp[aa])]
         rcases ao (fun j:Nat=>aP m r (nth bk.regs j)) (List.range a) with⟨e1,e2,_⟩|⟨i,e1,e2,_⟩
         ·rw[e2] at Uv;subst Uv;rw[e1];simp[aa,v1]
         ·rw[e2] at Uv;subst Uv;rw[e1];simp[aa]) (by simp[aa])]
      unfold D8 at hP
      rcases ao (fun a:Nat=>(List.range a).any fun j=>aP m (nth bk.regs a) (nth bk.regs j)) (List.range bk.regs.length) with⟨e1,e2,_⟩|⟨i,e1,e2,_⟩
      rotate_left
      ·rw[e2] at hP;subst hP;rw[e1];simp[aa]
      rw[e2] at hP;subst hP;rw[e1]
      unfold gE at hW
      cases W
      ·have lr:aj (aj (aj (!decide (wd=8)) (!decide (wd=16))) (!decide (wd=32))) (!decide (wd=64))=true:=by
        simp only[aK,Bool.or_eq_false_iff,decide_eq_false_iff_not] at hW
        simp[ak,hW]
       simp[aa,lr]
      have lr:aj (aj (aj (!decide (wd=8)) (!decide (wd=16))) (!decide (wd=32))) (!decide (wd=64))=false:=by
       simp only[aK,Bool.or_eq_true,decide_eq_true_eq] at hW
       rcases hW with((hW|hW)|hW)|hW<;>simp[ak,hW]
      cases t1
      ·simp[aa,lr,ya]
      cases t2
      ·simp[aa,lr,ya,Dg]
      cases t3
      ·simp[aa,lr,ya,Dg,Ua]
      cases ow
      ·simp[aa,lr,ya,Dg,Ua,w1]
      ·simp[aa,lr,ya,Dg,Ua,w1])) (by intro K;rw[List.take_length,GA];simp[aa])]
 have l6:(List.range c.moves.length).any (fun k=> !mJ m c CP k)= !Q1:=by rw[←AJ];exact k_ _ _
 rcases ao (fun k:Nat=> !mJ m c CP k) (List.range c.moves.length) with⟨e3,e4,_⟩|⟨i,e3,e4,_⟩
 ·rw[e4] at l6
  have HW:Q1=true:=by cases Q1 with
   |true=>rfl
   |false=>simp at l6
  subst HW
  rw[e3];simp[aa]
 ·rw[e4] at l6
  have HW:Q1=false:=by cases Q1 with
   |false=>rfl
   |true=>simp at l6
  subst HW
  rw[e3];simp[aa]
end Go.En.V
