/- Part of the proof of CallingFills: engine, contracts or law, joined by a program from the texts X39 X43 X96. -/
import Derived.Test.YtlcechkalldhfaaGreatDoorKaj
set_option linter.all false
set_option maxRecDepth 100000
set_option maxHeartbeats 4000000
namespace Go.En.V
open Go.Proofs
structure Gt(x:Tr):Prop where
 dp:Dp 80 x
 kq:KQ x
 sz:aF x≤500
 l24:cN x=0→F1 80 x
def vg(w:Int):Bool:=([8,16,32,64]:List Int).any fun x=>decide (w=x)
def gW(m:aw)(vs:List (ByteArray×Int))(s:dh)(x:jY):Bool:=
 if x.kind=1 then
  (cj x.addr&&cj x.cond)&&
    (if x.op=-1∧cq x.reg 0 (m.regs.length-1)=true then decide (x.val.width=(nth m.regs x.reg).width)
     else if x.reg=0∧cq x.op 0 (s.opds.length-1)=true then decide ((nth s.opds x.op).kind=1)&&decide (x.val.width=iP m (nth s.opds x.op))
     else false)
 else if x.kind=2 then ry m vs x.addr&&(cj x.cond&&(decide (x.addr.width=m.address)&&vg x.val.width))
 else if x.kind=3 then(cj x.addr&&decide (x.val.width=m.address))&&(if cj x.cond=true then true else ry m vs x.cond&&decide (x.cond.width=1))
 else if x.kind=4 then cj x.addr&&cj x.cond
 else false
def x9(x:jY):Bool:=if x.kind=1 then true else decide (x.op=0)&&decide (x.reg=0)
def rz(m:aw)(vs:List (ByteArray×Int))(s:dh)(x:jY):Bool:=x9 x&&(ry m vs x.val&&gW m vs s x)
theorem LQ(N:Nat)(hN:4000≤N)(m:aw)(vs:List (ByteArray×Int))(ok:Bool)(s:dh)(x:jY)(ha:Gt x.addr)(hv:Gt x.val)(hc:Gt x.cond)
  (ho:∀o∈s.opds,CY m o)(hr:m.regs.length≤500)(hs:s.opds.length≤500):
  R N 79 [.ref 0 0,ag (aU s),ag (b_ x),.map 1] [bx (bg ⟨m,ok⟩),.map (smap vs)]=some (.tup [],[bx (bg ⟨m,ok&&rz m vs s x⟩),.map (smap vs)]):=by
 have aa:rows 79=_:=Yt.eq_1
 obtain⟨n,rfl⟩:=up N
 rw[aE 79 Tryz.func79 rfl rfl]
 have m1:∀ok a,_:=sA (N:=n) (by omega) m
 have m2:∀ok a b,_:=Aq (N:=n) (by omega) m
 have m3:∀ok a b c,_:=O4 (N:=n) (by omega) m
 have w:=iZ n (by omega)
 have fv:∀ok,_:=fun ok=>CA n (by omega) m vs ok x.val hv.dp hv.kq hv.sz hv.l24
 have fa:∀ok,_:=fun ok=>CA n (by omega) m vs ok x.addr ha.dp ha.kq ha.sz ha.l24
 have fc:∀ok,_:=fun ok=>CA n (by omega) m vs ok x.cond hc.dp hc.kq hc.sz hc.l24
 have na:=BU n [x.addr] (by simp;omega) (by simp)
 have nc:=BU n [x.cond] (by simp;omega) (by simp)
 have Mn:=BU n [x.addr,x.cond] (by simp;omega) (by simp)
 have WT:R n 40 [.p (.sl [.int .i64 8,.int .i64 16,.int .i64 32,.int .i64 64]),ai x.val.width] []=some (ab (vg x.val.width),[]):=fj n [8,16,32,64] x.val.width (by simp;omega) (by simp)
 simp at na nc Mn
 unfold aT at fv fa fc na nc Mn
 have w2:IntKind.i64.wrap ((m.regs.length:Int)-1)=(m.regs.length:Int)-1:=wrap64 (by omega) (by omega)
 have w3:IntKind.i64.wrap ((s.opds.length:Int)-1)=(s.opds.length:Int)-1:=wrap64 (by omega) (by omega)
 have e0:(ok&&rz m vs s x)=(((ok&&x9 x)&&ry m vs x.val)&&gW m vs s x):=by unfold rz;simp only[Bool.and_assoc]
 rw[e0]
 by_cases k1:x.kind=1
 ·have e1:(ok&&x9 x)=ok:=by simp[x9,k1]
  rw[e1]
  generalize hB:(ok&&ry m vs x.val)=mB
  have P7:=fv ok
  rw[hB] at P7
  by_cases k2:x.op=-1∧cq x.reg 0 (m.regs.length-1)=true
  ·obtain⟨q1,q2⟩:=k2
   have q3:=q2
   simp[cq,ak] at q3
   obtain⟨r,g2,mi,zD,_⟩:=aR q3.1 (show x.reg<(m.regs.length:Int) by omega)
   have e2:(mB&&gW m vs s x)=aj (aj mB (cj x.addr&&cj x.cond)) (decide (x.val.width=r.width)):=by
    unfold gW;rw[if_pos k1,if_pos ⟨q1,q2⟩,zD];simp only[ak,Bool.and_assoc]
   rw[e2]
   have q4:x.reg<(m.regs.length:Int):=by omega
   simp[aa,k1,P7,Mn,m1,eq_true q1,w,w2,q3,q4,g2,mi]
  ·by_cases k3:x.reg=0∧cq x.op 0 (s.opds.length-1)=true
   ·obtain⟨q1,q2⟩:=k3
    have q3:=q2
    simp[cq,ak] at q3
    obtain⟨o,g2,EJ,p6,hom⟩:=aR q3.1 (show x.op<(s.opds.length:Int) by omega)
    have e2:(mB&&gW m vs s x)=aj (aj (aj mB (cj x.addr&&cj x.cond)) (decide (o.kind=1))) (decide (x.val.width=iP m o)):=by
     unfold gW;rw[if_pos k1,if_neg k2,if_pos ⟨q1,q2⟩,p6];simp only[ak,Bool.and_assoc]
    rw[e2]
    have q4:x.op<(s.opds.length:Int):=by omega
    have q5:¬x.op=-1:=by omega
    have hw:=IQ n (by omega) m o (ho o hom)
    simp[aa,k1,P7,Mn,m1,m2,eq_true q1,q5,w,w2,w3,q3,q4,g2,EJ,hw]
   ·have e2:(mB&&gW m vs s x)=false:=by unfold gW;rw[if_pos k1,if_neg k2,if_neg k3];simp
    rw[e2]
    have c1:aj (decide (x.op=-1)) (aj (decide (0≤x.reg)) (decide (x.reg≤(m.regs.length:Int)-1)))=false:=by
     simp only[ak];simp only[←Bool.decide_and,decide_eq_false_iff_not];simpa [cq,ak] using k2
    have c2:aj (decide (x.reg=0)) (aj (decide (0≤x.op)) (decide (x.op≤(s.opds.length:Int)-1)))=false:=by
     simp only[ak];simp only[←Bool.decide_and,decide_eq_false_iff_not];simpa [cq,ak] using k3
    simp[aa,k1,P7,Mn,m1,w,w2,w3,c1,c2]
 ·have e1:(ok&&x9 x)=aj (aj ok (decide (x.op=0))) (decide (x.reg=0)):=by simp[x9,k1,ak,Bool.and_assoc]
  rw[e1]
  generalize hA:aj (aj ok (decide (x.op=0))) (decide (x.reg=0))=rN
  generalize hB:(rN&&ry m vs x.val)=mB
  have P7:=fv rN
  rw[hB] at P7
  by_cases k2:x.kind=2
  ·have e2:(mB&&gW m vs s x)=aj (aj (aj (mB&&ry m vs x.addr) (cj x.cond)) (decide (x.addr.width=m.address))) (vg x.val.width):=by
    unfold gW;rw[if_neg k1,if_pos k2];simp only[ak,Bool.and_assoc]
   rw[e2]
   simp[aa,k1,k2,m2,hA,P7,fa,nc,WT,m3]
  ·by_cases k3:x.kind=3
   ·cases hn:cj x.cond
    ·have e2:(mB&&gW m vs s x)=aj (aj (aj mB (cj x.addr)) (decide (x.val.width=m.address))&&ry m vs x.cond) (decide (x.cond.width=1)):=by
      unfold gW;rw[if_neg k1,if_neg k2,if_pos k3,hn];simp only[ak,Bool.and_assoc,Bool.false_eq_true,if_false]
     rw[e2]
     rw[hn] at nc
     simp[aa,k1,k2,k3,m2,m1,hA,P7,fc,na,nc]
    ·have e2:(mB&&gW m vs s x)=aj (aj mB (cj x.addr)) (decide (x.val.width=m.address)):=by
      unfold gW;rw[if_neg k1,if_neg k2,if_pos k3,hn];simp only[ak,Bool.and_assoc,if_true,Bool.and_true]
     rw[e2]
     rw[hn] at nc
     simp[aa,k1,k2,k3,m2,m1,hA,P7,fc,na,nc]
   ·by_cases k4:x.kind=4
    ·have e2:(mB&&gW m vs s x)=aj mB (cj x.addr&&cj x.cond):=by
      unfold gW;rw[if_neg k1,if_neg k2,if_neg k3,if_pos k4];simp only[ak]
     rw[e2]
     simp[aa,k1,k2,k3,k4,m1,m2,hA,P7,Mn]
    ·have e2:(mB&&gW m vs s x)=false:=by
      unfold gW;rw[if_neg k1,if_neg k2,if_neg k3,if_neg k4];simp
     rw[e2]
     simp[aa,k1,k2,k3,k4,m1,m2,hA,P7]
mutual
def xO:Tr→List Bd
 | .mk k w _ n _ _ s=>(if k=2 then [⟨n,w,0⟩] else [])++nv s
def nv:List Tr→List Bd
 |[]=>[]
 |x::r=>xO x++nv r
end
def rO(t:Tr):List Bd:=if t.kind=2 then [⟨t.name,t.width,0⟩] else []
theorem Pe(t:Tr):xO t=rO t++nv t.sub:=by cases t;rfl
theorem TR(a b:List Tr):nv (a++b)=nv a++nv b:=by
 induction a with
 |nil=>rfl
 |cons x a ih=>simp[nv,ih]
theorem Pf{l:List Tr}{k:Nat}{x:Tr}(h:k<l.length)(hx:∀h:k<l.length,l[k]=x):nv (l.take (k+1))=nv (l.take k)++xO x:=by
 rw[List.take_succ_eq_append_getElem h,hx h,TR];simp[nv]
mutual
theorem B1:∀t:Tr,(xO t).length≤aF t
 | .mk k w b n l z s=>by
  have:=B2 s
  simp only[xO,aF,List.length_append]
  split<;>simp<;>omega
theorem B2:∀l:List Tr,(nv l).length≤bM l
 |[]=>by simp[nv]
 |x::r=>by
  have:=B1 x
  have:=B2 r
  simp only[nv,bM,List.length_append];omega
end
theorem TW:∀(d N:Nat) (t:Tr),Dp d t→d+1100≤N→aF t≤100000→R N 177 [ag (aC t)] []=some (.p (.sl ((xO t).map FF)),[]):=by
 intro d
 induction d with
 |zero=>intro N t h;exact h.elim
 |succ d ih=>
  intro N t ht hN hs
  have hl:=ht.1
  rw[bz] at hs
  have aa:rows 177=_:=ZP.eq_1
  obtain⟨n,rfl⟩:=up N
  rw[aE 177 Tryz.func177 rfl rfl]
  have hH:(rO t).length≤1:=by unfold rO;split<;>simp
  have aAW:R (n+1) 177 [ag (aC t)] []=some (.p (.sl ((rO t++nv t.sub).map FF)),[])→True:=fun _=>trivial
  have iU:∀(k:Nat),k<t.sub.length→∃x,(∀h:k<t.sub.length,t.sub[k]=x)∧R n 177 [ag (aC x)] []=some (.p (.sl ((xO x).map FF)),[])∧
    rO t++nv (t.sub.take (k+1))=(rO t++nv (t.sub.take k))++xO x∧(rO t++nv (t.sub.take k)).length+(xO x).length≤100001:=by
   intro k h
   obtain⟨x,hx,_,hm⟩:=ay h
   refine⟨x,hx,ih n x (ht.2 x hm) (by omega) (by have:=kG hm;omega),by rw[Pf h hx,List.append_assoc], ?_⟩
   have h2:=DB t.sub (k+1)
   rw[qG h hx] at h2
   have h3:=B2 (t.sub.take k)
   have h4:=B1 x
   simp only[List.length_append];omega
  rw[Pe]
  by_cases k2:t.kind=2
  ·have e:rO t=[⟨t.name,t.width,0⟩]:=by simp[rO,k2]
   simp[aa,eq_true k2]
   (rw[abC t.sub.length (fun k=>⟨[(1,.ref 0 0),(3,.arr 2 (rO t++nv (t.sub.take k)).length 0 (rO t++nv (t.sub.take k)).length),(4,ai k)],[.box ((aC t).map .p),.arr 0 3 false [],.arr (rO t++nv (t.sub.take k)).length 3 false ((rO t++nv (t.sub.take k)).map FF)]⟩) (by omega) (by simp[nv,e,FF,KW]) (by
       intro k h K
       have w1:=aA h (by omega)
       obtain⟨x,hx,hr,ha,hb⟩:=iU k h
       rw[ha]
       generalize hA:rO t++nv (t.sub.take k)=A at hb ⊢
       by_cases h0:xO x=[]
       ·rw[h0] at hr ⊢
        simp at hr
        have b1:A.length*32≤1099511627776:=by omega
        have b2:A.length≤1099511627776:=by omega
        simp[aa,h,hx,bX t.z h,hr,w1,b1,b2]
       ·have b1:(A.length+(xO x).length)*32≤1099511627776:=by omega
        have b2:A.length+(xO x).length≤1099511627776:=by omega
        simp[aa,h,hx,bX t.z h,hr,w1,b1,b2,h0]) (by simp)]
    simp
    rw[List.take_of_length_le (by simp)])
  ·have e:rO t=[]:=by simp[rO,k2]
   simp[aa,k2]
   (rw[abC t.sub.length (fun k=>⟨[(1,.ref 0 0),(3,.arr 2 (rO t++nv (t.sub.take k)).length 0 (rO t++nv (t.sub.take k)).length),(4,ai k)],[.box ((aC t).map .p),.arr 0 3 false [],.arr (rO t++nv (t.sub.take k)).length 3 false ((rO t++nv (t.sub.take k)).map FF)]⟩) (by omega) (by simp[nv,e,FF,KW]) (by
       intro k h K
       have w1:=aA h (by omega)
       obtain⟨x,hx,hr,ha,hb⟩:=iU k h
       rw[ha]
       generalize hA:rO t++nv (t.sub.take k)=A at hb ⊢
       by_cases h0:xO x=[]
       ·rw[h0] at hr ⊢
        simp at hr
        have b1:A.length*32≤1099511627776:=by omega
        have b2:A.length≤1099511627776:=by omega
        simp[aa,h,hx,bX t.z h,hr,w1,b1,b2]
       ·have b1:(A.length+(xO x).length)*32≤1099511627776:=by omega
        have b2:A.length+(xO x).length≤1099511627776:=by omega
        simp[aa,h,hx,bX t.z h,hr,w1,b1,b2,h0]) (by simp)]
    simp
    rw[List.take_of_length_le (by simp)])
theorem IU{σ:Type}(step:σ→Tr→Bool×σ)(s:σ)(t:Tr)(h:step s t=(true,s))(hs:∀x∈t.sub,step s x=(true,s)∧x.sub=[]):jH step s t=(true,s):=by
 rw[nf,h]
 have:∀l:List Tr,(∀x∈l,step s x=(true,s)∧x.sub=[])→fm step s l=(true,s):=by
  intro l
  induction l with
  |nil=>intro _;rfl
  |cons x r ih=>
   intro hl
   obtain⟨h1,h2⟩:=hl x (by simp)
   simp only[fm]
   rw[nf,h1,h2]
   simp only[fm]
   exact ih fun y hy=>hl y (by simp[hy])
 exact this t.sub hs
def Gp(t:Tr):Prop:=t.kind≠2∧∀x∈t.sub,x.kind=1∧x.sub=[]
theorem AZ{t:Tr}(h:Gp t):jH dX (true,[]) t=(true,(true,[])):=by
 apply IU
 ·simp[dX,h.1]
 ·intro x hx
  obtain⟨h1,h2⟩:=h.2 x hx
  exact⟨by simp[dX,h1],h2⟩
theorem Qv{t:Tr}(h:Gp t):vH t=true:=by unfold vH;rw[AZ h]
theorem Kf(N d:Nat)(t:Tr)(hc:Gp t)(ht:Dp d t)(hN:d+1100≤N):R N 169 [ag (aC t)] []=
  some (.tup [.map 3,ab true],[bx (aC t),.box [.map 3],.box [ab true],.map [],.box [.map 3],.dead]):=by
 have aa:rows 169={}:=rfl
 obtain⟨n,rfl⟩:=up N
 rw[aE 169 Tryz.func169 rfl rfl]
 have hn:=ss n (by omega) t
 obtain⟨h',y1,⟨bs,rfl⟩,y3⟩:=ov (L:=fun s=>s.1=true) (Q:=fun _=>True) (fun _ _ _ _=>trivial) u0 (FA t) (id:=5) (by omega) (IP t d) n (true,[]) _ t rfl trivial ht (by omega) ⟨[],rfl⟩
 have hb:bs=[]:=by
  apply List.eq_nil_of_length_eq_zero
  simpa [boxes] using y3
 subst hb
 rw[AZ hc] at y1
 have Jx:smap []=[]:=rfl
 simp[boxes,PK,SP,Jx] at y1
 simp[aa,hn,y1]
theorem alx(n:Nat):R (n+8) 254 [.p (.sl []),.p (.fn 255 [])] []=some (.tup [],[]):=by
 kernel_rfl
theorem ad1(n:Nat):R (n+8) 239 [.p .nils] []=some (ai 0,[]):=by
 kernel_rfl
theorem adE(n:Nat):R (n+8) 240 [.p .nils] []=some (ai 0,[]):=by
 kernel_rfl
theorem QQ(N d:Nat)(t:Tr)(hc:Gp t)(ht:Dp d t)(hq:KQ t)(hd:d≤1000)(hs:aF t≤1000000)(h0:cN t=0)(hN:d+2500≤N):R N 238 [ag (aC t)] []=some (.tup [.p (.sl []),ai 0],[]):=by
 have aa:rows 238=_:=Zt.eq_1
 obtain⟨n,rfl⟩:=up N
 rw[aE 238 Tryz.func238 rfl rfl]
 have g1:=tI n d t ht hq hd hs (by omega)
 rw[h0] at g1
 have g2:=Kf n d t hc ht (by omega)
 obtain⟨m,rfl⟩:∃m,n=m+8:=⟨n-8,by omega⟩
 have g3:=alx m
 have ib:∀l,lY (.box l)=false:=fun _=>rfl
 simp[aa,g1,g2,ib,Tj]
 rw[abC 0 (fun k=>⟨[(7,.arr 8 0 0 0),(21,.it 5)],[bx (aC t),.arr 0 3 false [],bx (aC t),.box [.map 5],.box [ab true],.map [],.box [.map 5],.dead,.arr 0 3 false []]⟩) (by omega) (by simp[aa]) (by intro k h;omega) (by
  intro K
  simp[aa,Jm,uv,uk])]
 simp[aa,g3]
end Go.En.V
