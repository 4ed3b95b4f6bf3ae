/- Part of the proof of CallingFills: engine, contracts or law, joined by a program from the texts X44 X45 X47 X48 X49 X50 Y29. -/
import Derived.Test.YtlcechkalldhfaaGreatDoorKal
import Derived.Test.YtlcechkalldhfaaGreatDoorKam
import Derived.Test.YtlcechkalldhfaaGreatDoorKan
import Derived.Test.YtlcechkalldhfaaGreatDoorKao
set_option linter.all false
set_option maxRecDepth 100000
set_option maxHeartbeats 4000000
namespace Go.En.V
open Go.Proofs
def qt(l:List Bd)(k j:Nat):Bool:=aj (cc (nth l j).name (nth l k).name) (!decide ((nth l j).width=(nth l k).width))
def GR(l:List Bd):Bool:=(List.range l.length).any fun k=>(List.range k).any (qt l k)
def lF(t:Tr):Int:=if yS t=true then 4 else if nT t=true then(if GR (xO t)=true then 14 else 0) else 8
theorem Ah(N d:Nat)(t:Tr)(ht:Dp d t)(hd:d≤1000)(hs:aF t≤10000)(hN:d+12000≤N):R N 160 [ag (aC t)] []=some (ai (lF t),[]):=by
 have aa:rows 160=_:=ZY.eq_1
 obtain⟨n,rfl⟩:=up N
 rw[aE 160 Tryz.func160 rfl rfl]
 have h1:=se d n t ht (by omega) (by omega)
 have h2:=KO d n t ht (by omega) (by omega)
 have h3:=Nm d n t ht (by omega)
 have h4:=TW d n t ht (by omega) (by omega)
 have hl:=B1 t
 unfold lF
 cases hb:yS t
 ·have EW:=hb
  unfold yS at EW
  cases hf:nT t
  ·rw[hf] at h3
   simp[aa,h1,h2,EW,h3]
  ·rw[hf] at h3
   generalize hQ:GR (xO t)=Q
   simp[aa,h1,h2,EW,h3,h4]
   unfold GR at hQ
   generalize xO t=l at*
   rw[acI l.length (fun k=>(List.range k).any (qt l k)) (fun k=>⟨[(2,ai 0),(3,.p (.sl (l.map FF))),(4,ai k)],[bx (aC t)]⟩)
    (fun k=>(.ret,⟨[(2,ai 14),(3,.p (.sl (l.map FF))),(4,ai k)],[bx (aC t)]⟩)) (by omega) (by simp[aa]) (by
      intro k h K
      have w1:=aA h (by omega)
      obtain⟨x,hx,bI,hm⟩:=ay h
      generalize hP:(List.range k).any (qt l k)=P
      simp[aa,h]
      rw[bf k (qt l k) (fun j=>⟨[(2,ai 0),(3,.p (.sl (l.map FF))),(4,ai k),(5,ai j)],[bx (aC t)]⟩)
       (fun j=>(.ret,⟨[(2,ai 14),(3,.p (.sl (l.map FF))),(4,ai k),(5,ai j)],[bx (aC t)]⟩))
       (.exit 2,⟨[(2,ai 0),(3,.p (.sl (l.map FF))),(4,ai k),(5,ai k)],[bx (aC t)]⟩) (by omega) (by simp[aa]) (by
         intro j hj K
         have w3:=aA hj (by omega)
         have iO:j<l.length:=by omega
         obtain⟨y,hy,dV,_⟩:=ay iO
         have e:qt l k j=aj (cc y.name x.name) (!decide (y.width=x.width)):=by unfold qt;rw[bI,dV]
         rw[e]
         cases hp:aj (cc y.name x.name) (!decide (y.width=x.width))<;>simp[aa,h,hj,iO,hx,hy,hp,w3]) (by simp[aa])]
      rcases ao (qt l k) (List.range k) with⟨e1,e2,_⟩|⟨i,e1,e2,_⟩
      ·rw[e2] at hP;subst hP
       rw[e1]
       simp[aa,w1]
      ·rw[e2] at hP;subst hP
       rw[e1]
       simp[aa]) (by simp[aa])]
   rcases ao (fun k=>(List.range k).any (qt l k)) (List.range l.length) with⟨e1,e2,_⟩|⟨i,e1,e2,_⟩
   ·rw[e2] at hQ;subst hQ
    rw[e1]
    simp[aa]
   ·rw[e2] at hQ;subst hQ
    rw[e1]
    simp[aa]
 ·have EW:=hb
  unfold yS at EW
  simp[aa,h1,h2,EW]
def T1(m:aw)(i:dh)(k w:Int)(nm:ByteArray)(s:List Tr):Bool:=
 (if k=2 then oG m i nm w else true)&&(if k=24 then decide ((nth s 0).width=m.address) else true)
mutual
def HN(m:aw)(i:dh):Tr→Bool
 | .mk k w _ n _ _ s=>T1 m i k w n s&&th m i s
def th(m:aw)(i:dh):List Tr→Bool
 |[]=>true
 |x::r=>HN m i x&&th m i r
end
theorem ab5(m:aw)(i:dh)(t:Tr):HN m i t=(T1 m i t.kind t.width t.name t.sub&&th m i t.sub):=by cases t;rfl
theorem T2(m:aw)(i:dh)(l:List Tr):th m i l= !l.any (fun x=> !HN m i x):=by
 induction l with
 |nil=>rfl
 |cons x l ih=>simp[th,ih]
theorem Pq(m:aw)(s:dh)(hr:m.regs.length≤500)(hs:s.opds.length≤500)(ho:∀o∈s.opds,CY m o)(hn:∀r∈m.regs,r.name.size≤1000000):
  ∀(d N:Nat) (t:Tr),Dp d t→F1 d t→d+1100≤N→R N 161 [ag (ah m),ag (aU s),ag (aC t)] []=some (ab (HN m s t),[]):=by
 intro d
 induction d with
 |zero=>intro N t h;exact h.elim
 |succ d ih=>
  intro N t ht yf hN
  have hl:=ht.1
  have aa:rows 161=_:=ZX.eq_1
  obtain⟨n,rfl⟩:=up N
  rw[aE 161 Tryz.func161 rfl rfl]
  have hv:=Tg n (by omega) m s t.name t.width hr hs ho hn
  rw[ab5]
  by_cases c1:t.kind=2∧oG m s t.name t.width=false
  ·have e:T1 m s t.kind t.width t.name t.sub=false:=by simp[T1,c1.1,c1.2]
   rw[e]
   rw[c1.2] at hv
   simp[aa,hv,eq_true c1.1]
  ·have e1:aj (decide (t.kind=2)) (!oG m s t.name t.width)=false:=by
    rw[←Bool.not_eq_true];intro h;apply c1;simpa [ak] using h
   by_cases c2:t.kind=24∧¬(nth t.sub 0).width=m.address
   ·have e:T1 m s t.kind t.width t.name t.sub=false:=by simp[T1,c2.1,c2.2]
    rw[e]
    have h0:=yf.1 c2.1
    obtain⟨x0,lZ,fV,_⟩:=ay (l:=t.sub) (k:=0) h0
    have fV:nth t.sub 0=x0:=fV
    have c3:=c2.2
    rw[fV] at c3
    have n2:¬t.kind=2:=by omega
    simp[aa,hv,n2,eq_true c2.1,bX t.z h0,h0,lZ,c3]
   ·have e:T1 m s t.kind t.width t.name t.sub=true:=by
     unfold T1
     by_cases k2:t.kind=2
     ·have:oG m s t.name t.width=true:=by rw[←Bool.not_eq_false];intro h;exact c1 ⟨k2,h⟩
      simp[k2,this]
     ·by_cases AA:t.kind=24
      ·have:(nth t.sub 0).width=m.address:=by
        by_cases h:(nth t.sub 0).width=m.address
        ·exact h
        ·exact absurd ⟨AA,h⟩ c2
       simp[AA,this]
      ·simp[k2,AA]
    rw[e]
    rw[T2]
    by_cases AA:t.kind=24
    ·have h0:=yf.1 AA
     obtain⟨x0,lZ,fV,_⟩:=ay (l:=t.sub) (k:=0) h0
     have fV:nth t.sub 0=x0:=fV
     have c3:x0.width=m.address:=by
      rw[←fV]
      by_cases h:(nth t.sub 0).width=m.address
      ·exact h
      ·exact absurd ⟨AA,h⟩ c2
     have n2:¬t.kind=2:=by omega
     generalize hQ:(t.sub.any fun x=> !HN m s x)=Q
     simp[aa,hv,n2,eq_true AA,bX t.z h0,h0,lZ,eq_true c3]
     (rw[abD t.sub (fun x=> !HN m s x) (fun k=>⟨[(3,.ref 0 0),(4,.ref 1 0),(5,.ref 2 0),(6,ab false),(7,ai k)],[.box ((ah m).map .p),.box ((aU s).map .p),.box ((aC t).map .p)]⟩)
       (fun k=>(.ret,⟨[(3,.ref 0 0),(4,.ref 1 0),(5,.ref 2 0),(6,ab false),(7,ai k)],[.box ((ah m).map .p),.box ((aU s).map .p),.box ((aC t).map .p)]⟩)) (by omega) (by simp[aa]) (by
         intro k x h hx _ hm K
         have w1:=aA h (by omega)
         have bI:=ih n x (ht.2 x hm) (yf.2 x hm) (by omega)
         cases hp:HN m s x<;>rw[hp] at bI<;>simp[aa,h,hx,bX t.z h,bI,w1]) (by simp[aa])]
      rcases ao (fun x=> !HN m s x) t.sub with⟨e1,e2,_⟩|⟨i,e1,e2,_⟩
      ·rw[e2] at hQ;subst hQ;rw[e1];simp[aa]
      ·rw[e2] at hQ;subst hQ;rw[e1];simp[aa])
    ·generalize hQ:(t.sub.any fun x=> !HN m s x)=Q
     simp[aa,hv,e1,AA]
     (rw[abD t.sub (fun x=> !HN m s x) (fun k=>⟨[(3,.ref 0 0),(4,.ref 1 0),(5,.ref 2 0),(6,ab false),(7,ai k)],[.box ((ah m).map .p),.box ((aU s).map .p),.box ((aC t).map .p)]⟩)
       (fun k=>(.ret,⟨[(3,.ref 0 0),(4,.ref 1 0),(5,.ref 2 0),(6,ab false),(7,ai k)],[.box ((ah m).map .p),.box ((aU s).map .p),.box ((aC t).map .p)]⟩)) (by omega) (by simp[aa]) (by
         intro k x h hx _ hm K
         have w1:=aA h (by omega)
         have bI:=ih n x (ht.2 x hm) (yf.2 x hm) (by omega)
         cases hp:HN m s x<;>rw[hp] at bI<;>simp[aa,h,hx,bX t.z h,bI,w1]) (by simp[aa])]
      rcases ao (fun x=> !HN m s x) t.sub with⟨e1,e2,_⟩|⟨i,e1,e2,_⟩
      ·rw[e2] at hQ;subst hQ;rw[e1];simp[aa]
      ·rw[e2] at hQ;subst hQ;rw[e1];simp[aa])
def Cw(m:aw)(s:dh)(t:Tr):Bool:=decide (lF t=0)&&HN m s t
structure Gr(x:Tr):Prop where
 dp:Dp 80 x
 sz:aF x≤500
 l24:lF x=0→F1 80 x
theorem Db(N:Nat)(hN:13000≤N)(m:aw)(s:dh)(t:Tr)(hg:Gr t)(hr:m.regs.length≤500)(hs:s.opds.length≤500)(ho:∀o∈s.opds,CY m o)(hn:∀r∈m.regs,r.name.size≤1000000):
  R N 130 [ag (ah m),ag (aU s),ag (aC t)] []=some (ab (Cw m s t),[]):=by
 have aa:rows 130={}:=rfl
 obtain⟨n,rfl⟩:=up N
 rw[aE 130 Tryz.func130 rfl rfl]
 have h1:=Ah n 80 t hg.dp (by omega) (by have:=hg.sz;omega) (by omega)
 unfold Cw
 by_cases c:lF t=0
 ·have h2:=Pq m s hr hs ho hn 80 n t hg.dp (hg.l24 c) (by omega)
  simp[aa,h1,h2,eq_true c]
 ·simp[aa,h1,c]
def dw(m:aw)(s:dh)(x:jY):Bool:=
 if x.kind=1 then
  if aj (aj (cj x.addr) (cj x.cond)) (Cw m s x.val)=true then
   if x.op=-1 then aj (cq x.reg 0 (m.regs.length-1)) (decide (x.val.width=(nth m.regs x.reg).width))
   else aj (aj (aj (decide (x.reg=0)) (cq x.op 0 (s.opds.length-1))) (decide ((nth s.opds x.op).kind=1))) (decide (x.val.width=iP m (nth s.opds x.op)))
  else false
 else if x.kind=2 then aj (aj (aj (aj (aj (aj (decide (x.op=0)) (decide (x.reg=0))) (cj x.cond)) (Cw m s x.addr)) (decide (x.addr.width=m.address))) (Cw m s x.val)) (gE x.val.width)
 else if x.kind=3 then aj (aj (aj (aj (aj (decide (x.op=0)) (decide (x.reg=0))) (cj x.addr)) (Cw m s x.val)) (decide (x.val.width=m.address))) (cE (cj x.cond) (aj (Cw m s x.cond) (decide (x.cond.width=1))))
 else if x.kind=4 then aj (aj (aj (aj (decide (x.op=0)) (decide (x.reg=0))) (cj x.addr)) (cj x.cond)) (Cw m s x.val)
 else false
theorem Ea(N:Nat)(hN:14000≤N)(m:aw)(s:dh)(x:jY)(ha:Gr x.addr)(hv:Gr x.val)(hc:Gr x.cond)(hr:m.regs.length≤500)(hs:s.opds.length≤500)(ho:∀o∈s.opds,CY m o)(hn:∀r∈m.regs,r.name.size≤1000000):
  R N 90 [ag (ah m),ag (aU s),ag (b_ x)] []=some (ab (dw m s x),[]):=by
 have aa:rows 90=_:=Yo.eq_1
 obtain⟨n,rfl⟩:=up N
 rw[aE 90 Tryz.func90 rfl rfl]
 have hIn:=fun (x a b:Int)=>tr n (by omega) x a b
 have w2:IntKind.i64.wrap ((m.regs.length:Int)-1)=(m.regs.length:Int)-1:=wrap64 (by omega) (by omega)
 have w3:IntKind.i64.wrap ((s.opds.length:Int)-1)=(s.opds.length:Int)-1:=wrap64 (by omega) (by omega)
 have na:=DJ n (by omega) x.addr
 have nc:=DJ n (by omega) x.cond
 have fa:=Db n (by omega) m s x.addr ha hr hs ho hn
 have fv:=Db n (by omega) m s x.val hv hr hs ho hn
 have fc:=Db n (by omega) m s x.cond hc hr hs ho hn
 by_cases k1:x.kind=1
 ·cases c1:aj (aj (cj x.addr) (cj x.cond)) (Cw m s x.val)
  ·have e:dw m s x=false:=by simp[dw,k1,c1]
   rw[e]
   simp[aa,eq_true k1,na,nc,fv,c1]
  ·by_cases k2:x.op=-1
   ·have e:dw m s x=aj (cq x.reg 0 (m.regs.length-1)) (decide (x.val.width=(nth m.regs x.reg).width)):=by simp[dw,k1,c1,k2]
    rw[e]
    by_cases k3:cq x.reg 0 (m.regs.length-1)=true
    ·have q:=k3
     simp only[cq,ak,Bool.and_eq_true,decide_eq_true_eq] at q
     obtain⟨r,g2,mi,zD,_⟩:=aR q.1 (show x.reg<(m.regs.length:Int) by omega)
     have q4:x.reg<(m.regs.length:Int):=by omega
     have q5:x.reg≤(m.regs.length:Int)-1:=q.2
     rw[k3,zD]
     simp[aa,eq_true k1,na,nc,fv,c1,eq_true k2,hIn,w2,q.1,q4,q5,g2,mi]
    ·have k3:cq x.reg 0 (m.regs.length-1)=false:=by simpa using k3
     rw[k3]
     unfold cq at k3
     simp[aa,eq_true k1,na,nc,fv,c1,eq_true k2,hIn,w2,k3]
   ·have e:dw m s x=aj (aj (aj (decide (x.reg=0)) (cq x.op 0 (s.opds.length-1))) (decide ((nth s.opds x.op).kind=1))) (decide (x.val.width=iP m (nth s.opds x.op))):=by simp[dw,k1,c1,k2]
    rw[e]
    by_cases k3:x.reg=0
    ·by_cases k4:cq x.op 0 (s.opds.length-1)=true
     ·have q:=k4
      simp only[cq,ak,Bool.and_eq_true,decide_eq_true_eq] at q
      obtain⟨o,g2,EJ,p6,hom⟩:=aR q.1 (show x.op<(s.opds.length:Int) by omega)
      have q4:x.op<(s.opds.length:Int):=by omega
      have q5:x.op≤(s.opds.length:Int)-1:=q.2
      have hw:=DT n (by omega) m o (ho o hom)
      rw[k4,p6]
      simp[aa,eq_true k1,na,nc,fv,c1,k2,eq_true k3,hIn,w3,q.1,q4,q5,g2,EJ,hw]
     ·have k4:cq x.op 0 (s.opds.length-1)=false:=by simpa using k4
      rw[k4]
      unfold cq at k4
      simp[aa,eq_true k1,na,nc,fv,c1,k2,eq_true k3,hIn,w3,k4]
    ·simp[aa,eq_true k1,na,nc,fv,c1,k2,k3,hIn,w3]
 ·by_cases k2:x.kind=2
  ·have e:dw m s x=aj (aj (aj (aj (aj (aj (decide (x.op=0)) (decide (x.reg=0))) (cj x.cond)) (Cw m s x.addr)) (decide (x.addr.width=m.address))) (Cw m s x.val)) (gE x.val.width):=by simp[dw,k2]
   rw[e]
   unfold gE
   simp[aa,k1,eq_true k2,na,nc,fa,fv]
  ·by_cases k3:x.kind=3
   ·have e:dw m s x=aj (aj (aj (aj (aj (decide (x.op=0)) (decide (x.reg=0))) (cj x.addr)) (Cw m s x.val)) (decide (x.val.width=m.address))) (cE (cj x.cond) (aj (Cw m s x.cond) (decide (x.cond.width=1)))):=by simp[dw,k3]
    rw[e]
    simp[aa,k1,k2,eq_true k3,na,nc,fc,fv]
   ·by_cases k4:x.kind=4
    ·have e:dw m s x=aj (aj (aj (aj (decide (x.op=0)) (decide (x.reg=0))) (cj x.addr)) (cj x.cond)) (Cw m s x.val):=by simp[dw,k4]
     rw[e]
     simp[aa,k1,k2,k3,eq_true k4,na,nc,fv]
    ·have e:dw m s x=false:=by simp[dw,k1,k2,k3,k4]
     rw[e]
     simp[aa,k1,k2,k3,k4]
def zk(m:aw):Prop:=∀b∈m.banks,0<b.regs.length∧∀r∈b.regs,0≤r∧r<m.regs.length
theorem Jg{m:aw}(hb:zk m){s:dh}{i:Nat}{o:n8}(h:cY m s i o=true):CY m o:=by
 intro k1
 unfold cY at h
 rw[if_pos k1] at h
 simp only[Bool.and_eq_true] at h
 have h1:=h.1.1
 simp only[cq,ak,Bool.and_eq_true,decide_eq_true_eq] at h1
 have h2:o.bank<m.banks.length:=by omega
 obtain⟨b,_,_,zq,hm⟩:=aR h1.1 h2
 rw[zq]
 obtain⟨g1,g2⟩:=hb b hm
 obtain⟨r,_,hr,ti⟩:=ay (l:=b.regs) (k:=0) g1
 have hr:nth b.regs 0=r:=hr
 rw[hr]
 exact⟨⟨h1.1,h2⟩,g1,g2 r ti⟩
theorem Ma{m:aw}(h:jx m=true):zk m:=by
 intro b hb
 obtain⟨k,hk,rfl⟩:=List.getElem_of_mem hb
 simp only[jx,Bool.not_eq_true',List.any_eq_false,List.mem_range] at h
 have:=h k hk
 simp only[Bool.not_eq_true] at this
 unfold nM at this
 rw[bq _ _ hk] at this
 simp only[Bool.or_eq_false_iff,aK,List.any_eq_false,List.mem_range] at this
 obtain⟨⟨_,h1⟩,_,h2⟩:=this
 refine⟨?_, ?_⟩
 ·simp at h1;exact List.length_pos_iff.2 h1
 ·intro r hr
  obtain⟨j,hj,rfl⟩:=List.getElem_of_mem hr
  have:=h2 j hj
  simp only[Bool.not_eq_true] at this
  unfold mT at this
  rw[bq _ _ hj] at this
  simp only[Bool.or_eq_false_iff,Bool.not_eq_false'] at this
  have h3:=this.1
  simp only[cq,ak,Bool.and_eq_true,decide_eq_true_eq] at h3
  omega
def jh(c:Int)(l:List jY):Nat:=eu (fun e=>if e.kind=c then 1 else 0) l
theorem CH(c:Int)(l:List jY):jh c l≤l.length:=by
 have:=py (fun e:jY=>if e.kind=c then 1 else 0) 1 l (fun p _=>by split<;>omega)
 unfold jh;omega
def qj(m:aw)(s:dh):Bool:=decide (s.mask/2^(8*m.word).toNat=0)
def Eg(s:dh):Bool:=(List.range 64).any fun b=>decide (iH s.mask b<iH s.mat b)
def DM(m:aw)(s:dh):Bool:=
 aj (aj (aj (aj (cq s.unit 0 (m.units.length-1)) (cq s.busy 1 15)) (cq s.latency 1 15)) (cq s.slots 0 2)) (cE (decide (s.slots=0)) (decide ((jh 3 s.effs:Int)=1)))
def xV(s:dh):Bool:=cE (decide (1<(jh 3 s.effs:Int))) (aj (decide (0<jh 4 s.effs)) (decide (1<(s.effs.length:Int))))
def qN(m:aw)(s:dh):Bool:=
 qj m s&&(!Eg s&&(!((List.range s.opds.length).any fun i=> !jL m s i)&&(jk m s&&(!(s.effs.any fun x=> !dw m s x)&&(!xV s&&DM m s)))))
structure Gi(m:aw)(s:dh):Prop where
 opds:s.opds.length≤20
 effs:s.effs.length≤20
 pcs:∀o∈s.opds,o.pieces.length≤100
 mask:0≤s.mask∧s.mask<18446744073709551616
 mat:0≤s.mat∧s.mat<18446744073709551616
structure Gm(m:aw):Prop where
 regs:m.regs.length≤100
 banks:m.banks.length≤100
 units:m.units.length≤100
 instrs:m.instrs.length≤100
 bregs:∀b∈m.banks,b.regs.length≤100
 ins:∀s∈m.instrs,Gi m s
theorem Lc{m:aw}(h:gJ m=true):∀r∈m.regs,r.name.size≤1000000:=by
 intro r hr
 obtain⟨i,hi,rfl⟩:=List.mem_iff_getElem.1 hr
 unfold gJ at h
 simp only[Bool.and_eq_true,Bool.not_eq_true',List.any_eq_false,List.mem_range] at h
 have h:=h.1 i hi
 unfold mc at h
 rw[bq _ i hi] at h
 cases hn:ck (m.regs[i]).name with
 |false=>rw[hn] at h;simp[aK] at h
 |true=>
  unfold ck at hn
  simp only[Bool.and_eq_true,decide_eq_true_eq] at hn
  omega
theorem HB(N:Nat)(hN:15000≤N)(m:aw)(A7:∀r∈m.regs,r.name.size≤1000000)(s:dh)(hw:1≤m.word∧m.word≤4)(hg:Gm m)(hi:Gi m s)(hb:zk m)(he:∀x∈s.effs,Gr x.addr∧Gr x.val∧Gr x.cond):
  R N 61 [ag (ah m),ag (aU s)] []=some (ab (qN m s),[]):=by
 have q1:=hg.regs;have q2:=hg.banks;have q3:=hg.units;have q4:=hi.opds;have q5:=hi.effs
 have aa:rows 61=_:=YD.eq_1
 obtain⟨n,rfl⟩:=up N
 rw[aE 61 Tryz.func61 rfl rfl]
 have hIn:=fun (x a b:Int)=>tr n (by omega) x a b
 have w8:IntKind.i64.wrap (8*m.word)=8*m.word:=wrap64 (by omega) (by omega)
 have w2:IntKind.i64.wrap ((m.units.length:Int)-1)=(m.units.length:Int)-1:=wrap64 (by omega) (by omega)
 have MA:=R0 n s.mask (8*m.word) hi.mask.1 hi.mask.2 (by omega) (by omega)
 have JG:=QM n (by omega) m s hw hi.mask (by omega) hi.pcs
 unfold qN
 cases c0:qj m s
 ·unfold qj at c0
  rw[c0] at MA
  simp[aa,w8,MA]
 unfold qj at c0
 rw[c0] at MA
 generalize AJ:Eg s=Q1
 generalize GA:((List.range s.opds.length).any fun i=> !jL m s i)=Q2
 generalize Di:(s.effs.any fun x=> !dw m s x)=Q3
 generalize Q':jk m s=Q4 at JG
 simp[aa,w8,MA]
 rw[acI 64 (fun b=>decide (iH s.mask b<iH s.mat b)) (fun k=>⟨[(2,.ref 0 0),(3,.ref 1 0),(4,ab false),(5,ai k)],[bx (ah m),bx (aU s)]⟩)
  (fun k=>(.ret,⟨[(2,.ref 0 0),(3,.ref 1 0),(4,ab false),(5,ai k)],[bx (ah m),bx (aU s)]⟩)) (by omega) (by simp[aa]) (by
    intro k h K
    have w1:IntKind.i64.wrap ((k:Int)+1)=(k:Int)+1:=wrap64 (by omega) (by omega)
    have hkI:(k:Int)<64:=by omega
    have hb:=IN n s.mask k hi.mask.1 hi.mask.2 (by omega) (by omega)
    have EW:s.mask/2^((k:Int)).toNat % 2=iH s.mask k:=by simp[iH]
    rw[EW] at hb
    have hc:=IN n s.mat k hi.mat.1 hi.mat.2 (by omega) (by omega)
    have uy:s.mat/2^((k:Int)).toNat % 2=iH s.mat k:=by simp[iH]
    rw[uy] at hc
    by_cases bW:iH s.mask k<iH s.mat k
    ·simp[aa,hkI,hb,hc,bW]
    ·simp[aa,hkI,hb,hc,bW,w1]) (by simp[aa])]
 unfold Eg at AJ
 rcases ao (fun b:Nat=>decide (iH s.mask b<iH s.mat b)) (List.range 64) with⟨e1,e2,_⟩|⟨i,e1,e2,_⟩
 rotate_left
 ·rw[e2] at AJ;subst AJ;rw[e1];simp[aa]
 rw[e2] at AJ;subst AJ;rw[e1];simp[aa]
 rw[bf s.opds.length (fun i=> !jL m s i) (fun k=>⟨[(2,.ref 0 0),(3,.ref 1 0),(4,ab false),(6,ai k)],[bx (ah m),bx (aU s)]⟩)
  (fun k=>(.ret,⟨[(2,.ref 0 0),(3,.ref 1 0),(4,ab false),(6,ai k)],[bx (ah m),bx (aU s)]⟩))
  (.exit 2,⟨[(2,.ref 0 0),(3,.ref 1 0),(4,ab false),(6,ai s.opds.length)],[bx (ah m),bx (aU s)]⟩) (by omega) (by simp[aa]) (by
    intro k h K
    have w1:=aA h (by omega)
    have ho:=BQ n (by omega) m s k h hi.pcs (by omega) (by omega)
    cases hc:jL m s k
    ·rw[hc] at ho;simp[aa,h,ho]
    ·rw[hc] at ho;simp[aa,h,ho,w1]) (by simp[aa])]
 rcases ao (fun i:Nat=> !jL m s i) (List.range s.opds.length) with⟨e3,e4,_⟩|⟨i,e3,e4,_⟩
 rotate_left
 ·rw[e4] at GA;subst GA;rw[e3];simp[aa]
 have Uh:∀o∈s.opds,CY m o:=by
  intro o ho
  obtain⟨i,zp,rfl⟩:=List.getElem_of_mem ho
  simp only[List.any_eq_false,List.mem_range] at e4
  have:=e4 i zp
  simp only[Bool.not_eq_true,Bool.not_eq_false'] at this
  unfold jL at this
  rw[bq _ _ zp] at this
  simp only[Bool.and_eq_true] at this
  exact Jg hb this.2
 rw[e4] at GA;subst GA;rw[e3]
 cases Q4
 ·simp[aa,JG]
 simp[aa,JG]
 rw[aJ s.effs (fun x=> !dw m s x) (fun k=>⟨[(2,.ref 0 0),(3,.ref 1 0),(4,ab false),(7,ai (jh 3 (s.effs.take k))),(8,ai (jh 4 (s.effs.take k))),(9,ai k)],[bx (ah m),bx (aU s)]⟩)
  (fun k=>(.ret,⟨[(2,.ref 0 0),(3,.ref 1 0),(4,ab false),(7,ai (jh 3 (s.effs.take k))),(8,ai (jh 4 (s.effs.take k))),(9,ai k)],[bx (ah m),bx (aU s)]⟩))
  (.exit 4,⟨[(2,.ref 0 0),(3,.ref 1 0),(4,ab false),(7,ai (jh 3 s.effs)),(8,ai (jh 4 s.effs)),(9,ai s.effs.length)],[bx (ah m),bx (aU s)]⟩) (by omega) (by simp[aa,jh,eu]) (by
    intro k x h hx _ hm K
    have w1:=aA h (by omega)
    obtain⟨g1,g2,g3⟩:=he x hm
    have Up:=Ea n (by omega) m s x g1 g2 g3 (by omega) (by omega) Uh A7
    have e5:jh 3 (s.effs.take (k+1))=jh 3 (s.effs.take k)+(if x.kind=3 then 1 else 0):=ff _ h hx
    have e6:jh 4 (s.effs.take (k+1))=jh 4 (s.effs.take k)+(if x.kind=4 then 1 else 0):=ff _ h hx
    have b5:=CH 3 (s.effs.take k)
    have b6:=CH 4 (s.effs.take k)
    simp only[List.length_take] at b5 b6
    rw[e5,e6]
    generalize jh 3 (s.effs.take k)=A at b5 ⊢
    generalize jh 4 (s.effs.take k)=B at b6 ⊢
    have w5:IntKind.i64.wrap ((A:Int)+1)=A+1:=wrap64 (by omega) (by omega)
    have w6:IntKind.i64.wrap ((B:Int)+1)=B+1:=wrap64 (by omega) (by omega)
    cases hc:dw m s x
    ·rw[hc] at Up;simp[aa,h,hx,Up]
    ·rw[hc] at Up
     by_cases k3:x.kind=3
     ·have k4:¬x.kind=4:=by omega
      simp[aa,h,hx,Up,w1,eq_true k3,k4,w5]
     ·by_cases k4:x.kind=4
      ·simp[aa,h,hx,Up,w1,k3,eq_true k4,w6]
      ·simp[aa,h,hx,Up,w1,k3,k4]) (by simp[aa])]
 rcases ao (fun x:jY=> !dw m s x) s.effs with⟨e5,e6,_⟩|⟨i,e5,e6,_⟩
 rotate_left
 ·rw[e6] at Di;subst Di;rw[e5];simp[aa]
 rw[e6] at Di;subst Di;rw[e5]
 unfold DM cq
 cases hj:xV s
 ·unfold xV at hj
  simp[aa,hj,hIn,w2]
 ·unfold xV at hj
  simp[aa,hj]
def N5(m:aw):Bool:=ck m.name&&(cq m.word 1 4&&((decide (m.address=16)||decide (m.address=32))&&(gJ m&&(jx m&&mC m))))
def yC(l:List dh)(k:Nat):Bool:=(List.range k).any fun j=>cc (nth l j).name (nth l k).name
def fZ(m:aw)(k:Nat):Bool:= !(ck (nth m.instrs k).name&&qN m (nth m.instrs k))||yC m.instrs k
def dG(m:aw):Int:=if nd m=true then(if N5 m=true then(if (List.range m.instrs.length).any (fZ m)=true then 8 else 0) else 8) else 4
theorem HJ(N:Nat)(hN:16000≤N)(m:aw)(hg:Gm m)(he:∀s∈m.instrs,∀x∈s.effs,Gr x.addr∧Gr x.val∧Gr x.cond):
  R N 36 [ag (ah m)] []=some (ai (dG m),[]):=by
 have q1:=hg.regs;have q2:=hg.banks;have q3:=hg.units;have q4:=hg.instrs
 have aa:rows 36=_:=Gu.eq_1
 obtain⟨n,rfl⟩:=up N
 rw[aE 36 Tryz.func36 rfl rfl]
 have hIn:=fun (x a b:Int)=>tr n (by omega) x a b
 have wq:=fun s=>kL n s (by omega)
 have h1:=G3 n (by omega) m q2 q4 (fun s hs=>by have:=(hg.ins s hs).opds;omega)
 have h2:=K7 n (by omega) m q1
 have h3:=HD n (by omega) m (by omega) q2 hg.bregs
 have h4:=HA n (by omega) m q3
 unfold dG
 cases c0:nd m
 ·rw[c0] at h1
  simp[aa,h1]
 rw[c0] at h1
 unfold N5
 cases c1:ck m.name
 ·simp[aa,h1,wq,c1]
 cases c2:cq m.word 1 4
 ·have ma:=c2
  unfold cq at ma
  simp[aa,h1,wq,c1,hIn,ma]
 have ma:=c2
 unfold cq at ma
 by_cases c3:m.address=16∨m.address=32
 rotate_left
 ·simp only[not_or] at c3
  simp[aa,h1,wq,c1,hIn,ma,c3.1,c3.2]
 have c4:(decide (m.address=16)||decide (m.address=32))=true:=by rcases c3 with c|c<;>simp[c]
 have c5:aj (!decide (m.address=16)) (!decide (m.address=32))=false:=by rcases c3 with c|c<;>simp[c]
 cases c6:gJ m
 ·rw[c6] at h2
  simp[aa,h1,wq,c1,hIn,ma,c5,h2,c4]
 rw[c6] at h2
 cases c7:jx m
 ·rw[c7] at h3
  simp[aa,h1,wq,c1,hIn,ma,c5,h2,h3,c4]
 rw[c7] at h3
 cases c8:mC m
 ·rw[c8] at h4
  simp[aa,h1,wq,c1,hIn,ma,c5,h2,h3,h4,c4]
 rw[c8] at h4
 have zq:=Ma c7
 have hw:1≤m.word∧m.word≤4:=by simpa [cq,ak] using c2
 generalize hQ:((List.range m.instrs.length).any (fZ m))=Q
 simp[aa,h1,wq,c1,hIn,ma,c5,h2,h3,h4,c4]
 rw[acI m.instrs.length (fZ m) (fun k=>⟨[(1,.ref 0 0),(2,ai 0),(3,ai k)],[bx (ah m)]⟩)
  (fun k=>(.ret,⟨[(1,.ref 0 0),(2,ai 8),(3,ai k)],[bx (ah m)]⟩)) (by omega) (by simp[aa]) (by
    intro k h K
    have w1:=aA h (by omega)
    obtain⟨x,hx,bI,hm⟩:=ay h
    have hi:=HB n (by omega) m (Lc c6) x hw hg (hg.ins x hm) zq (he x hm)
    cases d1:ck x.name
    ·have e:fZ m k=true:=by unfold fZ;rw[bI,d1];rfl
     rw[e]
     simp[aa,h,hx,wq,d1]
    cases d2:qN m x
    ·have e:fZ m k=true:=by unfold fZ;rw[bI,d1,d2];rfl
     rw[e]
     rw[d2] at hi
     simp[aa,h,hx,wq,d1,hi]
    have e:fZ m k=yC m.instrs k:=by unfold fZ;rw[bI,d1,d2];rfl
    rw[e]
    rw[d2] at hi
    have ed:yC m.instrs k=(List.range k).any (fun j=>cc (nth m.instrs j).name x.name):=by unfold yC;rw[bI]
    rw[ed]
    generalize hP:(List.range k).any (fun j=>cc (nth m.instrs j).name x.name)=P
    simp[aa,h,hx,wq,d1,hi]
    rw[bf k (fun j=>cc (nth m.instrs j).name x.name) (fun j=>⟨[(1,.ref 0 0),(2,ai 0),(3,ai k),(4,.ref 1 0),(5,ai j)],[bx (ah m),bx (aU x)]⟩)
     (fun j=>(.ret,⟨[(1,.ref 0 0),(2,ai 8),(3,ai k),(4,.ref 1 0),(5,ai j)],[bx (ah m),bx (aU x)]⟩))
     (.exit 2,⟨[(1,.ref 0 0),(2,ai 0),(3,ai k),(4,.ref 1 0),(5,ai k)],[bx (ah m),bx (aU x)]⟩) (by omega) (by simp[aa]) (by
       intro j hj K
       have w3:=aA hj (by omega)
       have iO:j<m.instrs.length:=by omega
       obtain⟨y,hy,dV,_⟩:=ay iO
       rw[dV]
       cases hp:cc y.name x.name<;>simp[aa,hj,iO,hy,hp,w3]) (by simp[aa])]
    rcases ao (fun j:Nat=>cc (nth m.instrs j).name x.name) (List.range k) with⟨e1,e2,_⟩|⟨i,e1,e2,_⟩
    ·rw[e2] at hP;subst hP;rw[e1];simp[aa,w1]
    ·rw[e2] at hP;subst hP;rw[e1];simp[aa]) (by simp[aa])]
 rcases ao (fZ m) (List.range m.instrs.length) with⟨e1,e2,_⟩|⟨i,e1,e2,_⟩
 ·rw[e2] at hQ;subst hQ;rw[e1];simp[aa]
 ·rw[e2] at hQ;subst hQ;rw[e1];simp[aa]
def dP(s:dh)(i:Nat):List ByteArray:=⟨#[112,99]⟩::(s.opds.take i).map n8.name
def N_(s:dh)(i:Nat):Int:=(s.opds.take i).foldl (fun t o=>KY .u64 t (cG o.pieces)) s.mask
def Mm(m:aw)(s:dh)(i:Nat)(o:n8):Bool:=
 (cW (dP s i) o.name&&(eO m.word o.pieces o.pieces.length&&cY m s i o))&&decide (mg .u64 (N_ s i) (cG o.pieces)=0)
def ou(m:aw)(s:dh)(k:Nat):Bool:=(List.range k).all fun i=>Mm m s i (nth s.opds i)
theorem KZ(m:aw)(s:dh)(k:Nat):ou m s (k+1)=(ou m s k&&Mm m s k (nth s.opds k)):=by
 unfold ou;rw[List.range_succ,List.all_append];simp
def kR(l:List jY):List (Int×Int):=l.foldl (fun a e=>ud e.kind (kS e.kind a+1) a) []
theorem Ev{l:List jY}{k:Nat}{x:jY}(h:k<l.length)(hx:∀h:k<l.length,l[k]=x):kR (l.take (k+1))=ud x.kind (kS x.kind (kR (l.take k))+1) (kR (l.take k)):=by
 unfold kR;rw[List.take_succ_eq_append_getElem h,hx h,List.foldl_append];rfl
theorem q9(c:Int)(l:List jY):kS c (kR l)=jh c l:=by
 have key:∀(l:List jY) (a:List (Int×Int)),kS c (l.foldl (fun a e=>ud e.kind (kS e.kind a+1) a) a)=kS c a+jh c l:=by
  intro l
  induction l with
  |nil=>intro a;simp[jh,eu]
  |cons e r ih=>
   intro a
   simp only[List.foldl_cons,ih,Ew,jh,eu]
   by_cases h:c=e.kind
   ·subst h;simp;omega
   ·have:¬e.kind=c:=fun h'=>h h'.symm
    simp[h,this]
 have:=key l []
 unfold kR
 rw[this]
 simp[kS,xU]
theorem HO:kR []=[]:=rfl
def xH(m:aw)(s:dh):Bool:=aj (decide (kj .u64 s.mask (br (IntKind.i64.wrap (8*m.word)))=0)) (decide (kj .u64 s.mat s.mask=0))
def Eu(m:aw)(s:dh):Bool:=
 aj (aj (aj (aj (aj (aj (decide ((jh 3 s.effs:Int)≤1)) (cE (decide ((jh 4 s.effs:Int)=0)) (decide ((s.effs.length:Int)=1)))) (cq s.unit 0 (m.units.length-1))) (cq s.busy 1 15)) (cq s.latency 1 15)) (cq s.slots 0 2)) (cE (decide (s.slots=0)) (decide ((jh 3 s.effs:Int)=1)))
def zB(m:aw)(s:dh):Bool:=(xH m s&&ou m s s.opds.length)&&((s.effs.all (rz m (iQ m s.opds) s))&&Eu m s)
theorem anV{N:Nat}(hN:20≤N)(m:aw)(ok a b c d e f g:Bool):R N 43 [.ref 0 0,.p (.sl [.bool a,.bool b,.bool c,.bool d,.bool e,.bool f,.bool g])] [bx (bg ⟨m,ok⟩)]=some (.tup [],[.box ((bg ⟨m,aj (aj (aj (aj (aj (aj (aj ok a) b) c) d) e) f) g⟩).map .p)]):=
 pJ N m ok [a,b,c,d,e,f,g] (by simp;omega) (by simp)
theorem qQ{m:aw}:∀(l:List pT) (seen:List ByteArray),iT m seen l=true→∀r∈l,r.name.size≤1000000
 |[],_,_,r,hr=>by simp at hr
 |x::l,seen,h,r,hr=>by
  simp only[iT,Bool.and_eq_true] at h
  rcases List.mem_cons.1 hr with rfl|hr
  ·have h:=h.1
   unfold tV cW ck at h
   simp only[Bool.and_eq_true,decide_eq_true_eq] at h
   omega
  ·exact qQ l _ h.2 r hr
theorem Pw(N:Nat)(hN:5000≤N)(m:aw)(A7:∀r∈m.regs,r.name.size≤1000000)(ok:Bool)(s:dh)(hg:Gm m)(hi:Gi m s)(hw:ok=true→1≤m.word∧m.word≤4)(hb:ok=true→zk m)
  (he:∀x∈s.effs,Gt x.addr∧Gt x.val∧Gt x.cond):
  R N 49 [.ref 0 0,ag (aU s)] [bx (bg ⟨m,ok⟩)]=some (.tup [],[bx (bg ⟨m,ok&&zB m s⟩)]):=by
 have q1:=hg.regs;have q2:=hg.banks;have q3:=hg.units;have q4:=hi.opds;have q5:=hi.effs
 have aa:rows 49=_:=YL.eq_1
 obtain⟨n,rfl⟩:=up N
 rw[aE 49 Tryz.func49 rfl rfl]
 have m1:∀ok a,_:=sA (N:=n) (by omega) m
 have m2:∀ok a b,_:=Aq (N:=n) (by omega) m
 have m7:∀ok a b c d e f g,_:=anV (N:=n) (by omega) m
 have w:=iZ n (by omega)
 have VJ:=jr n (by omega) (IntKind.i64.wrap (8*m.word))
 have w2:IntKind.i64.wrap ((m.units.length:Int)-1)=(m.units.length:Int)-1:=wrap64 (by omega) (by omega)
 simp[aa,VJ,m2]
 have e0:aj (aj ok (decide (kj .u64 s.mask (br (IntKind.i64.wrap (8*m.word)))=0))) (decide (kj .u64 s.mat s.mask=0))=(ok&&xH m s):=by
  simp only[xH,ak,Bool.and_assoc]
 rw[e0]
 generalize acL:(ok&&xH m s)=BS
 have ur:BS=true→1≤m.word∧m.word≤4:=fun h=>hw (by rw[←acL] at h;simp at h;exact h.1)
 have jC:BS=true→zk m:=fun h=>hb (by rw[←acL] at h;simp at h;exact h.1)
 have azv:(ok&&zB m s)=((BS&&ou m s s.opds.length)&&((s.effs.all (rz m (iQ m s.opds) s))&&Eu m s)):=by
  rw[←acL];unfold zB;simp only[Bool.and_assoc]
 rw[azv]
 generalize hr:iter _ _ _ _ _=r
 have key:∃tk,r=some (.exit 0,⟨[(0,.ref 0 0),(3,.ref 1 0),(4,.ref 3 0),(5,.p (.int .u64 tk)),(39,.p (.sl (s.opds.map l_))),(40,ai s.opds.length),(41,ai s.opds.length)],
   [bx (bg ⟨m,BS&&ou m s s.opds.length⟩),bx (aU s),.arr s.opds.length 1 false ((dP s s.opds.length).map PV.str),.box [.arr 2 s.opds.length 0 (dP s s.opds.length).length]]⟩):=by
  rw[←hr]
  refine mE s.opds.length (fun k st=>∃tk,((BS&&ou m s k)=true→tk=N_ s k)∧k≤s.opds.length∧st=⟨[(0,.ref 0 0),(3,.ref 1 0),(4,.ref 3 0),(5,.p (.int .u64 tk)),(39,.p (.sl (s.opds.map l_))),(40,ai s.opds.length),(41,ai k)],
   [bx (bg ⟨m,BS&&ou m s k⟩),bx (aU s),.arr k 1 false ((dP s k).map PV.str),.box [.arr 2 k 0 (dP s k).length]]⟩)
   (fun r=>∃tk,r=some (.exit 0,⟨[(0,.ref 0 0),(3,.ref 1 0),(4,.ref 3 0),(5,.p (.int .u64 tk)),(39,.p (.sl (s.opds.map l_))),(40,ai s.opds.length),(41,ai s.opds.length)],
   [bx (bg ⟨m,BS&&ou m s s.opds.length⟩),bx (aU s),.arr s.opds.length 1 false ((dP s s.opds.length).map PV.str),.box [.arr 2 s.opds.length 0 (dP s s.opds.length).length]]⟩)) ?_ ?_ (by omega) ?_
  ·rintro k _ K hk ⟨tk,EF,_,rfl⟩ hK
   have w1:=aA hk (by omega)
   obtain⟨o,ho,lM,hom⟩:=ay hk
   have jT:(dP s k).length=k+1:=by simp[dP];omega
   have hf:=oS n (dP s k) (by omega) (by omega) o.name false k
   simp only[qR] at hf
   have hsn:dP s (k+1)=dP s k++[o.name]:=by
    unfold dP;rw[gD n8.name hk ho];rfl
   generalize hB:(BS&&ou m s k)=mB at EF
   have hwk:aj mB (cW (dP s k) o.name)=true→1≤m.word∧m.word≤4:=fun h=>ur (by
    rw[ak,←hB] at h;simp at h;exact h.1.1)
   obtain⟨t,zn,acK⟩:=Hx n (by omega) m (aj mB (cW (dP s k) o.name)) s k hk hi.pcs (by omega) (by omega) hwk
   rw[lM] at zn acK
   have eN:(BS&&ou m s (k+1))=aj ((aj mB (cW (dP s k) o.name)&&eO m.word o.pieces o.pieces.length)&&cY m s k o) (decide (mg .u64 tk t=0)):=by
    rw[KZ,←Bool.and_assoc,hB,lM]
    cases hc:((aj mB (cW (dP s k) o.name)&&eO m.word o.pieces o.pieces.length)&&cY m s k o)
    ·have uy:=hc
     simp only[ak] at uy
     unfold Mm
     rw[←Bool.and_assoc,←Bool.and_assoc,←Bool.and_assoc,uy]
     simp
    ·have ht:=acK (by simpa using hc)
     have uy:=hc
     simp only[ak,Bool.and_eq_true] at uy
     obtain⟨⟨⟨c1,c2⟩,c3⟩,c4⟩:=uy
     rw[EF c1,ht]
     unfold Mm
     rw[c1,c2,c3,c4]
     simp
   have hK:=hK ⟨[(0,.ref 0 0),(3,.ref 1 0),(4,.ref 3 0),(5,.p (.int .u64 (KY .u64 tk t))),(39,.p (.sl (s.opds.map l_))),(40,ai s.opds.length),(41,ai (k+1:Nat))],
    [bx (bg ⟨m,BS&&ou m s (k+1)⟩),bx (aU s),.arr (k+1) 1 false ((dP s (k+1)).map PV.str),.box [.arr 2 (k+1) 0 (dP s (k+1)).length]]⟩
    ⟨_,(by
      intro h
      rw[eN] at h
      simp only[ak,Bool.and_eq_true] at h
      obtain⟨⟨⟨⟨c1,c2⟩,c3⟩,c4⟩,c5⟩:=h
      have ht:=acK (by simp[ak,c1,c2,c3,c4])
      rw[EF c1,ht]
      unfold N_
      rw[List.take_succ_eq_append_getElem hk,ho hk,List.foldl_append];rfl),by omega,rfl⟩
   rw[eN,hsn] at hK
   generalize dP s k=seen at*
   simp at zn hf hK
   simp[aa,hk,ho,hf,m1,zn,w1]
   simpa using hK
  ·rintro _ K ⟨tk,_,_,rfl⟩
   exact⟨tk,by simp[aa]⟩
  ·exact⟨s.mask,by simp[N_],by omega,by simp[aa,ou,dP]⟩
 obtain⟨tk,rfl⟩:=key
 generalize Ug:(BS&&ou m s s.opds.length)=rN
 cases rN
 ·simp[aa]
 ·simp only[Bool.and_eq_true] at Ug
  obtain⟨hA,hOp⟩:=Ug
  have zq:=jC hA
  have Uh:∀o∈s.opds,CY m o:=by
   intro o ho
   obtain⟨i,zp,rfl⟩:=List.getElem_of_mem ho
   have:=List.all_eq_true.1 hOp i (List.mem_range.2 zp)
   unfold Mm at this
   rw[bq _ _ zp] at this
   simp only[Bool.and_eq_true] at this
   exact Jg zq this.1.2.2
  have hv:=Qr n (by omega) m true s (by omega) (by omega) Uh A7
  generalize iQ m s.opds=vs at*
  simp[aa,hv]
  rw[av s.effs.length (fun k=>⟨[(0,.ref 0 0),(3,.ref 1 0),(9,.map 5),(10,.map 6),(77,.p (.sl (s.effs.map s8))),(78,ai s.effs.length),(79,ai k)],
     [bx (bg ⟨m,(s.effs.take k).all (rz m vs s)⟩),bx (aU s),.arr s.opds.length 1 false ((dP s s.opds.length).map PV.str),.box [.arr 2 s.opds.length 0 (dP s s.opds.length).length],bx (aU s),.map (smap vs),.map (oH (kR (s.effs.take k)))]⟩)
   (.exit 2,⟨[(0,.ref 0 0),(3,.ref 1 0),(9,.map 5),(10,.map 6),(77,.p (.sl (s.effs.map s8))),(78,ai s.effs.length),(79,ai s.effs.length)],
     [bx (bg ⟨m,s.effs.all (rz m vs s)⟩),bx (aU s),.arr s.opds.length 1 false ((dP s s.opds.length).map PV.str),.box [.arr 2 s.opds.length 0 (dP s s.opds.length).length],bx (aU s),.map (smap vs),.map (oH (kR s.effs))]⟩) (by omega) (by simp[aa,HO,oH]) (by
     intro k h K
     have w1:=aA h (by omega)
     obtain⟨x,hx,_,hm⟩:=ay h
     obtain⟨g1,g2,g3⟩:=he x hm
     rw[lg (rz m vs s) h hx,Ev h hx]
     have Up:=LQ n (by omega) m vs ((s.effs.take k).all (rz m vs s)) s x g1 g2 g3 Uh (by omega) (by omega)
     have hc:=q9 x.kind (s.effs.take k)
     have Gz:=CH x.kind (s.effs.take k)
     simp only[List.length_take] at Gz
     generalize kR (s.effs.take k)=ks at*
     have w5:IntKind.i64.wrap (kS x.kind ks+1)=kS x.kind ks+1:=wrap64 (by omega) (by omega)
     generalize (s.effs.take k).all (rz m vs s)=mB at Up ⊢
     simp[aa,h,hx,Up,w1,w5]) (by simp[aa])]
  have WU:=q9 3 s.effs
  have hc4:=q9 4 s.effs
  generalize kR s.effs=ks at*
  unfold Eu cq
  rw[←WU,←hc4]
  generalize s.effs.all (rz m vs s)=mB
  simp[aa,m7,w,w2,ak,Bool.and_assoc]
theorem yU(m:aw):∀(l:List qw) (seen:List ByteArray),iI m seen l=true→∀b∈l,0<b.regs.length∧(List.range b.regs.length).all (uO m b)=true
 |[],_,_,b,hb=>by simp at hb
 |x::r,seen,h,b,hb=>by
  simp only[iI,Bool.and_eq_true] at h
  rcases List.mem_cons.1 hb with rfl|hb
  ·have h1:=h.1
   simp only[yV,Bool.and_eq_true,decide_eq_true_eq] at h1
   exact⟨h1.1.2,h1.2⟩
  ·exact yU m r _ h.2 b hb
theorem yQ{m:aw}(h:iI m [] m.banks=true):zk m:=by
 intro b hb
 obtain⟨h1,h2⟩:=yU m _ _ h b hb
 refine⟨h1,fun r hr=> ?_⟩
 obtain⟨j,hj,rfl⟩:=List.getElem_of_mem hr
 have:=List.all_eq_true.1 h2 j (List.mem_range.2 hj)
 unfold uO at this
 rw[bq _ _ hj] at this
 simp only[Bool.and_eq_true] at this
 have h3:=this.1
 simp only[cq,ak,Bool.and_eq_true,decide_eq_true_eq] at h3
 omega
def vm(m:aw):Bool:=aj (aj (ck m.name) (cq m.word 1 4)) (cE (decide (m.address=16)) (decide (m.address=32)))
def jN(m:aw):Bool:=vm m&&((decide (0<m.regs.length)&&iT m [] m.regs)&&(iI m [] m.banks&&(decide (0<m.units.length)&&kE [] m.units)))
def Lq(m:aw)(k:Nat):Bool:=cW ((m.instrs.take k).map dh.name) (nth m.instrs k).name&&zB m (nth m.instrs k)
def lB(m:aw)(k:Nat):Bool:=jN m&&(List.range k).all (Lq m)
theorem Mg(m:aw)(k:Nat):lB m (k+1)=(lB m k&&Lq m k):=by
 unfold lB;rw[List.range_succ,List.all_append,←Bool.and_assoc];simp
def fu(m:aw):Int:=if lQ m=true then(if lB m m.instrs.length=true then 0 else 8) else 4
theorem Lg(N:Nat)(hN:6000≤N)(m:aw)(hg:Gm m)(he:∀s∈m.instrs,∀x∈s.effs,Gt x.addr∧Gt x.val∧Gt x.cond):
  R N 33 [ag (ah m)] []=some (ai (fu m),[]):=by
 have q1:=hg.regs;have q2:=hg.banks;have q3:=hg.units;have q4:=hg.instrs
 have aa:rows 33=_:=w33.eq_1
 obtain⟨n,rfl⟩:=up N
 rw[aE 33 Tryz.func33 rfl rfl]
 have wq:=fun s=>CZ n s (by omega)
 have w:=iZ n (by omega)
 have h1:=Ol n (by omega) m q2 q4 (fun s hs=>by have:=(hg.ins s hs).opds;omega)
 have h2:=fun ok=>Qs n (by omega) m ok q1
 have h3:=fun ok=>LZ n (by omega) m ok q1 q2 hg.bregs
 have h4:=fun ok=>LR n (by omega) m ok q3
 have m1:∀ok a,_:=sA (N:=n) (by omega) m
 have m3:∀ok a b c,_:=O4 (N:=n) (by omega) m
 unfold fu
 cases c0:lQ m
 ·rw[c0] at h1
  simp[aa,h1]
 rw[c0] at h1
 generalize hQ:lB m m.instrs.length=Q
 have hh:aj (aj (aj true (ck m.name)) (aj (decide (1≤m.word)) (decide (m.word≤4)))) (cE (decide (m.address=16)) (decide (m.address=32)))=vm m:=by
  simp[vm,cq,ak]
 have Dh:(((vm m&&(decide (0<m.regs.length)&&iT m [] m.regs))&&iI m [] m.banks)&&(decide (0<m.units.length)&&kE [] m.units))=lB m 0:=by
  simp[lB,jN,Bool.and_assoc]
 have hh':=hh
 simp at hh'
 simp[aa,h1,wq,w,m3,hh,hh',h2,h3,h4]
 try simp at Dh
 rw[Dh]
 rw[acI m.instrs.length (fun k=> !lB m k) (fun k=>⟨[(3,.ref 1 0),(4,.ref 2 0),(37,.p (.sl (m.instrs.map s7))),(38,ai m.instrs.length),(39,ai k)],
    [bx (ah m),bx (bg ⟨m,lB m k⟩),.box [.arr 3 k 0 k],.arr k 1 false (((m.instrs.take k).map dh.name).map PV.str)]⟩)
  (fun k=>(.exit 0,⟨[(3,.ref 1 0),(4,.ref 2 0),(37,.p (.sl (m.instrs.map s7))),(38,ai m.instrs.length),(39,ai k)],
    [bx (ah m),bx (bg ⟨m,false⟩),.box [.arr 3 k 0 k],.arr k 1 false (((m.instrs.take k).map dh.name).map PV.str)]⟩)) (by omega) (by simp[aa]) (by
    intro k h K
    have w1:=aA h (by omega)
    obtain⟨x,hx,bI,hm⟩:=ay h
    cases hc:lB m k
    ·simp[aa,h,hx]
    ·have hf:=oS n ((m.instrs.take k).map dh.name) (by simp;omega) (by simp;omega) x.name false k
     have hlen:min k m.instrs.length=k:=by omega
     simp only[qR,List.length_map,List.length_take,hlen] at hf
     have ED:1≤m.word∧m.word≤4:=by
      have:=hc;simp only[lB,jN,vm,ak,Bool.and_eq_true] at this
      have:=this.1.1.1.2
      simpa [cq,ak] using this
     have zq:zk m:=by
      have:=hc;simp only[lB,jN,Bool.and_eq_true] at this
      exact yQ this.1.2.2.1
     have A7:∀r∈m.regs,r.name.size≤1000000:=by
      have:=hc;simp only[lB,jN,Bool.and_eq_true] at this
      exact qQ m.regs [] this.1.2.1.2
     have hi:=fun ok=>Pw n (by omega) m A7 ok x hg (hg.ins x hm) (fun _=>ED) (fun _=>zq) (he x hm)
     have eN:lB m (k+1)=(cW ((m.instrs.take k).map dh.name) x.name&&zB m x):=by
      rw[Mg,hc];unfold Lq;rw[bI];rfl
     rw[eN,gD dh.name h hx]
     have jT:((m.instrs.take k).map dh.name).length=k:=by simp;omega
     generalize (m.instrs.take k).map dh.name=seen at hf jT ⊢
     simp[aa,h,hx,hf,m1,hi,w1,jT]) (by simp[aa])]
 have ao6:∀k,k≤m.instrs.length→lB m k=false→lB m m.instrs.length=false:=by
  intro k hk h
  unfold lB at h ⊢
  cases hfp:jN m
  ·rfl
  ·rw[hfp,Bool.true_and] at h
   rw[Bool.true_and]
   simp only[List.all_eq_false,List.mem_range] at h ⊢
   obtain⟨j,hj,hb⟩:=h
   exact⟨j,by omega,hb⟩
 rcases ao (fun k:Nat=> !lB m k) (List.range m.instrs.length) with⟨e1,e2,_⟩|⟨i,e1,e2,_⟩
 ·rw[e1,hQ]
  cases Q<;>simp[aa]
 ·rw[e1]
  have:Q=false:=by
   obtain⟨j,Nq,zo⟩:=List.any_eq_true.1 e2
   rw[←hQ]
   exact ao6 j (by have:=List.mem_range.1 Nq;omega) (by simpa using zo)
  subst this
  simp[aa]
structure Fit(m:aw)(o:n8):Prop where
 pl:o.pieces.length≤100
 num:o.kind≠1→0≤o.scale∧o.scale≤3∧0<bB o.pieces∧bB o.pieces≤40
 reg:o.kind=1→0≤o.bank∧o.bank<m.banks.length
def Hr(m:aw)(s:dh)(l:List Int)(i:Nat):Int:=
 if (nth s.opds i).kind=1 then
  (if ((nth m.banks (nth s.opds i).bank).regs.any fun y=>decide (nth l i=y))=true then(if (decide (0≤(nth s.opds i).tied)&& !decide (nth l (nth s.opds i).tied=nth l i))=true then 40 else 0) else 16)
 else if lS (nth s.opds i) (nth l i)=true then 0 else 24
def DK(m:aw)(op:XW):Int:=
 if cq op.instr 0 (m.instrs.length-1)=true then
  (if op.args.length=(nth m.instrs op.instr).opds.length then(match (List.range (nth m.instrs op.instr).opds.length).findIdx? (fun i=> !decide (Hr m (nth m.instrs op.instr) op.args i=0)) with|some i=>Hr m (nth m.instrs op.instr) op.args i|none=>0) else 2)
 else 6
theorem abz(N:Nat)(m:aw)(op:XW)(hN:1200≤N)(hi:m.instrs.length≤1000)(hb:∀b∈m.banks,b.regs.length≤1000)(hs:∀s∈m.instrs,s.opds.length≤100∧(∀i,i<s.opds.length→Fit m (nth s.opds i)∧((nth s.opds i).kind=1→(nth s.opds i).tied<s.opds.length))):R N 41 [ag (ah m),ag (abm op)] []=some (ai (DK m op),[]):=by
 have aa:rows 41=_:=w41.eq_1
 obtain⟨n,rfl⟩:=up N
 rw[aE 41 Tryz.func41 rfl rfl]
 have hIn:=fun (x a b:Int)=>tr n (by omega) x a b
 have w2:IntKind.i64.wrap ((m.instrs.length:Int)-1)=(m.instrs.length:Int)-1:=wrap64 (by omega) (by omega)
 unfold DK
 by_cases h1:cq op.instr 0 (m.instrs.length-1)=true
 ·rw[if_pos h1]
  have nA:=h1
  simp[cq,ak] at nA
  have h2:op.instr<(m.instrs.length:Int):=by omega
  obtain⟨s,g1,AE,Jw,hm⟩:=aR nA.1 h2
  obtain⟨q1,q2⟩:=hs s hm
  rw[Jw]
  by_cases h3:op.args.length=s.opds.length
  ·rw[if_pos h3]
   simp[aa,hIn,w2,nA.1,nA.2,h2,g1,AE,h3]
   rw[acI s.opds.length (fun i=> !decide (Hr m s op.args i=0)) (fun k=>⟨[(2,.ref 0 0),(3,.ref 1 0),(4,ai 0),(5,.ref 2 0),(6,ai k)],[bx (ah m),bx (abm op),bx (aU s)]⟩)
    (fun k=>(.ret,⟨[(2,.ref 0 0),(3,.ref 1 0),(4,ai (Hr m s op.args k)),(5,.ref 2 0),(6,ai k)],[bx (ah m),bx (abm op),bx (aU s)]⟩)) (by omega) (by simp[aa]) (by
      intro k h K
      have w1:=aA h (by omega)
      obtain⟨o,ho,lM,hom⟩:=ay h
      obtain⟨x,hx,bI,_⟩:=ay (l:=op.args) (k:=k) (by omega)
      obtain⟨f,ht⟩:=q2 k h
      unfold Hr
      rw[lM] at f ht ⊢
      rw[bI]
      by_cases hk:o.kind=1
      ·obtain⟨b0,b1⟩:=f.reg hk
       obtain⟨b,g2,nY,p9,hbm⟩:=aR b0 b1
       have Jy:=Rp n b x (by have:=hb b hbm;omega) (hb b hbm)
       rw[p9]
       have bT:=ht hk
       have hc:(fun y:Int=>decide (x=y))=fun y=>decide (y=x):=by funext y;rw[decide_eq_decide];exact eq_comm
       rw[hc]
       rcases ao (fun y:Int=>decide (y=x)) b.regs with⟨_,e2,e3⟩|⟨j,_,e2,e3⟩
       ·rw[e3] at Jy
        rw[e2]
        simp[aa,h,h3,ho,hx,w1,hk,b0,b1,g2,nY,Jy]
       ·rw[e3] at Jy
        rw[e2]
        have hj:¬((j:Int)<0):=by omega
        by_cases ht0:0≤o.tied
        ·obtain⟨u,g3,hu1,hu2,_⟩:=aR (l:=op.args) ht0 (by omega)
         rw[hu2]
         by_cases hux:u=x<;>simp[aa,h,h3,ho,hx,w1,hk,b0,b1,g2,nY,Jy,hj,ht0,bT,g3,hu1,hux]
        ·simp[aa,h,h3,ho,hx,w1,hk,b0,b1,g2,nY,Jy,hj,ht0]
      ·obtain⟨f1,f2,f3,f4⟩:=f.num hk
       have hr:=L5 n o x f.pl f1 f2 f3 f4 (by omega)
       cases hq:lS o x<;>rw[hq] at hr<;>simp[aa,h,h3,ho,hx,w1,hk,hr]) (by simp[aa])]
   rcases ao (fun i:Nat=> !decide (Hr m s op.args i=0)) (List.range s.opds.length) with⟨e1,_,_⟩|⟨i,e1,_,_⟩<;>simp[aa,e1]
  ·rw[if_neg h3]
   have h4:¬((op.args.length:Int)=(s.opds.length:Int)):=by omega
   simp[aa,hIn,w2,nA.1,nA.2,h2,g1,AE,h3,h4]
 ·rw[if_neg h1]
  have h2:aj (decide (0≤op.instr)) (decide (op.instr≤(m.instrs.length:Int)-1))=false:=by
   rw[←Bool.not_eq_true];intro h;apply h1;simpa [cq,ak] using h
  simp[aa,hIn,w2,h2]
theorem MG(N:Nat)(m:aw)(op:XW)(hN:1200≤N)(hi:m.instrs.length≤1000)(hb:∀b∈m.banks,b.regs.length≤1000)
  (hs:fu m=0→∀s∈m.instrs,s.opds.length≤100∧(∀i,i<s.opds.length→Fit m (nth s.opds i)∧((nth s.opds i).kind=1→(nth s.opds i).tied<s.opds.length)))
  (hc:∀n,N=n+1→R n 33 [ag (ah m)] []=some (ai (fu m),[])):R N 26 [ag (ah m),ag (abm op)] []=some (ai (if fu m=0 then DK m op else fu m),[]):=by
 have aa:rows 26=_:=w26.eq_1
 obtain⟨n,rfl⟩:=up N
 rw[aE 26 Tryz.func26 rfl rfl]
 have hIn:=iZ n (by omega)
 have hc:=hc n rfl
 have w2:IntKind.i64.wrap ((m.instrs.length:Int)-1)=(m.instrs.length:Int)-1:=wrap64 (by omega) (by omega)
 by_cases h0:fu m=0
 rotate_left
 ·rw[if_neg h0]
  simp[aa,hc,h0]
 rw[if_pos h0]
 have hs:=hs h0
 rw[h0] at hc
 unfold DK
 by_cases h1:cq op.instr 0 (m.instrs.length-1)=true
 ·rw[if_pos h1]
  have nA:=h1
  simp[cq,ak] at nA
  have h2:op.instr<(m.instrs.length:Int):=by omega
  obtain⟨s,g1,AE,Jw,hm⟩:=aR nA.1 h2
  obtain⟨q1,q2⟩:=hs s hm
  rw[Jw]
  by_cases h3:op.args.length=s.opds.length
  ·rw[if_pos h3]
   simp[aa,hc,hIn,w2,nA.1,nA.2,h2,g1,AE,h3]
   rw[acI s.opds.length (fun i=> !decide (Hr m s op.args i=0)) (fun k=>⟨[(2,.ref 0 0),(3,.ref 1 0),(4,ai 0),(37,.p (.sl (s.opds.map l_))),(38,ai s.opds.length),(39,ai k)],[bx (ah m),bx (abm op),bx (aU s)]⟩)
    (fun k=>(.ret,⟨[(2,.ref 0 0),(3,.ref 1 0),(4,ai (Hr m s op.args k)),(37,.p (.sl (s.opds.map l_))),(38,ai s.opds.length),(39,ai k)],[bx (ah m),bx (abm op),bx (aU s)]⟩)) (by omega) (by simp[aa]) (by
      intro k h K
      have w1:=aA h (by omega)
      obtain⟨o,ho,lM,hom⟩:=ay h
      obtain⟨x,hx,bI,_⟩:=ay (l:=op.args) (k:=k) (by omega)
      obtain⟨f,ht⟩:=q2 k h
      unfold Hr
      rw[lM] at f ht ⊢
      rw[bI]
      by_cases hk:o.kind=1
      ·obtain⟨b0,b1⟩:=f.reg hk
       obtain⟨b,g2,nY,p9,hbm⟩:=aR b0 b1
       have Jy:=fj n b.regs x (by have:=hb b hbm;omega) (by have:=hb b hbm;omega)
       rw[p9]
       have bT:=ht hk
       cases e2:b.regs.any fun y=>decide (x=y)
       ·rw[e2] at Jy
        simp[aa,h,h3,ho,hx,w1,hk,b0,b1,g2,nY,Jy]
       ·rw[e2] at Jy
        by_cases ht0:0≤o.tied
        ·obtain⟨u,g3,hu1,hu2,_⟩:=aR (l:=op.args) ht0 (by omega)
         rw[hu2]
         by_cases hux:u=x<;>simp[aa,h,h3,ho,hx,w1,hk,b0,b1,g2,nY,Jy,ht0,bT,g3,hu1,hux]
        ·simp[aa,h,h3,ho,hx,w1,hk,b0,b1,g2,nY,Jy,ht0]
      ·obtain⟨f1,f2,f3,f4⟩:=f.num hk
       have hr:=Ot n o x f.pl f1 f2 f3 f4 (by omega)
       cases hq:lS o x<;>rw[hq] at hr<;>simp[aa,h,h3,ho,hx,w1,hk,hr]) (by simp[aa])]
   rcases ao (fun i:Nat=> !decide (Hr m s op.args i=0)) (List.range s.opds.length) with⟨e1,_,_⟩|⟨i,e1,_,_⟩<;>simp[aa,e1]
  ·rw[if_neg h3]
   have h4:¬((op.args.length:Int)=(s.opds.length:Int)):=by omega
   simp[aa,hc,hIn,w2,nA.1,nA.2,h2,g1,AE,h3,h4]
 ·rw[if_neg h1]
  have h2:aj (decide (0≤op.instr)) (decide (op.instr≤(m.instrs.length:Int)-1))=false:=by
   rw[←Bool.not_eq_true];intro h;apply h1;simpa [cq,ak] using h
  simp[aa,hc,hIn,w2,h2]
theorem IG(N:Nat)(m:aw)(op:XW)(hN:1201≤N)(hi:m.instrs.length≤1000)(hb:∀b∈m.banks,b.regs.length≤1000)
  (hs:dG m=0→∀s∈m.instrs,s.opds.length≤100∧(∀i,i<s.opds.length→Fit m (nth s.opds i)∧((nth s.opds i).kind=1→(nth s.opds i).tied<s.opds.length)))
  (hc:∀n,N=n+1→R n 36 [ag (ah m)] []=some (ai (dG m),[])):R N 28 [ag (ah m),ag (abm op)] []=some (ai (if dG m=0 then DK m op else dG m),[]):=by
 have aa:rows 28={}:=rfl
 obtain⟨n,rfl⟩:=up N
 rw[aE 28 Tryz.func28 rfl rfl]
 have hc:=hc n rfl
 by_cases h0:dG m=0
 ·rw[if_pos h0]
  have g:=abz n m op (by omega) hi hb (hs h0)
  simp[aa,hc,h0,g]
 ·rw[if_neg h0]
  simp[aa,hc,h0]
end Go.En.V
