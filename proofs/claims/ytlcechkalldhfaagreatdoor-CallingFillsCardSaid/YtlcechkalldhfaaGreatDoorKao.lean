/- Part of the proof of CallingFills: engine, contracts or law, joined by a program from the texts X42 X46 Y28. -/
import Derived.Test.YtlcechkalldhfaaGreatDoorKaj
import Derived.Test.YtlcechkalldhfaaGreatDoorKak
set_option linter.all false
set_option maxRecDepth 100000
set_option maxHeartbeats 4000000
namespace Go.En.V
open Go.Proofs
def zy(word:Int)(p:rR):Bool:=aj (cq p.len 1 (IntKind.i64.wrap (8*word))) (cq p.pos 0 (IntKind.i64.wrap (IntKind.i64.wrap (8*word)-p.len)))
theorem D_(N:Nat)(hN:200≤N)(o:n8)(word:Int)(hl:o.pieces.length≤100):R N 128 [ag (dI o),ai word] []=some (ab (o.pieces.all (zy word)),[]):=by
 have aa:rows 128=_:=Z8.eq_1
 obtain⟨n,rfl⟩:=up N
 rw[aE 128 Tryz.func128 rfl rfl]
 have hIn:=fun (x a b:Int)=>tr n (by omega) x a b
 simp[aa]
 rw[abD o.pieces (fun p=> !zy word p) (fun k=>⟨[(1,ai word),(2,.ref 0 0),(4,ab false),(5,ai k)],[bx (dI o)]⟩)
  (fun k=>(.ret,⟨[(1,ai word),(2,.ref 0 0),(4,ab false),(5,ai k)],[bx (dI o)]⟩)) (by omega) (by simp[aa]) (by
    intro k x h hx _ hm K
    have w1:=aA h (by omega)
    cases hp:zy word x<;>(have hq:=hp;unfold zy cq at hq;simp[aa,h,hx,hIn,hp,hq,w1])) (by simp[aa])]
 have e:o.pieces.all (zy word)= !(o.pieces.any fun p=> !zy word p):=by rw[Bool.eq_iff_iff];simp
 rw[e]
 rcases ao (fun p=> !zy word p) o.pieces with⟨e1,e2,_⟩|⟨i,e1,e2,_⟩<;>rw[e1,e2]<;>simp[aa]
theorem DJ(N:Nat)(hN:1≤N)(t:Tr):R N 129 [ag (aC t)] []=some (ab (cj t),[]):=by
 have aa:rows 129={}:=rfl
 obtain⟨n,rfl⟩:=up N
 rw[aE 129 Tryz.func129 rfl rfl]
 have e:cj t=aj (aj (aj (aj (aj (decide (t.kind=0)) (decide (t.width=0))) (decide (t.bits=0))) (cc t.name ⟨#[]⟩)) (decide (t.low=0))) (decide (t.sub=[])):=by
  have:decide (0<t.sub.length)= !decide (t.sub=[]):=by cases t.sub<;>simp
  simp only[cj,aK,ak,this,Bool.not_or,Bool.not_not]
 rw[e]
 simp[aa]
def uI(l:List n8)(k:Nat):Bool:=(List.range k).any fun j=>cc (nth l j).name (nth l k).name
def xq(m:aw)(o:n8):Bool:=cE (cE (!ck o.name) (cc o.name ⟨#[112,99]⟩)) (!o.pieces.all (zy m.word))
def jL(m:aw)(s:dh)(i:Nat):Bool:= !(xq m (nth s.opds i)||uI s.opds i)&&cY m s i (nth s.opds i)
theorem BQ(N:Nat)(hN:400≤N)(m:aw)(s:dh)(i:Nat)(hi:i<s.opds.length)(hp:∀o∈s.opds,o.pieces.length≤100)(hb:m.banks.length≤1000)(hs:s.opds.length≤100):
  R N 88 [ag (ah m),ag (aU s),ai i] []=some (ab (jL m s i),[]):=by
 have aa:rows 88=_:=Yq.eq_1
 obtain⟨n,rfl⟩:=up N
 rw[aE 88 Tryz.func88 rfl rfl]
 have hIn:=fun (x a b:Int)=>tr n (by omega) x a b
 have wq:=fun s=>kL n s (by omega)
 obtain⟨o,ho,lM,hom⟩:=ay hi
 have zn:=hp o hom
 have Nj:=D_ n (by omega) o m.word zn
 have zF:=KN n o (by omega) (by omega)
 have w2:IntKind.i64.wrap ((m.banks.length:Int)-1)=(m.banks.length:Int)-1:=wrap64 (by omega) (by omega)
 have w3:IntKind.i64.wrap ((i:Int)-1)=(i:Int)-1:=wrap64 (by omega) (by omega)
 unfold jL
 rw[lM]
 cases c1:xq m o
 ·unfold xq at c1
  simp[aa,hi,ho,wq,Nj,c1,-List.any_eq_true]
  rw[acI i (fun j=>cc (nth s.opds j).name o.name) (fun j=>⟨[(2,ai i),(3,.ref 0 0),(4,.ref 1 0),(6,ab false),(7,.ref 2 0),(8,ai j)],[bx (ah m),bx (aU s),bx (dI o)]⟩)
   (fun j=>(.ret,⟨[(2,ai i),(3,.ref 0 0),(4,.ref 1 0),(6,ab false),(7,.ref 2 0),(8,ai j)],[bx (ah m),bx (aU s),bx (dI o)]⟩)) (by omega) (by simp[aa]) (by
     intro j hj K
     have w4:=aA hj (by omega)
     have iO:j<s.opds.length:=by omega
     obtain⟨y,hy,dV,_⟩:=ay iO
     rw[dV]
     cases hq:cc y.name o.name<;>simp[aa,hj,iO,hy,hq,w4]) (by simp[aa])]
  have ed:uI s.opds i=(List.range i).any (fun j=>cc (nth s.opds j).name o.name):=by unfold uI;rw[lM]
  rw[ed]
  rcases ao (fun j:Nat=>cc (nth s.opds j).name o.name) (List.range i) with⟨e1,e2,_⟩|⟨i',e1,e2,_⟩
  ·rw[e1,e2]
   by_cases k1:o.kind=1
   ·by_cases k2:cq o.bank 0 (m.banks.length-1)=true∧o.scale=0
    ·obtain⟨q1,q2⟩:=k2
     have q1':=q1
     simp[cq,ak] at q1
     have q5:o.bank<(m.banks.length:Int):=by omega
     obtain⟨b,g2,zq,Cp,_⟩:=aR q1.1 q5
     by_cases k3:o.tied=-1
     ·have e:cY m s i o=aj (decide (0<bB o.pieces)) (cE (decide (6<bB o.pieces)) (decide ((b.regs.length:Int)≤IntKind.i64.wrap (1*2^(min (bB o.pieces).toNat 64))))):=by
       unfold cY;rw[if_pos k1,if_pos k3,Cp,q1'];simp[q2,ak,aK]
      rw[e]
      by_cases k4:0<bB o.pieces
      ·by_cases k5:6<bB o.pieces
       ·simp[aa,k1,hIn,w2,q1,q2,k3,zF,k4,k5,q5,g2,zq]
       ·have Mt:=Av n (bB o.pieces) (by omega) (by omega)
        have e6:IntKind.i64.wrap (1*2^(min (bB o.pieces).toNat 64))=2^(bB o.pieces).toNat:=by
         have:min (bB o.pieces).toNat 64=(bB o.pieces).toNat:=by omega
         rw[this,Int.one_mul]
         have h1:(2:Int)^(bB o.pieces).toNat<2^61:=Int.pow_lt_pow_of_lt (by omega) (by omega)
         have h0:(0:Int)≤2^(bB o.pieces).toNat:=Int.pow_nonneg (by omega)
         exact wrap64 (by omega) (by omega)
        rw[e6]
        simp[aa,k1,hIn,w2,q1,q2,k3,zF,k4,k5,q5,g2,zq,Mt]
      ·simp[aa,k1,hIn,w2,q1,q2,k3,zF,k4,q5,g2,zq]
     ·by_cases k4:cq o.tied 0 (i-1)=true∧o.pieces=[]
      ·obtain⟨r0,r3⟩:=k4
       have r0':=r0
       simp[cq,ak] at r0
       have r4:o.tied<(s.opds.length:Int):=by omega
       obtain⟨u,g3,hu,nW,_⟩:=aR r0.1 r4
       have e:cY m s i o=aj (aj (decide (u.kind=1)) (decide (u.bank=o.bank))) (decide (u.tied=-1)):=by
        unfold cY;rw[if_pos k1,if_neg k3,nW,q1',r0',r3];simp[q2,ak,Bool.and_assoc]
       rw[e]
       have r5:o.tied≤(i:Int)-1:=r0.2
       simp[aa,k1,hIn,w2,w3,q1,q2,k3,r0.1,r5,r3,r4,g3,hu]
      ·have e:cY m s i o=false:=by
        unfold cY;rw[if_pos k1,if_neg k3]
        have:(cq o.tied 0 (i-1)&&decide ((o.pieces.length:Int)=0))=false:=by
         rw[←Bool.not_eq_true];intro h;apply k4;simpa using h
        rw[this];simp
       rw[e]
       have c2:cE (!aj (decide (0≤o.tied)) (decide (o.tied≤(i:Int)-1))) (!decide (o.pieces=[]))=true:=by
        rw[aK,←Bool.not_and]
        simp only[Bool.not_eq_true']
        rw[←Bool.not_eq_true];intro h;apply k4;simpa [cq] using h
       have c3:decide (0<o.pieces.length)= !decide (o.pieces=[]):=by cases o.pieces<;>simp
       simp[aa,k1,hIn,w2,w3,q1,q2,k3,c2,c3]
    ·have e:cY m s i o=false:=by
      unfold cY;rw[if_pos k1]
      have:(cq o.bank 0 (m.banks.length-1)&&decide (o.scale=0))=false:=by
       rw[←Bool.not_eq_true];intro h;apply k2;simpa using h
      rw[this];rfl
     rw[e]
     have c2:aj (aj (decide (0≤o.bank)) (decide (o.bank≤(m.banks.length:Int)-1))) (decide (o.scale=0))=false:=by
      rw[←Bool.not_eq_true];intro h;apply k2;simpa [cq,ak] using h
     simp[aa,k1,hIn,w2,c2]
   ·by_cases k2:o.kind=2∨o.kind=3∨o.kind=4
    ·have e:cY m s i o=aj (aj (aj (aj (decide (o.bank=0)) (decide (o.tied=-1))) (aj (decide (0≤o.scale)) (decide (o.scale≤3)))) (decide (0<bB o.pieces))) (decide (IntKind.i64.wrap (bB o.pieces+o.scale)≤m.address)):=by
      unfold cY;rw[if_neg k1,if_pos k2];simp only[cq,ak,Bool.and_assoc]
     rw[e]
     rcases k2 with k2|k2|k2<;>simp[aa,k1,k2,hIn,zF]
    ·have e:cY m s i o=false:=by unfold cY;rw[if_neg k1,if_neg k2]
     rw[e]
     simp only[not_or] at k2
     simp[aa,k1,k2.1,k2.2.1,k2.2.2]
  ·rw[e1,e2]
   simp[aa]
 ·unfold xq at c1
  simp[aa,hi,ho,wq,Nj,c1,-List.any_eq_true]
def oG(m:aw)(s:dh)(nm:ByteArray)(w:Int):Bool:=
 if cc nm ⟨#[112,99]⟩=true then decide (w=m.address)
 else match s.opds.findIdx? (fun o=>cc o.name nm) with
  |some i=>decide (w=iP m (nth s.opds i))
  |none=>match m.regs.findIdx? (fun r=>cc (⟨#[114,46]⟩++r.name) nm) with
   |some i=>decide (w=(nth m.regs i).width)
   |none=>false
theorem Tg(N:Nat)(hN:1000≤N)(m:aw)(s:dh)(nm:ByteArray)(w:Int)(hr:m.regs.length≤500)(hs:s.opds.length≤500)(ho:∀o∈s.opds,CY m o)(hn:∀r∈m.regs,r.name.size≤1000000):
  R N 178 [ag (ah m),ag (aU s),.p (.str nm),ai w] []=some (ab (oG m s nm w),[]):=by
 have aa:rows 178=_:=ZO.eq_1
 obtain⟨n,rfl⟩:=up N
 rw[aE 178 Tryz.func178 rfl rfl]
 unfold oG
 by_cases h0:cc nm ⟨#[112,99]⟩=true
 ·simp[aa,h0]
 ·have h0:cc nm ⟨#[112,99]⟩=false:=by simpa using h0
  simp[aa,h0]
  rw[abD s.opds (fun o=>cc o.name nm) (fun j=>⟨[(2,.p (.str nm)),(3,ai w),(4,.ref 0 0),(5,.ref 1 0),(8,ab false),(9,ai j)],[bx (ah m),bx (aU s)]⟩)
   (fun j=>(.ret,⟨[(2,.p (.str nm)),(3,ai w),(4,.ref 0 0),(5,.ref 1 0),(8,ab (decide (w=iP m (nth s.opds j)))),(9,ai j)],[bx (ah m),bx (aU s)]⟩)) (by omega) (by simp[aa]) (by
     intro j o hj hx bI hm K
     have w4:=aA hj (by omega)
     have hw:=DT n (by omega) m o (ho o hm)
     rw[bI]
     cases hq:cc o.name nm<;>simp[aa,hj,hx,hq,w4,hw]) (by simp[aa])]
  rcases ao (fun o:n8=>cc o.name nm) s.opds with⟨e1,e2,_⟩|⟨i',e1,e2,_⟩
  ·rw[e1]
   simp[aa]
   rw[aJ m.regs (fun r=>cc (⟨#[114,46]⟩++r.name) nm) (fun j=>⟨[(2,.p (.str nm)),(3,ai w),(4,.ref 0 0),(8,ab false),(10,ai j)],[bx (ah m),bx (aU s)]⟩)
    (fun j=>(.ret,⟨[(2,.p (.str nm)),(3,ai w),(4,.ref 0 0),(8,ab (decide (w=(nth m.regs j).width))),(10,ai j)],[bx (ah m),bx (aU s)]⟩))
    (.exit 2,⟨[(2,.p (.str nm)),(3,ai w),(4,.ref 0 0),(8,ab false),(10,ai m.regs.length)],[bx (ah m),bx (aU s)]⟩) (by omega) (by simp[aa]) (by
      intro j r hj hx bI hm K
      have w4:=aA hj (by omega)
      have EL:=hn r hm
      have w2:((⟨#[114,46]⟩:ByteArray).size:Int)+(r.name.size:Int)≤9223372036854775807:=by
       have:(⟨#[114,46]⟩:ByteArray).size=2:=rfl
       omega
      rw[bI]
      cases hq:cc (⟨#[114,46]⟩++r.name) nm<;>simp[aa,hj,hx,hq,w4,w2]) (by simp[aa])]
   rcases ao (fun r:pT=>cc (⟨#[114,46]⟩++r.name) nm) m.regs with⟨e3,e4,_⟩|⟨i',e3,e4,_⟩<;>rw[e3]<;>simp[aa]
  ·rw[e1]
   simp[aa]
def iH(x:Int)(b:Nat):Int:=x/2^b % 2
def oP(b:Nat)(p:rR):Bool:=cq b p.pos (IntKind.i64.wrap (IntKind.i64.wrap (p.pos+p.len)-1))
def gr(b:Nat)(l:List rR):Nat:=eu (fun p=>if oP b p=true then 1 else 0) l
def hJ(b:Nat)(l:List n8):Nat:=eu (fun o=>gr b o.pieces) l
def wM(s:dh)(b:Nat):Int:=iH s.mask b+hJ b s.opds
def jk(m:aw)(s:dh):Bool:= !((List.range (8*m.word).toNat).any fun b=>decide (1<wM s b))
theorem ad6(x:Int)(b:Nat):0≤iH x b∧iH x b≤1:=by unfold iH;omega
theorem JD(b:Nat)(l:List rR):gr b l≤l.length:=by
 have:=py (fun p=>if oP b p=true then 1 else 0) 1 l (fun p _=>by split<;>omega)
 unfold gr;omega
def qv:Nat→AV
 |0=>ab false
 |_+1=>.undef
theorem QM(N:Nat)(hN:1100≤N)(m:aw)(s:dh)(hw:1≤m.word∧m.word≤4)(hm:0≤s.mask∧s.mask<18446744073709551616)(hs:s.opds.length≤100)(hp:∀o∈s.opds,o.pieces.length≤100):
  R N 89 [ag (ah m),ag (aU s)] []=some (ab (jk m s),[]):=by
 have aa:rows 89=_:=Yp.eq_1
 obtain⟨n,rfl⟩:=up N
 rw[aE 89 Tryz.func89 rfl rfl]
 have hIn:=fun (x a b:Int)=>tr n (by omega) x a b
 obtain⟨W,hW⟩:∃W:Nat,8*m.word=W:=⟨(8*m.word).toNat,by omega⟩
 have w8:IntKind.i64.wrap (8*m.word)=W:=by rw[←hW];exact wrap64 (by omega) (by omega)
 have hWn:(8*m.word).toNat=W:=by omega
 have hB:∀b,hJ b s.opds≤100*s.opds.length:=fun b=>py _ 100 _ fun o ho=>by
  have:=JD b o.pieces;have:=hp o ho;omega
 generalize hQ:jk m s=Q
 simp[aa]
 rw[acI W (fun b=>decide (1<wM s b)) (fun k=>⟨[(2,.ref 0 0),(3,.ref 1 0),(4,qv k),(5,ai k)],[bx (ah m),bx (aU s)]⟩)
  (fun k=>(.ret,⟨[(2,.ref 0 0),(3,.ref 1 0),(4,ab false),(5,ai k)],[bx (ah m),bx (aU s)]⟩)) (by omega) (by simp[aa,qv]) (by
    intro k h K
    have w1:IntKind.i64.wrap ((k:Int)+1)=(k:Int)+1:=wrap64 (by omega) (by omega)
    have hb:=IN n s.mask k hm.1 hm.2 (by omega) (by omega)
    have EW:s.mask/2^((k:Int)).toNat % 2=iH s.mask k:=by simp[iH]
    rw[EW] at hb
    have hbb:=ad6 s.mask k
    have hOk:=hB k
    have q1:qv (k+1)=.undef:=rfl
    generalize qv k=Qk
    rw[q1]
    simp[aa,w8,h,hb]
    (rw[av s.opds.length (fun i=>⟨[(2,.ref 0 0),(3,.ref 1 0),(5,ai k),(6,ai (iH s.mask k+hJ k (s.opds.take i))),(7,ai i)],[.box ((ah m).map .p),.box ((aU s).map .p)]⟩)
      (.exit 2,⟨[(2,.ref 0 0),(3,.ref 1 0),(5,ai k),(6,ai (wM s k)),(7,ai s.opds.length)],[.box ((ah m).map .p),.box ((aU s).map .p)]⟩) (by omega) (by simp[aa,hJ,eu]) (by
        intro i hi K
        have w4:=aA hi (by omega)
        obtain⟨o,ho,_,hom⟩:=ay hi
        have zn:=hp o hom
        have e2:hJ k (s.opds.take (i+1))=hJ k (s.opds.take i)+gr k o.pieces:=ff _ hi ho
        have nY:hJ k (s.opds.take i)≤100*100:=by
         have:=tJ (fun o=>gr k o.pieces) s.opds i
         have:eu (fun o=>gr k o.pieces) s.opds≤100*s.opds.length:=hOk
         unfold hJ;omega
        rw[e2]
        generalize hJ k (s.opds.take i)=A at nY ⊢
        simp[aa,hi,ho]
        rw[av o.pieces.length (fun j=>⟨[(2,.ref 0 0),(3,.ref 1 0),(5,ai k),(6,ai (iH s.mask k+A+gr k (o.pieces.take j))),(7,ai i),(8,ai j)],[.box ((ah m).map .p),.box ((aU s).map .p)]⟩)
         (.exit 4,⟨[(2,.ref 0 0),(3,.ref 1 0),(5,ai k),(6,ai (iH s.mask k+A+gr k o.pieces)),(7,ai i),(8,ai o.pieces.length)],[.box ((ah m).map .p),.box ((aU s).map .p)]⟩) (by omega) (by simp[aa,gr,eu]) (by
           intro j hj K
           have w5:=aA hj (by omega)
           obtain⟨p,RA,_,_⟩:=ay hj
           have e3:gr k (o.pieces.take (j+1))=gr k (o.pieces.take j)+(if oP k p=true then 1 else 0):=ff _ hj RA
           have p9:gr k (o.pieces.take j)≤100:=by
            have:=JD k (o.pieces.take j)
            simp only[List.length_take] at this;omega
           rw[e3]
           generalize gr k (o.pieces.take j)=B at p9 ⊢
           cases hc:oP k p
           ·have uy:=hc
            unfold oP cq at uy
            simp[aa,hi,ho,hj,RA,hIn,uy,w5]
           ·have uy:=hc
            unfold oP cq at uy
            have w6:IntKind.i64.wrap (iH s.mask k+A+B+1)=iH s.mask k+A+(B+1):=by rw[wrap64 (by omega) (by omega)];omega
            simp[aa,hi,ho,hj,RA,hIn,uy,w5,w6]) (by simp[aa,hi,ho])]
        simp[aa,w4,Int.add_assoc]) (by simp[aa,wM])]
     by_cases hc:1<wM s k
     ·simp[aa,hc]
     ·simp[aa,hc,w1])) (by
    intro K
    have e:qv W=.undef:=by
     cases W with
     |zero=>omega
     |succ q=>rfl
    rw[e]
    simp[aa,w8])]
 unfold jk at hQ
 rw[hWn] at hQ
 rcases ao (fun b:Nat=>decide (1<wM s b)) (List.range W) with⟨e1,e2,_⟩|⟨i,e1,e2,_⟩
 ·rw[e2] at hQ;subst hQ;rw[e1];simp[aa]
 ·rw[e2] at hQ;subst hQ;rw[e1];simp[aa]
theorem om(w:Int)(h:w≤60):IntKind.i64.wrap (2^min w.toNat 64)=2^w.toNat∧0<(2:Int)^w.toNat∧(2:Int)^w.toNat<2^61:=by
 have e:min w.toNat 64=w.toNat:=by omega
 have h1:(2:Int)^w.toNat<2^61:=Int.pow_lt_pow_of_lt (by omega) (by omega)
 have h0:(0:Int)<2^w.toNat:=Int.pow_pos (by omega)
 rw[e,wrap64 (by omega) (by omega)]
 exact⟨rfl,h0,h1⟩
def lS(o:n8)(x:Int):Bool:=
 decide (x.tmod (2^o.scale.toNat)=0)&&(if o.kind=3 then cq (IntKind.i64.wrap (x.tdiv (2^o.scale.toNat))) 0 (2^(bB o.pieces).toNat-1) else cq (IntKind.i64.wrap (x.tdiv (2^o.scale.toNat))) (-2^((bB o.pieces).toNat-1)) (2^((bB o.pieces).toNat-1)-1))
theorem Ot(N:Nat)(o:n8)(x:Int)(hl:o.pieces.length≤100)(h0:0≤o.scale)(h3:o.scale≤3)(w0:0<bB o.pieces)(w1:bB o.pieces≤40)(hN:200≤N):R N 39 [ag (dI o),ai x] []=some (ab (lS o x),[]):=by
 have aa:rows 39=_:=w39.eq_1
 obtain⟨n,rfl⟩:=up N
 rw[aE 39 Tryz.func39 rfl rfl]
 have hf:=Qc n o (by omega) (by omega)
 have hw:=iZ n (by omega)
 obtain⟨e1,p1,q1⟩:=om o.scale (by omega)
 obtain⟨e2,p2,q2⟩:=om (bB o.pieces) (by omega)
 obtain⟨e3,p3,q3⟩:=om (bB o.pieces-1) (by omega)
 have t1:(bB o.pieces-1).toNat=(bB o.pieces).toNat-1:=by omega
 rw[t1] at e3 p3 q3
 have d1:IntKind.i64.wrap (bB o.pieces-1)=bB o.pieces-1:=wrap64 (by omega) (by omega)
 have d2:IntKind.i64.wrap (2^(bB o.pieces).toNat-1)=2^(bB o.pieces).toNat-1:=wrap64 (by omega) (by omega)
 have d3:IntKind.i64.wrap (2^((bB o.pieces).toNat-1)-1)=2^((bB o.pieces).toNat-1)-1:=wrap64 (by omega) (by omega)
 have d4:IntKind.i64.wrap (-2^((bB o.pieces).toNat-1))=-2^((bB o.pieces).toNat-1):=wrap64 (by omega) (by omega)
 have e4:min ((bB o.pieces).toNat-1) 64=(bB o.pieces).toNat-1:=by omega
 have d5:=e3
 rw[e4] at d5
 have w2:1≤bB o.pieces:=by omega
 have w3:0≤bB o.pieces:=by omega
 have n1:(2:Int)^o.scale.toNat≠0:=by omega
 unfold lS
 by_cases hm:x.tmod (2^o.scale.toNat)=0
 ·by_cases hk:o.kind=3
  ·simp[aa,hf,hw,h0,e1,e2,n1,hm,hk,e3,d1,d2,d3,d4,d5,e4,t1,w2,w3,cq]
  ·simp[aa,hf,hw,h0,e1,e2,n1,hm,hk,e3,d1,d2,d3,d4,d5,e4,t1,w2,w3,cq]
 ·simp[aa,hf,hw,h0,e1,e2,n1,hm]
theorem L5(N:Nat)(o:n8)(x:Int)(hl:o.pieces.length≤100)(h0:0≤o.scale)(h3:o.scale≤3)(w0:0<bB o.pieces)(w1:bB o.pieces≤40)(hN:200≤N):R N 72 [ag (dI o),ai x] []=some (ab (lS o x),[]):=by
 have aa:rows 72=_:=w72.eq_1
 obtain⟨n,rfl⟩:=up N
 rw[aE 72 Tryz.func72 rfl rfl]
 have hf:=KN n o (by omega) (by omega)
 have hw:=fun (x a b:Int)=>tr n (by omega) x a b
 have RA:=Av n o.scale (by omega) (by omega)
 have hp2:=Av n (bB o.pieces) (by omega) (by omega)
 have hp3:=Av n (bB o.pieces-1) (by omega) (by omega)
 have t1:(bB o.pieces-1).toNat=(bB o.pieces).toNat-1:=by omega
 rw[t1] at hp3
 obtain⟨e1,p1,q1⟩:=om o.scale (by omega)
 obtain⟨e2,p2,q2⟩:=om (bB o.pieces) (by omega)
 obtain⟨e3,p3,q3⟩:=om (bB o.pieces-1) (by omega)
 have t1:(bB o.pieces-1).toNat=(bB o.pieces).toNat-1:=by omega
 rw[t1] at e3 p3 q3
 have d1:IntKind.i64.wrap (bB o.pieces-1)=bB o.pieces-1:=wrap64 (by omega) (by omega)
 have d2:IntKind.i64.wrap (2^(bB o.pieces).toNat-1)=2^(bB o.pieces).toNat-1:=wrap64 (by omega) (by omega)
 have d3:IntKind.i64.wrap (2^((bB o.pieces).toNat-1)-1)=2^((bB o.pieces).toNat-1)-1:=wrap64 (by omega) (by omega)
 have d4:IntKind.i64.wrap (-2^((bB o.pieces).toNat-1))=-2^((bB o.pieces).toNat-1):=wrap64 (by omega) (by omega)
 have e4:min ((bB o.pieces).toNat-1) 64=(bB o.pieces).toNat-1:=by omega
 have d5:=e3
 rw[e4] at d5
 have w2:1≤bB o.pieces:=by omega
 have w3:0≤bB o.pieces:=by omega
 have n1:(2:Int)^o.scale.toNat≠0:=by omega
 unfold lS
 by_cases hm:x.tmod (2^o.scale.toNat)=0
 ·by_cases hk:o.kind=3
  ·simp[aa,hf,hw,RA,hp2,hp3,h0,n1,hm,hk,e3,d1,d2,d3,d4,d5,e4,t1,w2,w3,cq]
  ·simp[aa,hf,hw,RA,hp2,hp3,h0,n1,hm,hk,e3,d1,d2,d3,d4,d5,e4,t1,w2,w3,cq]
 ·simp[aa,hf,hw,RA,hp2,hp3,h0,n1,hm]
end Go.En.V
