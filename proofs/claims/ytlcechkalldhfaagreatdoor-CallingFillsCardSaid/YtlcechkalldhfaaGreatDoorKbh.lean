/- Part of the proof of CallingFills: engine, contracts or law, joined by a program from the texts Y13. -/
import Derived.Test.YtlcechkalldhfaaGreatDoorKbf
set_option linter.all false
set_option maxRecDepth 100000
set_option maxHeartbeats 4000000
namespace Go.En.V
open Go.Proofs
theorem IE(d N:Nat)(hN:2*d+6000≤N)(t:Tr)(f:Tr→Tr)(hl:t.sub.length≤1000)(hn:NC (az t f))(hs:∀x∈(az t f).sub,jl x∧Dp d x)
  (hf:∀x∈t.sub,R (N-1) 163 [.agg ((aC x).map .p)] []=some (.agg ((aC (f x)).map .p),[]))
  (jG:t.kind<5∨18<t.kind):
  ∃r,R N 163 [.agg ((aC t).map .p)] []=some (.agg ((aC r).map .p),[])∧bh r=stepT (bh (az t f)):=by
 have aa:rows 163=_:=Bl.eq_1
 obtain⟨n,rfl⟩:=up N
 rw[aE 163 Tryz.func163 rfl rfl]
 simp only[Nat.add_sub_cancel] at*
 simp -implicitDefEqProofs[aa]
 simp -implicitDefEqProofs[aa,qo,nw]
 rw[av t.sub.length (fun k=>⟨[(1,.ref 0 0),(2,.ref 1 0),(3,.ref 2 0),(4,ab (dA t f k)),(5,ai k)],
     [.box ((aC t).map .p),.box [.p (.int .u8 0),ai 0,.p (.int .u64 0),.p (.str ⟨#[]⟩),ai 0,.p .nils],.box [.p (.int .u8 t.kind),ai t.width,.p (.int .u64 t.bits),.p (.str t.name),ai t.low,.arr 3 k 0 k],.arr k 6 false (((t.sub.take k).map f).map aT)]⟩)
    (.exit 0,⟨[(1,.ref 0 0),(2,.ref 1 0),(3,.ref 2 0),(4,ab (dA t f t.sub.length)),(5,ai t.sub.length)],
      [.box ((aC t).map .p),.box [.p (.int .u8 0),ai 0,.p (.int .u64 0),.p (.str ⟨#[]⟩),ai 0,.p .nils],.box [.p (.int .u8 t.kind),ai t.width,.p (.int .u64 t.bits),.p (.str t.name),ai t.low,.arr 3 t.sub.length 0 t.sub.length],.arr t.sub.length 6 false ((t.sub.map f).map aT)]⟩) (by omega) (by simp -implicitDefEqProofs[aa,dA]) (by
      intro k h K
      have w1:=aA h (by omega)
      obtain⟨x,hx,_,hm⟩:=ay h
      have bI:=hf x hm
      have b1:(k+1)*72≤1099511627776:=by omega
      have b2:k+1≤1099511627776:=by omega
      have e:(t.sub.take (k+1)).map f=(t.sub.take k).map f++[f x]:=by
       rw[List.take_succ_eq_append_getElem h,hx h];simp
      have e2:dA t f (k+1)=aj (dA t f k) (decide ((f x).kind=1)):=by
       unfold dA
       rw[e,List.all_append,ak,Bool.and_assoc]
       simp
      rw[e,e2]
      have hlen:((t.sub.take k).map f).length=k:=by simp;omega
      generalize (t.sub.take k).map f=A at*
      have ya:aT (f x)=.agg [.int .u8 (f x).kind,.int .i64 (f x).width,.int .u64 (f x).bits,.str (f x).name,.int .i64 (f x).low,fg (f x).z ((f x).sub.map aT)]:=by
       rw[show aT (f x)=.agg (aC (f x)) from rfl,ae (f x)]
      have bW:((k:Int)<(k:Int)+1)=True:=by simp;omega
      cases dA t f k<;>
      simp -implicitDefEqProofs[aa,h,hx,bX t.z h,bI,w1,b1,b2,hlen,ae (f x),ya,bW]) (by simp -implicitDefEqProofs[aa])]
 have hq:(az t f).sub=t.sub.map f:=rfl
 have x8:dA t f t.sub.length=(!decide (t.kind=24)&&(t.sub.map f).all fun x=>decide (x.kind=1)):=by unfold dA;rw[List.take_length]
 by_cases h0:t.kind=24∨t.sub=[]
 ·refine⟨az t f, ?_, ?_⟩
  ·have e0:(aC (az t f)).map AV.p=[.p (.int .u8 t.kind),ai t.width,.p (.int .u64 t.bits),.p (.str t.name),ai t.low,.p (.sl ((t.sub.map f).map aT))]:=by
    unfold az;rw[bA];rfl
   rw[e0]
   rcases h0 with h0|h0
   ·by_cases h1:t.sub=[]
    ·simp -implicitDefEqProofs[aa,ae t,eq_true h0,h1]
    ·simp -implicitDefEqProofs[aa,ae t,eq_true h0,h1]
   ·simp -implicitDefEqProofs[aa,ae t,h0]
  ·rcases h0 with h0|h0
   ·have hc:ez (az t f)=false:=by
     cases h:ez (az t f) with
     |false=>rfl
     |true=>exact absurd h0 ((bV _).1 h).1
    rw[eh (by rw[eD];exact hc)]
    have e:fp (bh (az t f))=[]:=by
     unfold fp
     rw[aM,show(az t f).kind=24 from h0]
     rfl
    rw[e];rfl
   ·have hc:ez (az t f)=false:=by
     cases h:ez (az t f) with
     |false=>rfl
     |true=>exact absurd (by rw[hq,h0];rfl) ((bV _).1 h).2.1
    rw[eh (by rw[eD];exact hc)]
    have e:fp (bh (az t f))=[]:=by
     have dZ:(az t f).sub=[]:=by rw[hq,h0];rfl
     generalize az t f=u at hn dZ
     cases hn<;>first|(simp[aq] at dZ;done)|rfl
    rw[e];rfl
 have mH:¬t.kind=24:=fun h=>h0 (Or.inl h)
 have fB:¬t.sub=[]:=fun h=>h0 (Or.inr h)
 cases hc:ez (az t f) with
 |true=>
  obtain⟨c1,c2,c3⟩:=(bV _).1 hc
  have dz:dA t f t.sub.length=true:=by
   rw[x8]
   simp only[mH,decide_false,Bool.not_false,Bool.true_and,List.all_eq_true,decide_eq_true_eq]
   exact c3
  have gv:=vZ n (by omega) (az t f) hn (fun x hx=>(hs x hx).1) c3 c2 c1
  have gc:=eA n (by omega) t.width (bY (az t f):Nat)
  refine⟨bD t.width (bY (az t f):Nat), ?_, ?_⟩
  ·generalize (bY (az t f):Nat)=V at*
   have e0:(aC (az t f)).map AV.p=[.p (.int .u8 t.kind),ai t.width,.p (.int .u64 t.bits),.p (.str t.name),ai t.low,.p (.sl ((t.sub.map f).map aT))]:=by
    unfold az;rw[bA];rfl
   have en:(aC (bD t.width V)).map AV.p=[.p (.int .u8 1),ai t.width,.p (.int .u64 V),.p (.str ⟨#[]⟩),ai 0,.p .nils]:=by
    unfold bD;rw[bA];rfl
   (unfold ag at gv;rw[e0] at gv)
   (try unfold ag at gc);rw[en] at gc ⊢
   simp -implicitDefEqProofs[aa,ag] at gv gc
   simp -implicitDefEqProofs[aa,ae t,mH,fB,dz,gv,gc]
  ·rw[DA (by rw[eD];exact hc),rU,aL]
   rfl
 |false=>
  have dz:dA t f t.sub.length=false:=by
   cases h:dA t f t.sub.length with
   |false=>rfl
   |true=>
    rw[x8] at h
    simp only[mH,decide_false,Bool.not_false,Bool.true_and,List.all_eq_true,decide_eq_true_eq] at h
    have:ez (az t f)=true:=(bV _).2 ⟨mH,by rw[hq];simpa using fB,h⟩
    rw[hc] at this;exact absurd this (by simp)
  have e0:(aC (az t f)).map AV.p=[.p (.int .u8 t.kind),ai t.width,.p (.int .u64 t.bits),.p (.str t.name),ai t.low,.p (.sl ((t.sub.map f).map aT))]:=by
    unfold az;rw[bA];rfl
  have vo:ez (bh (az t f))=false:=by rw[eD];exact hc
  have EL:=hn
  generalize hu:az t f=u at EL
  cases EL with
  |con w b z=>
   simp only[az,Tr.mk.injEq] at hu
   exact absurd (List.map_eq_nil_iff.1 hu.2.2.2.2.2.2) fB
  |var w n z=>
   simp only[az,Tr.mk.injEq] at hu
   exact absurd (List.map_eq_nil_iff.1 hu.2.2.2.2.2.2) fB
  |ld w z x=>
   simp only[az,Tr.mk.injEq] at hu
   exact absurd hu.1 mH
  |bin=>
   have:=congrArg Tr.kind hu
   simp only[az,aZ] at this
   omega
  |cmp=>
   have:=congrArg Tr.kind hu
   simp only[az,aZ] at this
   omega
  |un k w z x h1 h2 hk hx=>
   have nW:=hu
   simp only[az,Tr.mk.injEq] at nW
   obtain⟨tk,tw,tb,tn,tl,tz,ts⟩:=nW
   subst tk;subst tw
   have bC:t.sub.length=1:=by rw[←List.length_map (f:=f),ts];rfl
   rw[ts] at e0
   rw[bC] at dz
   have m9:x∈(az t f).sub:=by rw[hq,ts];simp
   have xw:=(hs x m9).1
   have ex:∃c r,x.kind=t.kind→x.sub=c::r:=by
    by_cases h:x.kind=t.kind
    ·obtain⟨c,hc,_⟩:=xw.nc.un_inv (by omega)
     exact⟨c,[],fun _=>hc⟩
    ·exact⟨default,[],fun h'=>absurd h' h⟩
   obtain⟨c,r,hc⟩:=ex
   refine⟨pick (az t f) [(decide (x.kind=t.kind),c)], ?_, ?_⟩
   ·rw[ts]
    by_cases M_:x.kind=t.kind
    ·have hc:=hc M_
     rcases hk with tk|tk<;>(rw[tk] at M_;simp -implicitDefEqProofs[aa,pick,ae t,tk,dz,bC,e0,ae x,eq_true M_,hc,bU])
    ·rcases hk with tk|tk<;>(rw[tk] at M_;simp -implicitDefEqProofs[aa,pick,ae t,tk,dz,bC,e0,ae x,M_])
   ·rw[←hu,eh vo]
    refine cD rfl _ _ ?_
    have PH:fp (bh (.mk t.kind t.width 0 ⟨#[]⟩ 0 z [x]))=[(decide (x.kind=t.kind),nth (x.sub.map bh) 0)]:=by
     rcases hk with h|h<;>(rw[h,←fo,←aM x];rfl)
    rw[hu,PH]
    refine⟨⟨rfl,fun h=> ?_⟩,trivial⟩
    rw[hc (of_decide_eq_true h)];rfl
  |ite w z x y v h1 h2 hx hy hv=>
   have nW:=hu
   simp only[az,Tr.mk.injEq] at nW
   obtain⟨tk,tw,tb,tn,tl,tz,ts⟩:=nW
   subst tw
   have bC:t.sub.length=3:=by rw[←List.length_map (f:=f),ts];rfl
   rw[ts] at e0
   rw[bC] at dz
   have m9:x∈(az t f).sub:=by rw[hq,ts];simp
   have xw:=(hs x m9).1
   have uq:y∈(az t f).sub:=by rw[hq,ts];simp
   have yw:=(hs y uq).1
   have hvm:v∈(az t f).sub:=by rw[hq,ts];simp
   have vw:=(hs v hvm).1
   have d_:=c_ d n x y (hs x m9).2 (by omega)
   have WT:=c_ d n y v (hs y uq).2 (by omega)
   have r0:=jK n (by omega) x 1
   have r1:=jK n (by omega) x 0
   rw[ae x,ae y] at d_
   rw[ae y,ae v] at WT
   rw[ae x] at r0 r1
   simp -implicitDefEqProofs[aa,ag] at d_ WT r0 r1
   refine⟨pick (az t f) [(bR x 1,y),(bR x 0,v),(aI y v,y)], ?_, ?_⟩
   ·rw[ts]
    cases c0:bR x 1
    ·cases c1:bR x 0
     ·cases c2:aI y v<;>rw[c0] at r0<;>rw[c1] at r1<;>rw[c2] at WT<;>simp -implicitDefEqProofs[aa,pick,ae t,tk,dz,bC,e0,ae x,ae y,ae v,d_,WT,r0,r1]
     ·rw[c0] at r0
      rw[c1] at r1
      simp -implicitDefEqProofs[aa,pick,ae t,tk,dz,bC,e0,ae x,ae y,ae v,d_,r0,r1]
    ·rw[c0] at r0
     simp -implicitDefEqProofs[aa,pick,ae t,tk,dz,bC,e0,ae x,ae y,ae v,d_,r0]
   ·rw[←hu,eh vo,hu]
    have PH:fp (bh (.mk 19 t.width 0 ⟨#[]⟩ 0 z [x,y,v]))=[(bR (bh x) 1||(bR (bh x) 0||aI (bh y) (bh v)),if bR (bh x) 1=true then bh y else bh v)]:=rfl
    rw[PH,cd,cd,bL]
    cases c0:bR x 1
    ·cases c1:bR x 0
     ·cases c2:aI y v
      ·simp[pick]
      ·have e:=Oz (bh y) (bh v) (VQ y) (VQ v) (by rw[bL];exact c2)
       simp[pick,e]
     ·simp[pick]
    ·simp[pick]
  |cat w z x y h1 h2 hx hy hw=>
   have nW:=hu
   simp only[az,Tr.mk.injEq] at nW
   obtain⟨tk,tw,tb,tn,tl,tz,ts⟩:=nW
   subst tw
   have bC:t.sub.length=2:=by rw[←List.length_map (f:=f),ts];rfl
   rw[ts] at e0
   rw[bC] at dz
   have m9:x∈(az t f).sub:=by rw[hq,ts];simp
   have xw:=(hs x m9).1
   have uq:y∈(az t f).sub:=by rw[hq,ts];simp
   have yw:=(hs y uq).1
   have d_:=c_ d n x y (hs x m9).2 (by omega)
   have r1:=jK n (by omega) x 0
   rw[ae x,ae y] at d_
   rw[ae x] at r1
   simp -implicitDefEqProofs[aa,ag] at d_ r1
   have hb:y.kind=22→∃x,y.sub=[x]:=fun h=>by
    obtain⟨c,hc,_⟩:=yw.nc.wid_inv (Or.inl h)
    exact⟨c,hc⟩
   have ej:∀v,(aC (.mk 22 t.width 0 ⟨#[]⟩ 0 false [v])).map AV.p=[.p (.int .u8 22),ai t.width,.p (.int .u64 0),.p (.str ⟨#[]⟩),ai 0,.p (.sl [aT v])]:=by
    intro v;rw[bA];rfl
   refine⟨pick (az t f) [(bR x 0,.mk 22 t.width 0 ⟨#[]⟩ 0 false [gF y])], ?_, ?_⟩
   ·rw[ts]
    cases c1:bR x 0<;>rw[c1] at r1
    ·simp -implicitDefEqProofs[aa,pick,ae t,tk,dz,bC,e0,ae x,ae y,d_,r1]
    ·by_cases hk:y.kind=22
     ·obtain⟨q,Ud⟩:=hb hk
      have XJ:gF y=q:=by unfold gF;rw[if_pos hk,Ud];rfl
      have RV:aT q=.agg [.int .u8 q.kind,.int .i64 q.width,.int .u64 q.bits,.str q.name,.int .i64 q.low,fg q.z (q.sub.map aT)]:=by
       rw[show aT q=.agg (aC q) from rfl,ae q]
      simp[Ud,bU,RV] at d_
      simp -implicitDefEqProofs[aa,pick,ae t,tk,dz,bC,e0,ae x,ae y,d_,r1,eq_true hk,Ud,XJ,bU,ej,RV,ae q]
     ·have XJ:gF y=y:=by unfold gF;rw[if_neg hk]
      have RV:aT y=.agg [.int .u8 y.kind,.int .i64 y.width,.int .u64 y.bits,.str y.name,.int .i64 y.low,fg y.z (y.sub.map aT)]:=by
       rw[show aT y=.agg (aC y) from rfl,ae y]
      simp -implicitDefEqProofs[aa,pick,ae t,tk,dz,bC,e0,ae x,ae y,d_,r1,hk,XJ,ej,RV]
   ·rw[←hu,eh vo,hu]
    have PH:fp (bh (.mk 20 t.width 0 ⟨#[]⟩ 0 z [x,y]))=[(bR (bh x) 0,.mk 22 t.width 0 ⟨#[]⟩ 0 false [gF (bh y)])]:=rfl
    rw[←hu]
    refine cD rfl _ _ ?_
    rw[hu,PH,IY (fun h=>by obtain⟨c,hc⟩:=hb h;exact⟨c,[],hc⟩),cd]
    exact⟨⟨rfl,fun _=>rfl⟩,trivial⟩
  |ext w l z x h1 h2 hl hx tt hw=>
   have nW:=hu
   simp only[az,Tr.mk.injEq] at nW
   obtain⟨tk,tw,tb,tn,tl,tz,ts⟩:=nW
   subst tw;subst tl
   have bC:t.sub.length=1:=by rw[←List.length_map (f:=f),ts];rfl
   rw[ts] at e0
   rw[bC] at dz
   have m9:x∈(az t f).sub:=by rw[hq,ts];simp
   have xw:=(hs x m9).1
   have wo:x.kind=21→IntKind.i64.wrap (t.low+x.low)=t.low+x.low:=fun h=>by
    obtain⟨q,Ud,h3,h4,h5,h6⟩:=xw.nc.ext_inv h
    have:=xw.wide
    exact wrap64 (by omega) (by omega)
   have ej:∀l,(aC (.mk 21 t.width 0 ⟨#[]⟩ l x.z x.sub)).map AV.p=[.p (.int .u8 21),ai t.width,.p (.int .u64 0),.p (.str ⟨#[]⟩),ai l,.p (fg x.z (x.sub.map aT))]:=by
    intro l;rw[bA];rfl
   refine⟨pick (az t f) [(decide (x.width=t.width),x),(decide (x.kind=21),.mk 21 t.width 0 ⟨#[]⟩ (t.low+x.low) x.z x.sub)], ?_, ?_⟩
   ·rw[ts]
    by_cases c0:x.width=t.width
    ·simp -implicitDefEqProofs[aa,pick,ae t,tk,dz,bC,e0,ae x,ej,eq_true c0]
    ·by_cases c1:x.kind=21
     ·have wo:=wo c1
      simp -implicitDefEqProofs[aa,pick,ae t,tk,dz,bC,e0,ae x,ej,c0,eq_true c1,wo]
     ·simp -implicitDefEqProofs[aa,pick,ae t,tk,dz,bC,e0,ae x,ej,c0,c1]
   ·rw[←hu,eh vo]
    refine cD rfl _ _ ?_
    have PH:fp (bh (.mk 21 t.width 0 ⟨#[]⟩ t.low z [x]))=[(decide ((bh x).width=t.width),bh x),(decide ((bh x).kind=21),.mk 21 t.width 0 ⟨#[]⟩ (t.low+(bh x).low) false (bh x).sub)]:=by
     rfl
    rw[hu,PH,aL,aM,bZ,fo]
    refine⟨⟨rfl,fun _=>rfl⟩,⟨rfl,fun h=> ?_⟩,trivial⟩
    rw[jI];rfl
  |wid k w z x h1 h2 hk hx=>
   have nW:=hu
   simp only[az,Tr.mk.injEq] at nW
   obtain⟨tk,tw,tb,tn,tl,tz,ts⟩:=nW
   subst tk;subst tw
   have bC:t.sub.length=1:=by rw[←List.length_map (f:=f),ts];rfl
   rw[ts] at e0
   rw[bC] at dz
   have m9:x∈(az t f).sub:=by rw[hq,ts];simp
   have xw:=(hs x m9).1
   have wo:x.kind=t.kind→IntKind.i64.wrap (0+x.low)=0+x.low:=fun h=>by
    obtain⟨q,Ud,h3,h4⟩:=xw.nc.wid_inv (by omega)
    have:=xw.wide
    exact wrap64 (by omega) (by omega)
   have ej:∀l,(aC (.mk t.kind t.width 0 ⟨#[]⟩ l x.z x.sub)).map AV.p=[.p (.int .u8 t.kind),ai t.width,.p (.int .u64 0),.p (.str ⟨#[]⟩),ai l,.p (fg x.z (x.sub.map aT))]:=by
    intro l;rw[bA];rfl
   refine⟨pick (az t f) [(decide (x.width=t.width),x),(decide (x.kind=t.kind),.mk t.kind t.width 0 ⟨#[]⟩ (0+x.low) x.z x.sub)], ?_, ?_⟩
   ·rw[ts]
    by_cases c0:x.width=t.width
    ·rcases hk with tk|tk<;>simp -implicitDefEqProofs[aa,pick,ae t,tk,dz,bC,e0,ae x,ej,eq_true c0]
    ·by_cases c1:x.kind=t.kind
     ·have wo:=wo c1
      rcases hk with tk|tk<;>(rw[tk] at c1;simp -implicitDefEqProofs[aa,pick,ae t,tk,dz,bC,e0,ae x,ej,tl,c0,eq_true c1];simp at wo;simp[wo,bA])
     ·rcases hk with tk|tk<;>(rw[tk] at c1;simp -implicitDefEqProofs[aa,pick,ae t,tk,dz,bC,e0,ae x,ej,c0,c1])
   ·rw[←hu,eh vo]
    refine cD rfl _ _ ?_
    have PH:fp (bh (.mk t.kind t.width 0 ⟨#[]⟩ 0 z [x]))=[(decide ((bh x).width=t.width),bh x),(decide ((bh x).kind=t.kind),.mk t.kind t.width 0 ⟨#[]⟩ (0+(bh x).low) false (bh x).sub)]:=by
     rcases hk with h|h<;>(rw[h];rfl)
    rw[hu,PH,aL,aM,bZ,fo]
    refine⟨⟨rfl,fun _=>rfl⟩,⟨rfl,fun h=> ?_⟩,trivial⟩
    rw[jI];rfl
end Go.En.V
