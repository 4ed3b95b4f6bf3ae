/- Part of the proof of CallingFills: engine, contracts or law, joined by a program from the texts Y10. -/
import Derived.Test.YtlcechkalldhfaaGreatDoorKbf
set_option linter.all false
set_option maxRecDepth 100000
set_option maxHeartbeats 4000000
namespace Go.En.V
open Go.Proofs
theorem ID(d N:Nat)(hN:2*d+6000≤N)(t:Tr)(f:Tr→Tr)(hl:t.sub.length≤1000)(hn:NC (az t f))(hs:∀x∈(az t f).sub,jl x∧Dp d x)
  (hf:∀x∈t.sub,R (N-1) 163 [.agg ((aC x).map .p)] []=some (.agg ((aC (f x)).map .p),[]))
  (jG:5≤t.kind)(jA:t.kind≤8):
  ∃r,R N 163 [.agg ((aC t).map .p)] []=some (.agg ((aC r).map .p),[])∧bh r=stepT (bh (az t f)):=by
 have aa:rows 163=_:=Bl.eq_1
 obtain⟨n,rfl⟩:=up N
 rw[aE 163 Tryz.func163 rfl rfl]
 simp only[Nat.add_sub_cancel] at*
 simp -implicitDefEqProofs[aa]
 simp -implicitDefEqProofs[aa,qo,nw]
 rw[av t.sub.length (fun k=>⟨[(1,.ref 0 0),(2,.ref 1 0),(3,.ref 2 0),(4,ab (dA t f k)),(5,ai k)],
     [.box ((aC t).map .p),.box [.p (.int .u8 0),ai 0,.p (.int .u64 0),.p (.str ⟨#[]⟩),ai 0,.p .nils],.box [.p (.int .u8 t.kind),ai t.width,.p (.int .u64 t.bits),.p (.str t.name),ai t.low,.arr 3 k 0 k],.arr k 6 false (((t.sub.take k).map f).map aT)]⟩)
    (.exit 0,⟨[(1,.ref 0 0),(2,.ref 1 0),(3,.ref 2 0),(4,ab (dA t f t.sub.length)),(5,ai t.sub.length)],
      [.box ((aC t).map .p),.box [.p (.int .u8 0),ai 0,.p (.int .u64 0),.p (.str ⟨#[]⟩),ai 0,.p .nils],.box [.p (.int .u8 t.kind),ai t.width,.p (.int .u64 t.bits),.p (.str t.name),ai t.low,.arr 3 t.sub.length 0 t.sub.length],.arr t.sub.length 6 false ((t.sub.map f).map aT)]⟩) (by omega) (by simp -implicitDefEqProofs[aa,dA]) (by
      intro k h K
      have w1:=aA h (by omega)
      obtain⟨x,hx,_,hm⟩:=ay h
      have bI:=hf x hm
      have b1:(k+1)*72≤1099511627776:=by omega
      have b2:k+1≤1099511627776:=by omega
      have e:(t.sub.take (k+1)).map f=(t.sub.take k).map f++[f x]:=by
       rw[List.take_succ_eq_append_getElem h,hx h];simp
      have e2:dA t f (k+1)=aj (dA t f k) (decide ((f x).kind=1)):=by
       unfold dA
       rw[e,List.all_append,ak,Bool.and_assoc]
       simp
      rw[e,e2]
      have hlen:((t.sub.take k).map f).length=k:=by simp;omega
      generalize (t.sub.take k).map f=A at*
      have ya:aT (f x)=.agg [.int .u8 (f x).kind,.int .i64 (f x).width,.int .u64 (f x).bits,.str (f x).name,.int .i64 (f x).low,fg (f x).z ((f x).sub.map aT)]:=by
       rw[show aT (f x)=.agg (aC (f x)) from rfl,ae (f x)]
      have bW:((k:Int)<(k:Int)+1)=True:=by simp;omega
      cases dA t f k<;>
      simp -implicitDefEqProofs[aa,h,hx,bX t.z h,bI,w1,b1,b2,hlen,ae (f x),ya,bW]) (by simp -implicitDefEqProofs[aa])]
 have hq:(az t f).sub=t.sub.map f:=rfl
 have x8:dA t f t.sub.length=(!decide (t.kind=24)&&(t.sub.map f).all fun x=>decide (x.kind=1)):=by unfold dA;rw[List.take_length]
 by_cases h0:t.kind=24∨t.sub=[]
 ·refine⟨az t f, ?_, ?_⟩
  ·have e0:(aC (az t f)).map AV.p=[.p (.int .u8 t.kind),ai t.width,.p (.int .u64 t.bits),.p (.str t.name),ai t.low,.p (.sl ((t.sub.map f).map aT))]:=by
    unfold az;rw[bA];rfl
   rw[e0]
   rcases h0 with h0|h0
   ·by_cases h1:t.sub=[]
    ·simp -implicitDefEqProofs[aa,ae t,eq_true h0,h1]
    ·simp -implicitDefEqProofs[aa,ae t,eq_true h0,h1]
   ·simp -implicitDefEqProofs[aa,ae t,h0]
  ·rcases h0 with h0|h0
   ·have hc:ez (az t f)=false:=by
     cases h:ez (az t f) with
     |false=>rfl
     |true=>exact absurd h0 ((bV _).1 h).1
    rw[eh (by rw[eD];exact hc)]
    have e:fp (bh (az t f))=[]:=by
     unfold fp
     rw[aM,show(az t f).kind=24 from h0]
     rfl
    rw[e];rfl
   ·have hc:ez (az t f)=false:=by
     cases h:ez (az t f) with
     |false=>rfl
     |true=>exact absurd (by rw[hq,h0];rfl) ((bV _).1 h).2.1
    rw[eh (by rw[eD];exact hc)]
    have e:fp (bh (az t f))=[]:=by
     have dZ:(az t f).sub=[]:=by rw[hq,h0];rfl
     generalize az t f=u at hn dZ
     cases hn<;>first|(simp[aq] at dZ;done)|rfl
    rw[e];rfl
 have mH:¬t.kind=24:=fun h=>h0 (Or.inl h)
 have fB:¬t.sub=[]:=fun h=>h0 (Or.inr h)
 cases hc:ez (az t f) with
 |true=>
  obtain⟨c1,c2,c3⟩:=(bV _).1 hc
  have dz:dA t f t.sub.length=true:=by
   rw[x8]
   simp only[mH,decide_false,Bool.not_false,Bool.true_and,List.all_eq_true,decide_eq_true_eq]
   exact c3
  have gv:=vZ n (by omega) (az t f) hn (fun x hx=>(hs x hx).1) c3 c2 c1
  have gc:=eA n (by omega) t.width (bY (az t f):Nat)
  refine⟨bD t.width (bY (az t f):Nat), ?_, ?_⟩
  ·generalize (bY (az t f):Nat)=V at*
   have e0:(aC (az t f)).map AV.p=[.p (.int .u8 t.kind),ai t.width,.p (.int .u64 t.bits),.p (.str t.name),ai t.low,.p (.sl ((t.sub.map f).map aT))]:=by
    unfold az;rw[bA];rfl
   have en:(aC (bD t.width V)).map AV.p=[.p (.int .u8 1),ai t.width,.p (.int .u64 V),.p (.str ⟨#[]⟩),ai 0,.p .nils]:=by
    unfold bD;rw[bA];rfl
   (unfold ag at gv;rw[e0] at gv)
   (try unfold ag at gc);rw[en] at gc ⊢
   simp -implicitDefEqProofs[aa,ag] at gv gc
   simp -implicitDefEqProofs[aa,ae t,mH,fB,dz,gv,gc]
  ·rw[DA (by rw[eD];exact hc),rU,aL]
   rfl
 |false=>
  have dz:dA t f t.sub.length=false:=by
   cases h:dA t f t.sub.length with
   |false=>rfl
   |true=>
    rw[x8] at h
    simp only[mH,decide_false,Bool.not_false,Bool.true_and,List.all_eq_true,decide_eq_true_eq] at h
    have:ez (az t f)=true:=(bV _).2 ⟨mH,by rw[hq];simpa using fB,h⟩
    rw[hc] at this;exact absurd this (by simp)
  have e0:(aC (az t f)).map AV.p=[.p (.int .u8 t.kind),ai t.width,.p (.int .u64 t.bits),.p (.str t.name),ai t.low,.p (.sl ((t.sub.map f).map aT))]:=by
    unfold az;rw[bA];rfl
  have vo:ez (bh (az t f))=false:=by rw[eD];exact hc
  have EL:=hn
  generalize hu:az t f=u at EL
  cases EL with
  |bin k w z x y h1 h2 k1 k2 hx hy=>
   have nW:=hu
   simp only[az,Tr.mk.injEq] at nW
   obtain⟨tk,tw,tb,tn,tl,tz,ts⟩:=nW
   subst tk;subst tw
   have bC:t.sub.length=2:=by rw[←List.length_map (f:=f),ts];rfl
   rw[ts] at e0
   rw[bC] at dz
   have m9:x∈(az t f).sub:=by rw[hq,ts];simp
   have uq:y∈(az t f).sub:=by rw[hq,ts];simp
   have d_:=c_ d n x y (hs x m9).2 (by omega)
   have g0:=jK n (by omega) x
   have g1:=jK n (by omega) y
   have o0:=jv n (by omega) x (hs x m9).1.wide.1 (hs x m9).1.wide.2
   have o1:=jv n (by omega) y (hs y uq).1.wide.1 (hs y uq).1.wide.2
   have gc:=eA n (by omega) t.width 0
   have gz:=eA n (by omega) 1 0
   have AL:=eA n (by omega) 1 1
   have hZ:(aC (bD t.width 0)).map AV.p=[.p (.int .u8 1),ai t.width,.p (.int .u64 0),.p (.str ⟨#[]⟩),ai 0,.p .nils]:=by unfold bD;rw[bA];rfl
   have hX:∀v,(aC (bD 1 v)).map AV.p=[.p (.int .u8 1),ai 1,.p (.int .u64 v),.p (.str ⟨#[]⟩),ai 0,.p .nils]:=by intro v;unfold bD;rw[bA];rfl
   (unfold ag at gc;rw[hZ] at gc)
   (unfold ag at gz AL;rw[hX] at gz AL)
   rw[ae x,ae y] at d_
   rw[ae x] at g0 o0
   rw[ae y] at g1 o1
   simp -implicitDefEqProofs[aa,ag] at d_ g0 g1 gc gz AL o0 o1
   rw[ts]
   have WD:IntKind.u64.wrap t.width=t.width:=f_ (by omega) (by omega)
   rw[show br x.width=br t.width by rw[hx]] at o0
   rw[show br y.width=br t.width by rw[hy]] at o1
   have bI:=(hs x m9).1
   have dV:=(hs y uq).1
   have hk:t.kind=5∨t.kind=6∨t.kind=7∨t.kind=8:=by omega
   rcases hk with tk|tk|tk|tk
   ·refine⟨pick (az t f) [(bR x 0,y),(bR y 0,x)], ?_, ?_⟩
    have r0:=g0 0
    have r1:=g1 0
    cases c0:bR x 0
    ·rw[c0] at r0
     cases c1:bR y 0
     ·rw[c1] at r1
      simp -implicitDefEqProofs[aa,pick,d_,ae t,tk,dz,bC,gc,gz,e0,hZ,hX,ae x,ae y,c0,c1,r0,r1]
     ·rw[c1] at r1
      simp -implicitDefEqProofs[aa,pick,d_,ae t,tk,dz,bC,gc,gz,e0,hZ,hX,ae x,ae y,c0,c1,r0,r1]
    ·rw[c0] at r0
     simp -implicitDefEqProofs[aa,pick,d_,ae t,tk,dz,bC,gc,gz,e0,hZ,hX,ae x,ae y,c0,r0,r1]
    ·rw[←hu,eh vo]
     refine cD rfl _ _ ?_
     rw[hu,tk]
     exact ru5 t.width z x y
   ·refine⟨pick (az t f) [(bR y 0,x),(aI x y,bD t.width 0)], ?_, ?_⟩
    have r0:=g1 0
    have r1:=d_
    cases c0:bR y 0
    ·rw[c0] at r0
     cases c1:aI x y
     ·rw[c1] at r1
      simp -implicitDefEqProofs[aa,pick,d_,ae t,tk,dz,bC,gc,gz,e0,hZ,hX,ae x,ae y,c0,c1,r0,r1]
     ·rw[c1] at r1
      simp -implicitDefEqProofs[aa,pick,d_,ae t,tk,dz,bC,gc,gz,e0,hZ,hX,ae x,ae y,c0,c1,r0,r1]
    ·rw[c0] at r0
     simp -implicitDefEqProofs[aa,pick,d_,ae t,tk,dz,bC,gc,gz,e0,hZ,hX,ae x,ae y,c0,r0,r1]
    ·rw[←hu,eh vo]
     refine cD rfl _ _ ?_
     rw[hu,tk]
     exact ru6 t.width z x y
   ·refine⟨pick (az t f) [(bR x 0,bD t.width 0),(bR y 0,bD t.width 0),(bR x 1,y),(bR y 1,x)], ?_, ?_⟩
    have r0:=g0 0
    have r1:=g1 0
    have r2:=g0 1
    have r3:=g1 1
    cases c0:bR x 0
    ·rw[c0] at r0
     cases c1:bR y 0
     ·rw[c1] at r1
      cases c2:bR x 1
      ·rw[c2] at r2
       cases c3:bR y 1
       ·rw[c3] at r3
        simp -implicitDefEqProofs[aa,pick,d_,ae t,tk,dz,bC,gc,gz,e0,hZ,hX,ae x,ae y,c0,c1,c2,c3,r0,r1,r2,r3]
       ·rw[c3] at r3
        simp -implicitDefEqProofs[aa,pick,d_,ae t,tk,dz,bC,gc,gz,e0,hZ,hX,ae x,ae y,c0,c1,c2,c3,r0,r1,r2,r3]
      ·rw[c2] at r2
       simp -implicitDefEqProofs[aa,pick,d_,ae t,tk,dz,bC,gc,gz,e0,hZ,hX,ae x,ae y,c0,c1,c2,r0,r1,r2,r3]
     ·rw[c1] at r1
      simp -implicitDefEqProofs[aa,pick,d_,ae t,tk,dz,bC,gc,gz,e0,hZ,hX,ae x,ae y,c0,c1,r0,r1,r2,r3]
    ·rw[c0] at r0
     simp -implicitDefEqProofs[aa,pick,d_,ae t,tk,dz,bC,gc,gz,e0,hZ,hX,ae x,ae y,c0,r0,r1,r2,r3]
    ·rw[←hu,eh vo]
     refine cD rfl _ _ ?_
     rw[hu,tk]
     exact ru7 t.width z x y
   ·refine⟨pick (az t f) [(bR x 0,bD t.width 0),(bR y 0,bD t.width 0),(bR x (br t.width),y),(bR y (br t.width),x),(aI x y,x)], ?_, ?_⟩
    have r0:=g0 0
    have r1:=g1 0
    have r2:=o0
    have r3:=o1
    have r4:=d_
    cases c0:bR x 0
    ·rw[c0] at r0
     cases c1:bR y 0
     ·rw[c1] at r1
      cases c2:bR x (br t.width)
      ·rw[c2] at r2
       cases c3:bR y (br t.width)
       ·rw[c3] at r3
        cases c4:aI x y
        ·rw[c4] at r4
         simp -implicitDefEqProofs[aa,pick,d_,ae t,tk,dz,bC,gc,gz,e0,hZ,hX,ae x,ae y,c0,c1,c2,c3,c4,r0,r1,r2,r3,r4]
        ·rw[c4] at r4
         simp -implicitDefEqProofs[aa,pick,d_,ae t,tk,dz,bC,gc,gz,e0,hZ,hX,ae x,ae y,c0,c1,c2,c3,c4,r0,r1,r2,r3,r4]
       ·rw[c3] at r3
        simp -implicitDefEqProofs[aa,pick,d_,ae t,tk,dz,bC,gc,gz,e0,hZ,hX,ae x,ae y,c0,c1,c2,c3,r0,r1,r2,r3,r4]
      ·rw[c2] at r2
       simp -implicitDefEqProofs[aa,pick,d_,ae t,tk,dz,bC,gc,gz,e0,hZ,hX,ae x,ae y,c0,c1,c2,r0,r1,r2,r3,r4]
     ·rw[c1] at r1
      simp -implicitDefEqProofs[aa,pick,d_,ae t,tk,dz,bC,gc,gz,e0,hZ,hX,ae x,ae y,c0,c1,r0,r1,r2,r3,r4]
    ·rw[c0] at r0
     simp -implicitDefEqProofs[aa,pick,d_,ae t,tk,dz,bC,gc,gz,e0,hZ,hX,ae x,ae y,c0,r0,r1,r2,r3,r4]
    ·rw[←hu,eh vo]
     refine cD rfl _ _ ?_
     rw[hu,tk]
     exact ru8 t.width z x y
  |_=>
   have:=congrArg Tr.kind hu
   simp only[az,aZ] at this
   omega
end Go.En.V
