/- Part of the proof of CallingFills: engine, contracts or law, joined by a program from the texts X38. -/
import Derived.Test.YtlcechkalldhfaaGreatDoorKaj
set_option linter.all false
set_option maxRecDepth 100000
set_option maxHeartbeats 4000000
namespace Go.En.V
open Go.Proofs
def OG(w x:Int):Bool:=aj (aj (decide (1≤w)) (decide (w≤64))) (cE (decide (w=64)) (decide (x<2^w.toNat % 18446744073709551616)))
def pZ(t:Tr):Bool:=cE (cE (cE (cE (cE (decide (t.kind<3)) (decide (24<t.kind))) (!decide (t.bits=0))) (!cc t.name ⟨#[]⟩)) (aj (!decide (t.low=0)) (!decide (t.kind=21)))) (decide ((t.sub.length:Int)=0))
def ru(t:Tr):Bool:=
 if t.kind=3∨t.kind=4 then aj (decide ((t.sub.length:Int)=1)) (decide ((nth t.sub 0).width=t.width))
 else if t.kind=16∨t.kind=17∨t.kind=18 then aj (aj (decide ((t.sub.length:Int)=2)) (decide (t.width=1))) (decide ((nth t.sub 1).width=(nth t.sub 0).width))
 else if t.kind=19 then aj (aj (aj (decide ((t.sub.length:Int)=3)) (decide ((nth t.sub 0).width=1))) (decide ((nth t.sub 1).width=t.width))) (decide ((nth t.sub 2).width=t.width))
 else if t.kind=20 then aj (decide ((t.sub.length:Int)=2)) (decide (IntKind.i64.wrap ((nth t.sub 0).width+(nth t.sub 1).width)=t.width))
 else if t.kind=21 then aj (aj (aj (decide ((t.sub.length:Int)=1)) (decide (0≤t.low))) (decide (t.low≤(nth t.sub 0).width))) (decide (IntKind.i64.wrap (t.low+t.width)≤(nth t.sub 0).width))
 else if t.kind=22∨t.kind=23 then aj (decide ((t.sub.length:Int)=1)) (decide ((nth t.sub 0).width≤t.width))
 else if t.kind=24 then aj (decide ((t.sub.length:Int)=1)) (gE t.width)
 else aj (aj (decide ((t.sub.length:Int)=2)) (decide ((nth t.sub 0).width=t.width))) (decide ((nth t.sub 1).width=t.width))
def qp(t:Tr):Bool:=
 if cI t.width=true then
  if t.kind=1 then aj (aj (aj (decide ((t.sub.length:Int)=0)) (cc t.name ⟨#[]⟩)) (decide (t.low=0))) (OG t.width t.bits)
  else if t.kind=2 then aj (aj (aj (decide ((t.sub.length:Int)=0)) (decide (t.bits=0))) (decide (t.low=0))) (nQ t.name)
  else if pZ t=true then false
  else ru t
 else false
mutual
def nT:Tr→Bool
 | .mk k w b n l z s=>ym s&&qp (.mk k w b n l z s)
def ym:List Tr→Bool
 |[]=>true
 |x::r=>nT x&&ym r
end
theorem P_(t:Tr):nT t=(ym t.sub&&qp t):=by cases t;simp only[nT,Tr.sub]
theorem LM(l:List Tr):ym l= !l.any (fun x=> !nT x):=by
 induction l with
 |nil=>rfl
 |cons x l ih=>simp[ym,ih]
theorem Nm:∀(d N:Nat) (t:Tr),Dp d t→d+2100≤N→R N 176 [ag (aC t)] []=some (ab (nT t),[]):=by
 intro d
 induction d with
 |zero=>intro N t h;exact h.elim
 |succ d ih=>
  intro N t ht hN
  have hl:=ht.1
  have aa:rows 176=_:=ZQ.eq_1
  obtain⟨n,rfl⟩:=up N
  rw[aE 176 Tryz.func176 rfl rfl]
  have hw:=w_ n (by omega) t.width
  have ho:=OR n (by omega) t.width t.bits
  have hv:=BM n (by omega) t.name
  have wo:=KD n (by omega) t.width
  simp[aa]
  rw[abD t.sub (fun x=> !nT x) (fun k=>⟨[(1,.ref 0 0),(2,ab false),(3,ai k)],[bx (aC t)]⟩)
   (fun k=>(.ret,⟨[(1,.ref 0 0),(2,ab false),(3,ai k)],[bx (aC t)]⟩)) (by omega) (by simp) (by
     intro k x h hx _ hm K
     have w1:=aA h (by omega)
     have bI:=ih n x (ht.2 x hm) (by omega)
     cases hp:nT x<;>rw[hp] at bI<;>simp[aa,h,hx,bX t.z h,bI,w1]) (by simp)]
  rw[P_,LM]
  rcases ao (fun x=> !nT x) t.sub with⟨e1,e2,_⟩|⟨i,e1,e2,_⟩
  ·rw[e1,e2]
   cases ED:aj (decide (1≤t.width)) (decide (t.width≤64))
   ·rw[ED] at hw
    have e:qp t=false:=by simp[qp,cI,ED]
    rw[e]
    simp[aa,hw]
   ·rw[ED] at hw
    have T9:cI t.width=true:=ED
    by_cases k1:t.kind=1
    ·have e:qp t=aj (aj (aj (decide ((t.sub.length:Int)=0)) (cc t.name ⟨#[]⟩)) (decide (t.low=0))) (OG t.width t.bits):=by simp only[qp,T9,if_true,k1]
     rw[e]
     unfold OG
     simp[aa,hw,k1,ho]
    ·by_cases k2:t.kind=2
     ·have e:qp t=aj (aj (aj (decide ((t.sub.length:Int)=0)) (decide (t.bits=0))) (decide (t.low=0))) (nQ t.name):=by simp only[qp,T9,if_true,k2];rfl
      rw[e]
      simp[aa,hw,k1,k2,hv]
     ·by_cases sN:pZ t=true
      ·have e:qp t=false:=by simp only[qp,T9,if_true,k1,k2,sN,if_false]
       rw[e]
       have PM:=sN
       unfold pZ at PM
       have el:decide ((t.sub.length:Int)=0)=decide (t.sub=[]):=by simp
       rw[el] at PM
       simp[aa,hw,k1,k2,PM]
      ·have sN:pZ t=false:=by simpa using sN
       have hlen:0<t.sub.length:=by
        unfold pZ at sN
        simp only[aK,Bool.or_eq_false_iff,decide_eq_false_iff_not] at sN
        omega
       have apd:(0:Int)<t.sub.length:=by omega
       have e:qp t=ru t:=by
        unfold qp
        rw[if_pos T9,if_neg k1,if_neg k2,if_neg (by simp[sN])]
       rw[e]
       obtain⟨x0,lZ,fV,_⟩:=ay (l:=t.sub) (k:=0) hlen
       have fV:nth t.sub 0=x0:=fV
       have jT:fg t.z (t.sub.map aT)=.sl (t.sub.map aT):=bX t.z hlen
       unfold pZ at sN
       have el:decide ((t.sub.length:Int)=0)=decide (t.sub=[]):=by simp
       rw[el] at sN
       simp[aa,hw,k1,k2,sN,hlen,apd,lZ,fV,jT]
       by_cases k3:t.kind=3
       ·have e:ru t=aj (decide ((t.sub.length:Int)=1)) (decide (x0.width=t.width)):=by simp[ru,k3,fV]
        rw[e];simp[aa,hw,eq_true k3]
       by_cases k4:t.kind=4
       ·have e:ru t=aj (decide ((t.sub.length:Int)=1)) (decide (x0.width=t.width)):=by simp[ru,k4,fV]
        rw[e];simp[aa,hw,k3,eq_true k4]
       have two:(t.sub.length:Int)=2→∃x1,(∀h:1<t.sub.length,t.sub[1]=x1)∧nth t.sub 1=x1∧1<t.sub.length∧(1:Int)<t.sub.length:=by
        intro h
        have h1:1<t.sub.length:=by omega
        obtain⟨x1,kV,iB,_⟩:=ay (l:=t.sub) (k:=1) h1
        exact⟨x1,kV,by exact_mod_cast iB,h1,by omega⟩
       have cmp:t.kind=16∨t.kind=17∨t.kind=18→ru t=aj (aj (decide ((t.sub.length:Int)=2)) (decide (t.width=1))) (decide ((nth t.sub 1).width=x0.width)):=by
        intro h
        unfold ru
        rw[if_neg (by omega),if_pos h,fV]
       by_cases Gq:t.kind=16∨t.kind=17∨t.kind=18
       ·rw[cmp Gq]
        by_cases hn:(t.sub.length:Int)=2
        ·obtain⟨x1,kV,iB,h1,JI⟩:=two hn
         rw[iB]
         rcases Gq with k|k|k
         ·simp[aa,hw,k3,k4,eq_true k,jT,eq_true hn,kV,h1,JI]
         ·have mY:¬t.kind=16:=by omega
          simp[aa,hw,k3,k4,mY,eq_true k,jT,eq_true hn,kV,h1,JI]
         ·have mY:¬t.kind=16:=by omega
          have Vg:¬t.kind=17:=by omega
          simp[aa,hw,k3,k4,mY,Vg,eq_true k,jT,eq_true hn,kV,h1,JI]
        ·rcases Gq with k|k|k
         ·simp[aa,hw,k3,k4,eq_true k,jT,hn]
         ·have mY:¬t.kind=16:=by omega
          simp[aa,hw,k3,k4,mY,eq_true k,jT,hn]
         ·have mY:¬t.kind=16:=by omega
          have Vg:¬t.kind=17:=by omega
          simp[aa,hw,k3,k4,mY,Vg,eq_true k,jT,hn]
       simp only[not_or] at Gq
       obtain⟨Gq,R8,R7⟩:=Gq
       by_cases Nn:t.kind=19
       ·have e:ru t=aj (aj (aj (decide ((t.sub.length:Int)=3)) (decide (x0.width=1))) (decide ((nth t.sub 1).width=t.width))) (decide ((nth t.sub 2).width=t.width)):=by simp[ru,Nn,fV]
        rw[e]
        by_cases hn:(t.sub.length:Int)=3
        ·have h1:1<t.sub.length:=by omega
         have h2:2<t.sub.length:=by omega
         have JI:(1:Int)<t.sub.length:=by omega
         have MB:(2:Int)<t.sub.length:=by omega
         obtain⟨x1,kV,iB,_⟩:=ay (l:=t.sub) (k:=1) h1
         obtain⟨x2,tt,vM,_⟩:=ay (l:=t.sub) (k:=2) h2
         have iB:nth t.sub 1=x1:=by exact_mod_cast iB
         have vM:nth t.sub 2=x2:=by exact_mod_cast vM
         rw[iB,vM]
         simp[aa,hw,k3,k4,Gq,R8,R7,eq_true Nn,jT,eq_true hn,kV,tt,h1,h2,JI,MB]
        ·simp[aa,hw,k3,k4,Gq,R8,R7,eq_true Nn,jT,hn]
       by_cases R6:t.kind=20
       ·have e:ru t=aj (decide ((t.sub.length:Int)=2)) (decide (IntKind.i64.wrap (x0.width+(nth t.sub 1).width)=t.width)):=by simp[ru,R6,fV]
        rw[e]
        by_cases hn:(t.sub.length:Int)=2
        ·obtain⟨x1,kV,iB,h1,JI⟩:=two hn
         rw[iB]
         simp[aa,hw,k3,k4,Gq,R8,R7,Nn,eq_true R6,jT,eq_true hn,kV,h1,JI]
        ·simp[aa,hw,k3,k4,Gq,R8,R7,Nn,eq_true R6,jT,hn]
       by_cases Wv:t.kind=21
       ·have e:ru t=aj (aj (aj (decide ((t.sub.length:Int)=1)) (decide (0≤t.low))) (decide (t.low≤x0.width))) (decide (IntKind.i64.wrap (t.low+t.width)≤x0.width)):=by simp[ru,Wv,fV]
        rw[e];simp[aa,hw,k3,k4,Gq,R8,R7,Nn,R6,eq_true Wv]
       by_cases Mo:t.kind=22
       ·have e:ru t=aj (decide ((t.sub.length:Int)=1)) (decide (x0.width≤t.width)):=by simp[ru,Mo,fV]
        rw[e];simp[aa,hw,k3,k4,Gq,R8,R7,Nn,R6,Wv,eq_true Mo]
       by_cases MY:t.kind=23
       ·have e:ru t=aj (decide ((t.sub.length:Int)=1)) (decide (x0.width≤t.width)):=by simp[ru,MY,fV]
        rw[e];simp[aa,hw,k3,k4,Gq,R8,R7,Nn,R6,Wv,Mo,eq_true MY]
       by_cases AA:t.kind=24
       ·have e:ru t=aj (decide ((t.sub.length:Int)=1)) (gE t.width):=by simp[ru,AA]
        rw[e];simp[aa,hw,k3,k4,Gq,R8,R7,Nn,R6,Wv,Mo,MY,eq_true AA,wo]
       have e:ru t=aj (aj (decide ((t.sub.length:Int)=2)) (decide (x0.width=t.width))) (decide ((nth t.sub 1).width=t.width)):=by
        unfold ru
        rw[if_neg (by omega),if_neg (by omega),if_neg Nn,if_neg R6,if_neg Wv,if_neg (by omega),if_neg AA,fV]
       rw[e]
       by_cases hn:(t.sub.length:Int)=2
       ·obtain⟨x1,kV,iB,h1,JI⟩:=two hn
        rw[iB]
        simp[aa,hw,k3,k4,Gq,R8,R7,Nn,R6,Wv,Mo,MY,AA,jT,eq_true hn,kV,h1,JI]
       ·simp[aa,hw,k3,k4,Gq,R8,R7,Nn,R6,Wv,Mo,MY,AA,jT,hn]
  ·simp[e1,e2]
end Go.En.V
