/- Part of the proof of CallingFills: engine, contracts or law, joined by a program from the texts Y14 Y15 Y16 Y17 Y18 Y19 Y20 Y21 Y22 Y23 Y24 Y25 Y31. -/
import Derived.Test.YtlcechkalldhfaaGreatDoorKbg
import Derived.Test.YtlcechkalldhfaaGreatDoorKbh
import Derived.Test.YtlcechkalldhfaaGreatDoorKbi
import Derived.Test.YtlcechkalldhfaaGreatDoorKbj
set_option linter.all false
set_option maxRecDepth 100000
set_option maxHeartbeats 4000000
namespace Go.En.V
open Go.Proofs
theorem IF:∀(d N:Nat) (t:Tr),jl t→Dp d t→d≤1000→3*d+6000≤N→∃r,R N 163 [ag (aC t)] []=some (ag (aC r),[])∧bh r=lx t:=by
 intro d
 induction d with
 |zero=>intro N t _ h;exact h.elim
 |succ d ih=>
  intro N t hw ht hd hN
  have hl:=ht.1
  have Sb:=hw.nc.few
  obtain⟨f,hf⟩:=skolem t.sub (fun x y=>R (N-1) 163 [ag (aC x)] []=some (ag (aC y),[])∧bh y=lx x) (fun x hx=>ih (N-1) x (hw.sub x hx) (ht.2 x hx) (by omega) (by omega))
  obtain⟨m1,m2,m3,m4,m5,m6⟩:=Wn hw
  have MF:bh (az t f)=lV t:=by
   unfold az lV
   rw[jI]
   simp only[aZ,bS,fG,g_,cr,aq,List.map_map]
   congr 1
   apply List.map_congr_left
   intro x hx
   exact(hf x hx).2
  have hn:NC (az t f):=N3 (by rw[MF];exact m1)
  have dZ:∀x∈(az t f).sub,jl x∧Dp d x:=by
   intro y hy
   obtain⟨x,hx,rfl⟩:=List.mem_map.1 (show y∈t.sub.map f from hy)
   have g:=Ag (hw.sub x hx)
   rw[←(hf x hx).2] at g
   refine⟨VP _ g.wf,Fo d _ ?_⟩
   have q:=wF _ g.wf
   have hdx:eg x≤d:=(ht.2 x hx).dep
   exact q.mono (by have:=g.dep;omega)
  rw[xe,←MF]
  have Ba:∀x∈t.sub,R (N-1) 163 [ag (aC x)] []=some (ag (aC (f x)),[]):=fun x hx=>(hf x hx).1
  by_cases q1:t.kind<5∨18<t.kind
  ·exact IE d N (by omega) t f (by omega) hn dZ Ba q1
  ·by_cases q2:t.kind≤8
   ·exact ID d N (by omega) t f (by omega) hn dZ Ba (by omega) q2
   ·by_cases q3:t.kind≤12
    ·exact IC d N (by omega) t f (by omega) hn dZ Ba (by omega) q3
    ·exact IB d N (by omega) t f (by omega) hn dZ Ba (by omega) (by omega)
mutual
def za:Tr→Bool
 | .mk k w b n l z s=>eP (.mk k w b n l z s)&&pq s
def pq:List Tr→Bool
 |[]=>true
 |x::r=>za x&&pq r
end
mutual
theorem Ds:∀t:Tr,jH gi true t=(za t,za t)
 | .mk k w b n l z s=>by
  rw[nf]
  unfold gi
  by_cases h:eP (.mk k w b n l z s)=true
  ·rw[if_pos h]
   simp only[za,h,Bool.true_and,aq]
   exact zX s
  ·rw[if_neg h]
   have h:eP (.mk k w b n l z s)=false:=by simpa using h
   simp only[za,h,Bool.false_and]
theorem zX:∀l:List Tr,fm gi true l=(pq l,pq l)
 |[]=>rfl
 |x::r=>by
  rw[fm,Ds x]
  cases h:za x
  ·simp only[pq,h,Bool.false_and]
  ·simp only[pq,h,Bool.true_and]
   exact zX r
end
theorem xy(t:Tr):qP t=za t:=by unfold qP;rw[Ds]
mutual
def mZ:Tr→Prop
 | .mk k w b _ l _ s=>(0≤k∧k≤255)∧(0≤b∧b<18446744073709551616)∧(-9223372036854775808≤w∧w≤9223372036854775807)∧(-9223372036854775808≤l∧l≤9223372036854775807)∧Vw s
def Vw:List Tr→Prop
 |[]=>True
 |x::r=>mZ x∧Vw r
end
theorem Vv{l:List Tr}:Vw l↔∀x∈l,mZ x:=by
 induction l with
 |nil=>simp[Vw]
 |cons x l ih=>simp[Vw,ih]
theorem pr(t:Tr):mZ t↔(0≤t.kind∧t.kind≤255)∧(0≤t.bits∧t.bits<18446744073709551616)∧(-9223372036854775808≤t.width∧t.width≤9223372036854775807)∧(-9223372036854775808≤t.low∧t.low≤9223372036854775807)∧∀x∈t.sub,mZ x:=by
 cases t;simp only[mZ,Vv,aZ,bS,fG,cr,aq]
mutual
theorem NH:∀t:Tr,mZ t→za t=true→jl t
 | .mk k w b n l z s,hr,h=>by
  simp only[mZ] at hr
  simp only[za,Bool.and_eq_true] at h
  exact⟨Wm h.1 hr.1.1,hr.2.1.1,Bk s hr.2.2.2.2 h.2⟩
theorem Bk:∀l:List Tr,Vw l→pq l=true→Sm l
 |[],_,_=>trivial
 |x::r,hr,h=>by
  simp only[Vw] at hr
  simp only[pq,Bool.and_eq_true] at h
  exact⟨NH x hr.1 h.1,Bk r hr.2 h.2⟩
end
theorem OJ:∀(d:Nat) (t:Tr),mZ t→Dp d t→K0 d t
 |0,t,_,h=>h.elim
 |d+1,t,hr,h=>by
  have h':=(pr t).1 hr
  exact⟨⟨h'.1.1,h.1⟩,fun x hx=>OJ d x (h'.2.2.2.2 x hx) (h.2 x hx)⟩
theorem jE{t:Tr}(hr:mZ t)(h:cN t=0):jl t:=by
 refine NH t hr ?_
 rw[←xy]
 unfold cN at h
 split at h
 ·omega
 ·split at h
  ·assumption
  ·omega
def pU(t:Tr):Tr:=if cN t=0 then lx t else default
theorem OA(d N:Nat)(t:Tr)(hr:mZ t)(ht:Dp d t)(hd:d≤1000)(hs:aF t≤1000000)(hN:2*d+7000≤N):
  R N 146 [.agg ((aC t).map .p)] []=some (.tup [.agg ((aC (pU t)).map .p),ai (cN t)],[]):=by
 have aa:rows 146={}:=rfl
 obtain⟨n,rfl⟩:=up N
 rw[aE 146 Tryz.func146 rfl rfl]
 have h1:=tI n d t ht ⟨d,OJ d t hr ht⟩ hd hs (by omega)
 unfold pU
 by_cases hc:cN t=0
 ·obtain⟨r,g1,g2⟩:=KK d n t (jE hr hc) ht hd hs (by omega)
  have hw:=Ag (jE hr hc)
  have XB:Dp d r:=by
   have q:=wF _ hw.wf
   rw[←g2] at q
   exact Fo d r (q.mono (by rw[g2];have:=hw.dep;have:=ht.dep;omega))
  have g3:=N' d n r XB (by omega)
  rw[g2] at g3
  rw[hc] at h1
  rw[if_pos hc,hc]
  rw[ae t] at h1 g1
  rw[ae t,ae (lx t)]
  rw[ae r,ae (lx t)] at g3
  rw[ae r] at g1
  simp[aa,ag] at h1 g1 g3
  simp[aa,h1,g1,g3]
 ·rw[if_neg hc]
  rw[ae t] at h1
  have hz:(aC (default:Tr)).map AV.p=[.p (.int .u8 0),ai 0,.p (.int .u64 0),.p (.str ⟨#[]⟩),ai 0,.p .nils]:=rfl
  rw[hz,ae t]
  simp[aa,ag] at h1
  simp[aa,h1,hc]
theorem OQ(d N:Nat)(t:Tr)(hr:mZ t)(ht:Dp d t)(hd:d≤1000)(hs:aF t≤10000)(hN:3*d+12100≤N)(he:lF t=cN t):
  R N 133 [.agg ((aC t).map .p)] []=some (.tup [.agg ((aC (pU t)).map .p),ai (cN t)],[]):=by
 have aa:rows 133={}:=rfl
 obtain⟨n,rfl⟩:=up N
 rw[aE 133 Tryz.func133 rfl rfl]
 have h1:=Ah n d t ht (by omega) hs (by omega)
 rw[he] at h1
 unfold pU
 by_cases hc:cN t=0
 ·obtain⟨r,g1,g2⟩:=IF d n t (jE hr hc) ht hd (by omega)
  have hw:=Ag (jE hr hc)
  have XB:Dp d r:=by
   have q:=wF _ hw.wf
   rw[←g2] at q
   exact Fo d r (q.mono (by rw[g2];have:=hw.dep;have:=ht.dep;omega))
  have g3:=OP d n r XB (by omega)
  rw[g2] at g3
  rw[hc] at h1
  rw[if_pos hc,hc]
  rw[ae t] at h1 g1
  rw[ae t,ae (lx t)]
  rw[ae r,ae (lx t)] at g3
  rw[ae r] at g1
  simp[aa,ag] at h1 g1 g3
  simp[aa,h1,g1,g3]
 ·rw[if_neg hc]
  rw[ae t] at h1
  have hz:(aC (default:Tr)).map AV.p=[.p (.int .u8 0),ai 0,.p (.int .u64 0),.p (.str ⟨#[]⟩),ai 0,.p .nils]:=rfl
  rw[hz,ae t]
  simp[aa,ag] at h1
  simp[aa,h1,hc]
theorem anU{t:Tr}(h:NC t)(hb:0≤t.bits∧t.bits<18446744073709551616)(hv:∀n,nQ n=wG n)(hw:∀x∈t.sub,1≤x.width∧x.width≤64):qp t=true:=by
 cases h with
 |con w b z h1 h2 h3=>
  have hb:0≤b∧b<18446744073709551616:=hb
  have e:=YZ (w:=w) hb.1 hb.2
  have Cs:b≤br w:=h3
  rw[decide_eq_true h1,decide_eq_true h2,decide_eq_true Cs] at e
  have e':cE (decide (w=64)) (decide (b<2^w.toNat % 18446744073709551616))=true:=e.symm
  simp[qp,cI,aZ,bS,fG,g_,cr,aq,h1,h2,OG]
  exact e'
 |var w n z h1 h2 h3=>simp[qp,cI,aZ,bS,fG,g_,cr,aq,h1,h2,hv,h3]
 |un k w z x h1 h2 hk hx=>rcases hk with rfl|rfl<;>simp[qp,ru,pZ,cI,aZ,bS,fG,g_,cr,aq,h1,h2,hx,cL]
 |bin k w z x y h1 h2 k1 k2 hx hy=>
  have hk:k=5∨k=6∨k=7∨k=8∨k=9∨k=10∨k=11∨k=12∨k=13∨k=14∨k=15:=by omega
  rcases hk with rfl|rfl|rfl|rfl|rfl|rfl|rfl|rfl|rfl|rfl|rfl<;>simp[qp,ru,pZ,cI,aZ,bS,fG,g_,cr,aq,h1,h2,hx,hy,cL,dC]
 |cmp k z x y k1 k2 hy=>
  have hk:k=16∨k=17∨k=18:=by omega
  rcases hk with rfl|rfl|rfl<;>simp[qp,ru,pZ,cI,aZ,bS,fG,g_,cr,aq,hy,cL,dC]
 |ite w z x y v h1 h2 hx hy hv=>simp[qp,ru,pZ,cI,aZ,bS,fG,g_,cr,aq,hx,hy,hv,cL,dC,fE,h1,h2]
 |cat w z x y h1 h2 hx hy hs=>
  have e:IntKind.i64.wrap (x.width+y.width)=x.width+y.width:=wrap64 (by omega) (by omega)
  simp[qp,ru,pZ,cI,aZ,bS,fG,g_,cr,aq,cL,dC,h1,h2,hs,e]
  show IntKind.i64.wrap w=w
  exact wrap64 (by omega) (by omega)
 |ext w l z x h1 h2 hl hx tt hs=>
  have e:IntKind.i64.wrap (l+w)=l+w:=wrap64 (by omega) (by omega)
  have a1:l≤x.width:=by omega
  simp[qp,ru,pZ,cI,aZ,bS,fG,g_,cr,aq,cL,h1,h2,hl,e,a1,hs]
 |wid k w z x h1 h2 hk hx=>rcases hk with rfl|rfl<;>simp[qp,ru,pZ,cI,aZ,bS,fG,g_,cr,aq,h1,h2,hx,cL]
 |ld w z x h1 h2 hx=>simp[qp,ru,pZ,cI,aZ,bS,fG,g_,cr,aq,h1,h2,hx,cL]
theorem apX{t:Tr}(hr:mZ t)(hv:∀n,nQ n=wG n)(hw:∀x∈t.sub,1≤x.width∧x.width≤64)(h:qp t=true):NC t:=by
 have De:=(pr t).1 hr
 unfold qp at h
 by_cases ED:cI t.width=true
 rotate_left
 ·rw[if_neg ED] at h;exact absurd h (by simp)
 rw[if_pos ED] at h
 simp only[cI,ak,Bool.and_eq_true,decide_eq_true_eq] at ED
 obtain⟨w1,w2⟩:=ED
 by_cases k1:t.kind=1
 ·rw[if_pos k1] at h
  simp only[ak,Bool.and_eq_true,decide_eq_true_eq] at h
  obtain⟨⟨⟨e1,e2⟩,e3⟩,e4⟩:=h
  unfold OG at e4
  rw[←YZ De.2.1.1 De.2.1.2] at e4
  simp only[ak,Bool.and_eq_true,decide_eq_true_eq] at e4
  have es:t.sub=[]:=List.eq_nil_of_length_eq_zero (by omega)
  have en:=gS e2
  have e4:=e4.2
  clear hr De hw e1 e2
  obtain⟨k,w,b,n,l,z,s⟩:=t
  simp only[aZ,bS,fG,g_,cr,aq] at*
  subst k1;subst es;subst en;subst e3
  exact .con w b z w1 w2 e4
 rw[if_neg k1] at h
 by_cases k2:t.kind=2
 ·rw[if_pos k2] at h
  simp only[ak,Bool.and_eq_true,decide_eq_true_eq] at h
  obtain⟨⟨⟨e1,e2⟩,e3⟩,e4⟩:=h
  rw[hv] at e4
  have es:t.sub=[]:=List.eq_nil_of_length_eq_zero (by omega)
  clear hr De hw e1
  obtain⟨k,w,b,n,l,z,s⟩:=t
  simp only[aZ,bS,fG,g_,cr,aq] at*
  subst k2;subst es;subst e2;subst e3
  exact .var w n z w1 w2 e4
 rw[if_neg k2] at h
 by_cases ho:pZ t=true
 ·rw[if_pos ho] at h;exact absurd h (by simp)
 rw[if_neg ho] at h
 simp only[pZ,ak,aK,Bool.or_eq_true,Bool.and_eq_true,decide_eq_true_eq,not_or,Bool.not_eq_true',decide_eq_false_iff_not,not_and,Decidable.not_not,Bool.not_eq_false] at ho
 obtain⟨⟨⟨⟨⟨o1,o2⟩,o3⟩,o4⟩,o5⟩,o6⟩:=ho
 have o4:cc t.name ⟨#[]⟩=true:=by simpa using o4
 have hn:=gS o4
 have hk:t.kind=3∨t.kind=4∨(5≤t.kind∧t.kind≤15)∨t.kind=16∨t.kind=17∨t.kind=18∨t.kind=19∨t.kind=20∨t.kind=21∨t.kind=22∨t.kind=23∨t.kind=24:=by omega
 unfold ru at h
 have mk:∀k l s,t.kind=k→t.low=l→t.sub=s→t=.mk k t.width 0 ⟨#[]⟩ l t.z s:=by
  intro k l s a b c
  cases t
  simp only[aZ,bS,fG,g_,cr,aq,Zg] at*
  subst a;subst b;subst c;subst o3;subst hn;rfl
 have fin:∀{k l s},t.kind=k→t.low=l→t.sub=s→NC (.mk k t.width 0 ⟨#[]⟩ l t.z s)→NC t:=by
  intro k l s a b c hh
  rw[mk k l s a b c];exact hh
 rcases hk with hk|hk|hk|hk|hk|hk|hk|hk|hk|hk|hk|hk
 iterate 2
  ·simp only[hk,reduceIte,Int.reduceEq,or_self,or_false,false_or,true_or,or_true,ak,Bool.and_eq_true,decide_eq_true_eq] at h
   obtain⟨x,hx⟩:=zA h.1
   have h2:=h.2
   rw[hx,cL] at h2
   exact fin hk (by omega) hx (.un _ _ _ _ w1 w2 (by decide) h2)
 ·have q1:¬(t.kind=3∨t.kind=4):=by omega
  have q2:¬(t.kind=16∨t.kind=17∨t.kind=18):=by omega
  have q3:¬t.kind=19:=by omega
  have q4:¬t.kind=20:=by omega
  have q5:¬t.kind=21:=by omega
  have q6:¬(t.kind=22∨t.kind=23):=by omega
  have q7:¬t.kind=24:=by omega
  rw[if_neg q1,if_neg q2,if_neg q3,if_neg q4,if_neg q5,if_neg q6,if_neg q7] at h
  simp only[ak,Bool.and_eq_true,decide_eq_true_eq] at h
  obtain⟨x,y,hx⟩:=Lj h.1.1
  rw[hx,cL,dC] at h
  exact fin rfl (by omega) hx (.bin _ _ _ _ _ w1 w2 hk.1 hk.2 h.1.2 h.2)
 iterate 3
  ·simp only[hk,reduceIte,Int.reduceEq,or_self,or_false,false_or,true_or,or_true,ak,Bool.and_eq_true,decide_eq_true_eq] at h
   obtain⟨x,y,hx⟩:=Lj h.1.1
   rw[hx,cL,dC] at h
   have WE:=h.1.2
   refine fin hk (show t.low=0 by omega) hx ?_
   rw[WE]
   exact .cmp _ _ _ _ (by decide) (by decide) h.2
 ·simp only[hk,reduceIte,Int.reduceEq,or_self,or_false,false_or,true_or,or_true,ak,Bool.and_eq_true,decide_eq_true_eq] at h
  obtain⟨x,y,v,hx⟩:=aoh h.1.1.1
  rw[hx,cL,dC,fE] at h
  exact fin hk (by omega) hx (.ite _ _ _ _ _ w1 w2 h.1.1.2 h.1.2 h.2)
 ·simp only[hk,reduceIte,Int.reduceEq,or_self,or_false,false_or,true_or,or_true,ak,Bool.and_eq_true,decide_eq_true_eq] at h
  obtain⟨x,y,hx⟩:=Lj h.1
  rw[hx,cL,dC] at h
  have Rv:=hw x (by rw[hx];simp)
  have hwy:=hw y (by rw[hx];simp)
  have h2:=h.2
  rw[wrap64 (by omega) (by omega)] at h2
  exact fin hk (by omega) hx (.cat _ _ _ _ w1 w2 Rv.1 hwy.1 h2)
 ·simp only[hk,reduceIte,Int.reduceEq,or_self,or_false,false_or,true_or,or_true,ak,Bool.and_eq_true,decide_eq_true_eq] at h
  obtain⟨x,hx⟩:=zA h.1.1.1
  rw[hx,cL] at h
  have Rv:=hw x (by rw[hx];simp)
  have h2:=h.2
  rw[wrap64 (by omega) (by omega)] at h2
  exact fin hk rfl hx (.ext _ _ _ _ w1 w2 h.1.1.2 Rv.1 Rv.2 h2)
 iterate 2
  ·simp only[hk,reduceIte,Int.reduceEq,or_self,or_false,false_or,true_or,or_true,ak,Bool.and_eq_true,decide_eq_true_eq] at h
   obtain⟨x,hx⟩:=zA h.1
   have h2:=h.2
   rw[hx,cL] at h2
   exact fin hk (by omega) hx (.wid _ _ _ _ w1 w2 (by decide) h2)
 ·simp only[hk,reduceIte,Int.reduceEq,or_self,or_false,false_or,true_or,or_true,ak,Bool.and_eq_true,decide_eq_true_eq] at h
  obtain⟨x,hx⟩:=zA h.1
  exact fin hk (by omega) hx (.ld _ _ _ w1 w2 h.2)
mutual
theorem E'(hv:∀n,nQ n=wG n):∀t:Tr,mZ t→nT t=za t
 | .mk k w b n l z s,hr=>by
  have sM:=(pr _).1 hr
  simp only[nT,za]
  have ih:=AN hv s (by simp only[mZ] at hr;exact hr.2.2.2.2)
  rw[ih]
  cases ha:pq s with
  |false=>simp
  |true=>
   have Vk:=Bk s (by simp only[mZ] at hr;exact hr.2.2.2.2) ha
   have hp:∀x∈Tr.sub (.mk k w b n l z s),1≤x.width∧x.width≤64:=fun x hx=>(CU.1 Vk x hx).wide
   simp only[Bool.true_and,Bool.and_true]
   rw[Bool.eq_iff_iff]
   constructor
   ·intro h;exact BV (apX hr hv hp h) hp
   ·intro h;exact anU (Wm h sM.1.1) sM.2.1 hv hp
theorem AN(hv:∀n,nQ n=wG n):∀l:List Tr,Vw l→ym l=pq l
 |[],_=>rfl
 |x::r,hr=>by
  simp only[Vw] at hr
  simp only[ym,pq,E' hv x hr.1,AN hv r hr.2]
end
theorem alI(s:ByteArray)(h:s.size=2)(he:cc (s.extract 0 2) jJ=true):s=jJ:=by
 have e:=gS he
 rw[←e]
 obtain⟨⟨l⟩⟩:=s
 have hl:l.length=2:=h
 have hd:(ByteArray.mk ⟨l⟩).extract 0 2=⟨(Array.mk l).extract 0 2⟩:=by
  ext1
  simp[ByteArray.data_extract]
 rw[hd]
 congr 1
 simp[List.take_of_length_le (Nat.le_of_eq hl)]
theorem Tf(s:ByteArray):nQ s=wG s:=by
 unfold nQ wG wK xi
 have hp:(jJ.size:Int)=2:=rfl
 have Uf:jJ.size=2:=rfl
 rw[Uf]
 by_cases h:(2:Int)<s.size
 ·have h2:((2:Nat):Int)≤s.size:=by omega
  rw[decide_eq_true h,decide_eq_true h2,Bool.true_and]
  split<;>rfl
 ·rw[decide_eq_false h,Bool.false_and,if_neg (by simp)]
  by_cases h2:((2:Nat):Int)≤s.size
  ·rw[decide_eq_true h2,Bool.true_and]
   by_cases he:cc (s.extract 0 2) jJ=true
   ·have:=alI s (by omega) he
    rw[if_pos he,this]
    decide
   ·rw[if_neg he]
  ·rw[decide_eq_false h2,Bool.false_and,if_neg (by simp)]
theorem i5(k k':ByteArray)(v:Int):∀l,ju k (qD k' v l)=if cc k k'=true then some v else ju k l
 |[]=>by simp[qD,ju]
 |(a,b)::r=>by
  simp only[qD]
  by_cases h:cc k' a=true
  ·rw[if_pos h]
   have:=gS h
   subst this
   simp only[ju]
   split<;>rfl
  ·rw[if_neg h]
   simp only[ju,i5 k k' v r]
   by_cases h1:cc k a=true
   ·have:=gS h1
    subst this
    rw[if_pos h1]
    have h2:¬cc k k'=true:=fun h2=>h (by rw[yu];exact h2)
    rw[if_neg h2,if_pos h1]
   ·rw[if_neg h1,if_neg h1]
def H6(vs:List (ByteArray×Int)):List Bd→Bool×Bool×List (ByteArray×Int)
 |[]=>(true,true,vs)
 |x::r=>if aj (ju x.name vs).isSome (!decide (gY x.name vs=x.width))=true then(false,false,vs) else H6 (qD x.name x.width vs) r
theorem P6(vs:List (ByteArray×Int)):∀l,(H6 vs l).1=(H6 vs l).2.1:=by
 intro l
 induction l generalizing vs with
 |nil=>rfl
 |cons x r ih=>
  unfold H6
  split
  ·rfl
  ·exact ih _
theorem UA(a b:List Bd)(vs:List (ByteArray×Int)):H6 vs (a++b)=match H6 vs a with|(true,s)=>H6 s.2 b|(false,s)=>(false,s):=by
 induction a generalizing vs with
 |nil=>rfl
 |cons x r ih=>
  simp only[List.cons_append,H6]
  split
  ·rfl
  ·exact ih _
mutual
theorem IT:∀(t:Tr) (vs:List (ByteArray×Int)),jH dX (true,vs) t=H6 vs (xO t)
 | .mk k w b n l z s,vs=>by
  rw[nf,Pe]
  have ihs:=Dr s
  generalize ht:Tr.mk k w b n l z s=t
  have hs:t.sub=s:=by rw[←ht];rfl
  rw[hs]
  unfold rO
  by_cases hk:t.kind=2
  ·rw[if_pos hk]
   have e:dX (true,vs) t=if aj (ju t.name vs).isSome (!decide (gY t.name vs=t.width))=true then(false,(false,vs)) else(true,(true,qD t.name t.width vs)):=by
    unfold dX;rw[if_pos hk]
   rw[e]
   simp only[List.cons_append,List.nil_append,H6]
   by_cases hc:aj (ju t.name vs).isSome (!decide (gY t.name vs=t.width))=true
   ·rw[if_pos hc,if_pos hc]
   ·rw[if_neg hc,if_neg hc]
    exact ihs _
  ·rw[if_neg hk]
   have e:dX (true,vs) t=(true,(true,vs)):=by
    unfold dX;rw[if_neg hk]
   rw[e]
   simp only[List.nil_append]
   exact ihs _
theorem Dr:∀(l:List Tr) (vs:List (ByteArray×Int)),fm dX (true,vs) l=H6 vs (nv l)
 |[],vs=>rfl
 |x::r,vs=>by
  rw[fm,IT x vs]
  simp only[nv]
  rw[UA]
  have hb:=P6 vs (xO x)
  generalize H6 vs (xO x)=g at hb
  obtain⟨g1,g2,g3⟩:=g
  simp only at hb
  subst hb
  cases g1 with
  |true=>simp only;exact Dr r g3
  |false=>rfl
end
theorem JK:∀(l:List Bd) (vs:List (ByteArray×Int)),(H6 vs l).2.1=true↔(∀x∈l,∀v,ju x.name vs=some v→v=x.width)∧l.Pairwise (fun a b=>a.name=b.name→a.width=b.width)
 |[],vs=>by simp[H6]
 |x::r,vs=>by
  unfold H6
  by_cases hc:aj (ju x.name vs).isSome (!decide (gY x.name vs=x.width))=true
  ·rw[if_pos hc]
   simp only[ak,Bool.and_eq_true,Bool.not_eq_true',decide_eq_false_iff_not] at hc
   obtain⟨c1,c2⟩:=hc
   obtain⟨v,hv⟩:=Option.isSome_iff_exists.1 c1
   unfold gY at c2
   rw[hv] at c2
   simp only[Option.getD_some] at c2
   constructor
   ·intro h;exact absurd h (by simp)
   ·intro h
    exact absurd (h.1 x (by simp) v hv) c2
  ·rw[if_neg hc,JK r]
   have hx:∀v,ju x.name vs=some v→v=x.width:=by
    intro v hv
    apply Classical.byContradiction
    intro fB
    refine hc ?_
    simp[ak,gY,hv,fB]
   simp only[List.mem_cons,forall_eq_or_imp,List.pairwise_cons]
   constructor
   ·rintro⟨h1,h2⟩
    refine⟨⟨hx,fun y hy v hv=> ?_⟩,fun y hy he=> ?_,h2⟩
    ·by_cases he:cc y.name x.name=true
     ·have:=h1 y hy x.width (by rw[i5,if_pos he])
      have en:=gS he
      rw[en] at hv
      rw[hx v hv];exact this
     ·exact h1 y hy v (by rw[i5,if_neg he];exact hv)
    ·exact h1 y hy x.width (by rw[i5,if_pos (by rw[he];simp)])
   ·rintro⟨⟨_,h1⟩,h2,h3⟩
    refine⟨fun y hy v hv=> ?_,h3⟩
    rw[i5] at hv
    by_cases he:cc y.name x.name=true
    ·rw[if_pos he] at hv
     simp only[Option.some.injEq] at hv
     rw[←hv]
     exact h2 y hy (gS he).symm
    ·rw[if_neg he] at hv
     exact h1 y hy v hv
theorem SH(l:List Bd):GR l=false↔l.Pairwise (fun a b=>a.name=b.name→a.width=b.width):=by
 rw[List.pairwise_iff_getElem]
 unfold GR
 simp only[List.any_eq_false,List.mem_range,List.any_eq_true,not_exists,not_and,Bool.not_eq_true]
 constructor
 ·intro h i j hi hj Gx he
  have:=h j hj i Gx
  unfold qt at this
  rw[bq l i hi,bq l j hj,he,Ql] at this
  simpa using this
 ·intro h j hj i Gx
  have hi:i<l.length:=by omega
  have:=h i j hi hj Gx
  unfold qt
  rw[bq l i hi,bq l j hj]
  by_cases he:cc l[i].name l[j].name=true
  ·rw[he,this (gS he)];simp
  ·simp only[Bool.not_eq_true] at he
   rw[he];rfl
theorem TL(t:Tr):vH t= !GR (xO t):=by
 unfold vH
 rw[IT,Bool.eq_iff_iff,JK,Bool.not_eq_true',SH]
 simp[ju]
theorem yK{t:Tr}(hr:mZ t):lF t=cN t:=by
 unfold lF cN
 rw[E' Tf t hr,xy,TL]
 cases GR (xO t)<;>simp
theorem abM{m:aw}(ha:m.address=16∨m.address=32)(c:Int):mZ (eR m c)∧aF (eR m c)=1∧(eR m c).sub=[]:=by
 refine⟨(pr _).2 ?_,rfl,rfl⟩
 have h1:0≤c % 2^m.address.toNat∧c % 2^m.address.toNat<18446744073709551616:=by
  rcases ha with h|h<;>rw[h]<;>exact⟨Int.emod_nonneg _ (by decide),Int.lt_trans (Int.emod_lt_of_pos _ (by decide)) (by decide)⟩
 have e1:(eR m c).kind=1:=rfl
 have e2:(eR m c).bits=c % 2^m.address.toNat:=rfl
 have e3:(eR m c).width=m.address:=rfl
 have e4:(eR m c).low=0:=rfl
 have e5:(eR m c).sub=[]:=rfl
 rw[e1,e2,e3,e4,e5]
 refine⟨by decide,h1, ?_,by decide,by simp⟩
 rcases ha with h|h<;>rw[h]<;>decide
theorem H_{m:aw}(ha:m.address=16∨m.address=32)(s:dh)(args:List Int):∀(d:Nat) (t:Tr),Dp d t→mZ t→mZ (fX m s args t)∧Dp d (fX m s args t)∧aF (fX m s args t)≤aF t
 |0,t,h,_=>h.elim
 |d+1,t,h,hr=>by
  rw[Cz]
  cases PU s t with
  |some i=>
   obtain⟨n1,n2,n3⟩:=abM ha (nth args i)
   exact⟨n1,⟨by simp only;rw[n3];exact Nat.zero_le _,by intro x hx;simp only at hx;rw[n3] at hx;simp at hx⟩,by simp only;rw[n2];exact size_pos t⟩
  |none=>
   have sM:=(pr t).1 hr
   have ih:=fun x (hx:x∈t.sub)=>H_ ha s args d x (h.2 x hx) (sM.2.2.2.2 x hx)
   refine⟨(pr _).2 ⟨sM.1,sM.2.1,sM.2.2.1,sM.2.2.2.1, ?_⟩,⟨by simpa [aq] using h.1, ?_⟩, ?_⟩
   ·intro y hy
    obtain⟨x,hx,rfl⟩:=List.mem_map.1 hy
    exact(ih x hx).1
   ·intro y hy
    obtain⟨x,hx,rfl⟩:=List.mem_map.1 hy
    exact(ih x hx).2.1
   ·rw[bz,bz t]
    have:=tO (fX m s args) t.sub fun x hx=>(ih x hx).2.2
    simp only[aq];omega
def FZ(v:View)(b:Int):Bool:=
 v.one&&(e9 v.args 1 1 0 0&&(eX v.ins (pl v.args (-1)) b&&(eX v.ins (pl v.args (-2)) b&&(fz v.main (pl v.args (-1))&&aI (pU (fX v.p.m v.ins v.args v.main.val)) (dc v.p.m v.ins (pl v.args (-2)))))))
theorem I1{t:Tr}{d:Nat}(hr:mZ t)(ht:Dp d t)(hd:1≤d):Dp d (pU t):=by
 unfold pU
 split
 ·rename_i hc
  have hw:=Ag (jE hr hc)
  exact(wF _ hw.wf).mono (by have:=hw.dep;have:=ht.dep;omega)
 ·obtain⟨d,rfl⟩:∃k,d=k+1:=⟨d-1,by omega⟩
  exact⟨Nat.zero_le _,fun x hx=>by simp[Inhabited.default,default,aq] at hx⟩
theorem SM{t v:Tr}(h:cN t≠0)(hv:v.kind=2):aI (pU t) v=false:=by
 unfold pU
 rw[if_neg h,oh]
 unfold mr
 rw[hv]
 rfl
theorem GK(N:Nat)(hN:8000≤N)(v:View)(hv:zr v)(hg:mZ v.main.val)(hs:aF v.main.val≤500)(ha:v.p.m.address=16∨v.p.m.address=32)(b:Int):
  R N 121 [ag (aB v),ai b] []=some (ab (FZ v b),[]):=by
 have aa:rows 121=_:=NQ.eq_1
 obtain⟨n,rfl⟩:=up N
 rw[aE 121 Tryz.func121 rfl rfl]
 have jc:=hv.al
 have hc:=mL n (by omega) v 1 1 0 0 (by omega)
 unfold FZ
 cases ho:v.one
 ·simp[aa,ho]
 cases vn:e9 v.args 1 1 0 0
 ·rw[vn] at hc
  simp[aa,ho,hc]
 rw[vn] at hc
 obtain⟨l1,l2,l3,l4⟩:=o7 vn
 have zH:=fun x=>FN n v x (by omega) (by omega)
 have q1:0<(bo v.args (-1)).length:=by omega
 have q2:0<(bo v.args (-2)).length:=by omega
 obtain⟨⟨p0,p1⟩,p2⟩:=lG (l:=v.args) (x:=-1) q1
 obtain⟨⟨r0,r1⟩,r2⟩:=lG (l:=v.args) (x:=-2) q2
 have jG:=hv.reg n (by omega) b p0 p1
 have jA:=hv.reg n (by omega) b r0 r1
 have zC:=rY n (by omega) v.main (pl v.args (-1))
 have vN:=hv.var n (by omega) r0 r1
 have dz:=Qa 80 n v v.main.val hv.len hv.al ha hv.val (by omega)
 obtain⟨f1,f2,f3⟩:=H_ ha v.ins v.args 80 v.main.val hv.val hg
 have Gs:=OA 80 n _ f1 f2 (by omega) (by omega) (by omega)
 have vO:=iM 80 n (pU (fX v.p.m v.ins v.args v.main.val)) (dc v.p.m v.ins (pl v.args (-2))) (I1 f1 f2 (by omega)) (by omega)
 have sN:cN (fX v.p.m v.ins v.args v.main.val)≠0→aI (pU (fX v.p.m v.ins v.args v.main.val)) (dc v.p.m v.ins (pl v.args (-2)))=false:=fun h=>SM h rfl
 generalize fX v.p.m v.ins v.args v.main.val=fx at*
 generalize dc v.p.m v.ins (pl v.args (-2))=va at*
 generalize aI (pU fx) va=sm at*
 generalize pU fx=tf at*
 rw[ae tf] at Gs vO
 rw[ae fx] at dz Gs
 rw[ae va] at vN vO
 generalize pl v.args (-1)=a1 at*
 generalize pl v.args (-2)=a2 at*
 simp[aa,ag] at dz Gs vO vN
 cases k1:eX v.ins a1 b<;>rw[k1] at jG
 ·simp[aa,ho,hc,zH,q1,q2,p2,r2,jG,jA]
 cases k2:eX v.ins a2 b<;>rw[k2] at jA
 ·simp[aa,ho,hc,zH,q1,q2,p2,r2,jG,jA]
 cases k3:fz v.main a1<;>rw[k3] at zC
 ·simp[aa,ho,hc,zH,q1,q2,p2,r2,jG,jA,zC]
 by_cases tx:cN fx=0
 ·rw[tx] at Gs
  simp[aa,ho,hc,zH,q1,q2,p2,r2,jG,jA,zC,dz,Gs,vN,vO]
 ·rw[sN tx]
  simp[aa,ho,hc,zH,q1,q2,p2,r2,jG,jA,zC,dz,Gs,tx]
theorem BJ(N:Nat)(hN:9000≤N)(p:eU)(t:gf)(b:Int)(hw:qa p.m)(ha:t.args.length≤100)(hi:∀s∈p.m.instrs,vW p.m s)(hv:aG p.m t false=true→zr (bc p t))
  (hg:aG p.m t false=true→mZ (bc p t).main.val∧aF (bc p t).main.val≤500)(RJ:p.m.address=16∨p.m.address=32):
  R N 54 [ag (aD p),.p (.str ⟨#[99,111,112,121]⟩),ag (bm t),ai b] []=some (ab (aG p.m t false&&FZ (bc p t) b),[]):=by
 obtain⟨n,rfl⟩:∃n,N=n+1:=⟨N-1,by omega⟩
 have e:cc ⟨#[99,111,112,121]⟩ ⟨#[99,97,108,108]⟩=false:=by simp[cM]
 have:=i6 n (by omega) p t b ⟨#[99,111,112,121]⟩ 121 (FZ (bc p t) b) rfl hw ha hi (GO n (by omega) _)
  (by rw[wI n (by omega)];simp[uY,l9,cM]) _ (Qu n (by omega) b) (fun h=>by rw[e] at h;exact GK n (by omega) _ (hv h) (hg h).1 (hg h).2 RJ b)
 rw[e] at this
 exact this
theorem LU(l:List Int):e9 l 1 1 0 0=(decide ((bo l (-1)).length=1)&&(decide ((bo l (-2)).length=1)&&(decide ((bo l (-3)).length=0)&&decide ((bo l (-4)).length=0)))):=by
 simp only[e9,ak]
 rw[Bool.eq_iff_iff]
 simp only[Bool.and_eq_true,decide_eq_true_eq]
 omega
theorem Hn(N:Nat)(hN:14000≤N)(m:aw)(c:Conv)(t:gf)(h:MT m t)(b:Int)(b0:0≤b)(RJ:m.address=16∨m.address=32)
  (har:∀x∈t.args,-9223372036854775808≤x∧x≤9223372036854775807)
  (hg:aG m t false=true→mZ (bc ⟨m,c⟩ t).main.val∧aF (bc ⟨m,c⟩ t).main.val≤500):
  R N 92 [ag (ah m),ag (ax c),ag (bm t),ai b] []=some (ab (aG m t false&&FZ (bc ⟨m,c⟩ t) b),[]):=by
 have aa:rows 92=_:=Ym.eq_1
 obtain⟨n,rfl⟩:=up N
 rw[aE 92 Tryz.func92 rfl rfl]
 have ho:=ik n (by omega) m c t false h.al h.ins
 cases hs:aG m t false
 ·have ho:=ho.2 hs
  unfold fw at ho
  simp[aa,ho]
 have ho:=ho.1 hs
 obtain⟨hf,hm⟩:=h.fok c hs
 obtain⟨Xy,Xx⟩:=hg hs
 have Df:=wg n (by omega) ⟨m,c,t,nth m.instrs t.instr⟩ hf.wb hf.wr hf.el hf.effs
 have Co:=hf.main_dp
 have rk:=fun i (i0:0≤i) (i1:i<(t.args.length:Int))=>hf.var n (by omega) (i:=i) i0 i1
 have uu:=fun i (i0:0≤i) (i1:i<(t.args.length:Int))=>hf.reg n (by omega) (i:=i) b (by omega) i0 i1
 have jc:=h.al
 have yd:=fun x=>pD n ⟨m,c,t,nth m.instrs t.instr⟩ x (by show t.args.length+1<n;omega) (by show t.args.length≤1000;omega)
 have Xt:t.args.length=(nth m.instrs t.instr).opds.length:=hf.len
 have dz:=HF 80 n ⟨m,c,t,nth m.instrs t.instr⟩ (bN m (nth m.instrs t.instr).effs (nth m.instrs t.instr).effs.length).1.val Xt jc RJ har Co.2 (by omega)
 unfold bc at Xy Xx
 simp only at Xy Xx
 obtain⟨f1,f2,f3⟩:=H_ RJ (nth m.instrs t.instr) t.args 80 _ Co.2 Xy
 have Gs:=OQ 80 n _ f1 f2 (by omega) (Nat.le_trans f3 (Nat.le_trans Xx (by decide))) (by omega) (yK f1)
 unfold FZ bc
 rw[LU]
 simp only at Df Co rk uu yd dz ⊢
 generalize nth m.instrs t.instr=s at*
 generalize bN m s.effs s.effs.length=mn at*
 by_cases c1:(bo t.args (-1)).length=1
 rotate_left
 ·have fY:¬((bo t.args (-1)).length:Int)=1:=by omega
  simp[aa,ho,yd,c1,fY]
 have q1:0<(bo t.args (-1)).length:=by omega
 obtain⟨⟨p0,p1⟩,p2⟩:=lG (l:=t.args) (x:=-1) q1
 by_cases c2:(bo t.args (-2)).length=1
 rotate_left
 ·have ma:¬((bo t.args (-2)).length:Int)=1:=by omega
  simp[aa,ho,yd,c1,c2,ma,q1]
 have q2:0<(bo t.args (-2)).length:=by omega
 obtain⟨⟨r0,r1⟩,r2⟩:=lG (l:=t.args) (x:=-2) q2
 have oO:∀x,(bo t.args x).length≤t.args.length:=fun x=>dQ _ _ _
 have h3:=oO (-3)
 have h4:=oO (-4)
 have Mq:IntKind.i64.wrap (((bo t.args (-3)).length:Int)+((bo t.args (-4)).length:Int))=((bo t.args (-3)).length:Int)+((bo t.args (-4)).length:Int):=wrap64 (by omega) (by omega)
 by_cases c3:(0:Int)<((bo t.args (-3)).length:Int)+((bo t.args (-4)).length:Int)
 ·have e:(decide ((bo t.args (-3)).length=0)&&decide ((bo t.args (-4)).length=0))=false:=by
   rw[Bool.eq_false_iff]
   simp only[ne_eq,Bool.and_eq_true,decide_eq_true_eq]
   omega
  rw[e]
  simp[aa,ho,yd,c1,c2,q1,q2,p2,r2,Mq,c3]
 have F0:(bo t.args (-3)).length=0∧(bo t.args (-4)).length=0:=by omega
 have i0:IntKind.i64.wrap 0=0:=rfl
 have k1:=uu (pl t.args (-1)) p0 p1
 have k2:=uu (pl t.args (-2)) r0 r1
 have zC:=ye n (by omega) mn.1 (pl t.args (-1))
 have vN:=rk (pl t.args (-2)) r0 r1
 have vO:=c_ 80 n (pU (fX m s t.args mn.1.val)) (dc m s (pl t.args (-2))) (I1 f1 f2 (by omega)) (by omega)
 generalize fX m s t.args mn.1.val=fx at*
 generalize dc m s (pl t.args (-2))=va at*
 generalize aI (pU fx) va=sm at*
 generalize pU fx=tf at*
 rw[ae tf] at Gs vO
 rw[ae fx] at dz Gs
 rw[ae va] at vN vO
 rw[F0.1,F0.2]
 generalize pl t.args (-1)=a1 at*
 generalize pl t.args (-2)=a2 at*
 simp[aa,ag] at dz Gs vO vN
 cases e1:eX s a1 b<;>rw[e1] at k1
 ·simp[aa,ho,yd,c1,c2,q1,q2,p2,r2,Mq,F0,i0,k1,k2]
 cases e2:eX s a2 b<;>rw[e2] at k2
 ·simp[aa,ho,yd,c1,c2,q1,q2,p2,r2,Mq,F0,i0,k1,k2]
 by_cases EJ:(mn.2:Int)=1
 rotate_left
 ·have p6:¬mn.2=1:=by omega
  simp[aa,ho,yd,c1,c2,q1,q2,p2,r2,Mq,F0,i0,k1,k2,Df,EJ,p6]
 have p6:mn.2=1:=by omega
 cases e3:fz mn.1 a1<;>rw[e3] at zC
 ·simp[aa,ho,yd,c1,c2,q1,q2,p2,r2,Mq,F0,i0,k1,k2,Df,p6,zC]
 ·simp[aa,ho,yd,c1,c2,q1,q2,p2,r2,Mq,F0,i0,k1,k2,Df,p6,zC,dz,Gs,vN,vO]
theorem te{α:Type}[Inhabited α](l:List α)(p:α→Bool):∀k,k≤l.length→(l.take k).any p=(List.range k).any fun j=>p (nth l (j:Int))
 |0,_=>by simp
 |k+1,h=>by
  have hk:k<l.length:=by omega
  rw[List.take_succ_eq_append_getElem hk,List.any_append,te l p k (by omega),List.range_succ,List.any_append]
  simp[bq l k hk]
theorem kB{n:Nat}{p q:Nat→Bool}(h:∀k,k<n→p k=q k):(List.range n).all p=(List.range n).all q:=by
 rw[Bool.eq_iff_iff,List.all_eq_true,List.all_eq_true]
 constructor
 ·intro hp k hk;rw[←h k (List.mem_range.1 hk)];exact hp k hk
 ·intro hp k hk;rw[h k (List.mem_range.1 hk)];exact hp k hk
theorem nu{n:Nat}(p:Nat→Bool):(!(List.range n).any p)=(List.range n).all fun k=> !p k:=by
 rw[Bool.eq_iff_iff];simp
theorem rZ{α:Type}[Inhabited α](name:α→ByteArray)(P:List ByteArray→α→Bool)(F:List ByteArray→List α→Bool)(h0:∀s,F s []=true)(h1:∀s r l,F s (r::l)=(P s r&&F (s++[name r]) l)):
  ∀(l:List α) (s:List ByteArray),F s l=(List.range l.length).all fun k=>P (s++(l.take k).map name) (nth l (k:Int))
 |[],s=>by simp[h0]
 |r::l,s=>by
  rw[h1,rZ name P F h0 h1 l,List.length_cons,List.range_succ_eq_map,List.all_cons,List.all_map]
  congr 1
  ·simp[nth]
  ·apply kB
   intro k _
   simp[nth]
theorem pO(a b:ByteArray):cc a b=cc b a:=by
 rw[Bool.eq_iff_iff];unfold cc;simp only[beq_iff_eq];exact eq_comm
theorem pN{α:Type}[Inhabited α](name:α→ByteArray)(l:List α)(k:Nat)(hk:k<l.length):cW ([]++(l.take k).map name) (name (nth l (k:Int)))=(ck (name (nth l (k:Int)))&& !(List.range k).any fun j=>cc (name (nth l (j:Int))) (name (nth l (k:Int)))):=by
 unfold cW
 rw[List.nil_append,List.any_map,te l _ k (by omega)]
 congr 2
 congr 1
 funext j
 simp only[Function.comp_def]
 rw[pO]
theorem fU(n lo hi:Int):cq n lo hi=true↔lo≤n∧n≤hi:=by simp[cq,ak]
theorem Ez(n lo:Int){k:Nat}(hk:k≤1000):cq n lo (IntKind.i64.wrap ((k:Int)-1))=cq n lo ((k:Int)-1):=by
 rw[wrap64 (by omega) (by omega)]
theorem Tl(m:aw)(hl:m.regs.length≤1000):gJ m=(decide (0<m.regs.length)&&iT m [] m.regs):=by
 unfold gJ
 rw[nu,Bool.and_comm,rZ pT.name (tV m) (iT m) (fun _=>rfl) (fun _ _ _=>rfl)]
 congr 1
 apply kB
 intro k hk
 unfold mc tV
 rw[pN pT.name m.regs k hk]
 unfold uH
 generalize nth m.regs (k:Int)=r
 generalize ((List.range k).any fun j=>cc (nth m.regs (j:Int)).name r.name)=D
 have hd:lT m r= !(if r.of=-1 then decide (r.low=0) else if cq r.of 0 (IntKind.i64.wrap (m.regs.length-1))=true then Ad r (nth m.regs r.of) else false):=by
  unfold lT
  by_cases h1:r.of=-1
  ·rw[if_pos h1,if_pos h1]
  ·rw[if_neg h1,if_neg h1,Ez _ _ hl]
   by_cases h2:cq r.of 0 (m.regs.length-1)=true
   ·rw[if_pos h2,if_pos h2]
    unfold Ad
    have h3:decide ((nth m.regs r.of).width≤r.width)= !decide (r.width<(nth m.regs r.of).width):=by
     rw[←decide_not,decide_eq_decide];omega
    rw[h3]
    simp only[aK,ak]
    cases decide ((nth m.regs r.of).of=-1)<;>cases cq (nth m.regs r.of).width 1 64<;>cases decide (r.width<(nth m.regs r.of).width)<;>cases cq r.low 0 (IntKind.i64.wrap ((nth m.regs r.of).width-r.width))<;>rfl
   ·rw[if_neg h2,if_neg h2];rfl
 rw[hd,aK]
 generalize (if r.of=-1 then decide (r.low=0) else if cq r.of 0 (IntKind.i64.wrap (m.regs.length-1))=true then Ad r (nth m.regs r.of) else false)=Z
 cases ck r.name<;>cases cq r.width 1 64<;>cases D<;>cases Z<;>rfl
theorem N0(m:aw):mC m=(decide (0<m.units.length)&&kE [] m.units):=by
 unfold mC
 rw[nu,Bool.and_comm,rZ FY.name (fun s r=>cW s r.name&&cq r.count 1 4) kE (fun _=>rfl) (fun _ _ _=>rfl)]
 congr 1
 apply kB
 intro k hk
 unfold ph
 rw[pN FY.name m.units k hk]
 unfold yB
 generalize nth m.units (k:Int)=r
 generalize ((List.range k).any fun j=>cc (nth m.units (j:Int)).name r.name)=D
 rw[aK]
 cases ck r.name<;>cases cq r.count 1 4<;>cases D<;>rfl
theorem QJ(m:aw)(hb:∀b∈m.banks,b.regs.length≤1000):jx m=iI m [] m.banks:=by
 unfold jx
 rw[nu,rZ qw.name (yV m) (iI m) (fun _=>rfl) (fun _ _ _=>rfl)]
 apply kB
 intro k hk
 unfold nM yV
 rw[pN qw.name m.banks k hk]
 unfold yD
 generalize nth m.banks (k:Int)=r
 generalize ((List.range k).any fun j=>cc (nth m.banks (j:Int)).name r.name)=D
 have h1:(List.range r.regs.length).any (mT m r)= !(List.range r.regs.length).all (uO m r):=by
  rw[←Bool.not_not ((List.range r.regs.length).any (mT m r)),nu]
  congr 1
  apply kB
  intro j hj
  unfold mT uO
  rw[te r.regs _ j (by omega)]
  have e:(fun M1:Nat=>decide (nth r.regs (M1:Int)=nth r.regs (j:Int)))=(fun M1:Nat=>decide (nth r.regs (j:Int)=nth r.regs (M1:Int))):=by
   funext i;rw[decide_eq_decide];exact eq_comm
  rw[e]
  cases cq (nth r.regs (j:Int)) 0 (m.regs.length-1)<;>cases (List.range j).any (fun M1:Nat=>decide (nth r.regs (j:Int)=nth r.regs (M1:Int)))<;>cases decide ((nth m.regs (nth r.regs (j:Int))).width=(nth m.regs (nth r.regs 0)).width)<;>rfl
 have h2:decide (r.regs=[])= !decide (0<r.regs.length):=by
  rw[←decide_not,decide_eq_decide]
  cases r.regs<;>simp
 rw[h1,h2,aK]
 cases ck r.name<;>cases D<;>cases decide (0<r.regs.length)<;>cases (List.range r.regs.length).all (uO m r)<;>rfl
theorem mV(m:aw):nd m=lQ m:=by
 unfold nd lQ pE lP
 rw[Bool.eq_iff_iff]
 simp only[aK,Bool.not_eq_true',Bool.or_eq_false_iff,decide_eq_false_iff_not,Bool.and_eq_true,decide_eq_true_eq,List.any_eq_false,List.all_eq_true]
 have hb:∀b:qw,(¬jZ b=true)↔jm b=true:=by
  intro b;simp only[jZ,jm,decide_eq_true_eq];omega
 have hi:∀s:dh,(¬ka s=true)↔nn s=true:=by
  intro s
  simp only[ka,nn,pL,aK,Bool.or_eq_true,Bool.and_eq_true,decide_eq_true_eq,not_or,List.any_eq_true,List.all_eq_true,not_exists,not_and]
  have ho:∀o:n8,(¬lI o=true)↔nk o=true:=by
   intro o;simp only[lI,nk,decide_eq_true_eq];omega
  simp only[ho]
  constructor
  ·rintro⟨⟨h1,h2⟩,h3⟩;exact⟨by omega,by omega,h3⟩
  ·rintro⟨h1,h2,h3⟩;exact⟨⟨by omega,by omega⟩,h3⟩
 simp only[hb,hi]
 constructor
 ·rintro⟨⟨⟨⟨h1,h2⟩,h3⟩,h4⟩,h5,h6⟩;exact⟨⟨by omega,by omega,by omega,by omega⟩,h5,h6⟩
 ·rintro⟨⟨h1,h2,h3,h4⟩,h5,h6⟩;exact⟨⟨⟨⟨by omega,by omega⟩,by omega⟩,by omega⟩,h5,h6⟩
def xD(p:rR):Nat:=(2^p.len.toNat-1)*2^p.pos.toNat
theorem xC(p:rR)(b:Nat):(xD p).testBit b=decide (p.pos.toNat≤b∧b<p.pos.toNat+p.len.toNat):=by
 unfold xD
 rw[Nat.mul_comm,Nat.testBit_two_pow_mul,Nat.testBit_two_pow_sub_one]
 rw[Bool.eq_iff_iff]
 simp only[ge_iff_le,Bool.and_eq_true,decide_eq_true_eq]
 omega
def nO(W:Nat)(p:rR):Prop:=1≤p.len∧0≤p.pos∧p.pos+p.len≤W
theorem BW{W:Nat}{p:rR}(h:nO W p):xD p<2^W:=by
 obtain⟨h1,h2,h3⟩:=h
 apply Nat.lt_pow_two_of_testBit
 intro i hi
 rw[xC,decide_eq_false_iff_not]
 omega
theorem x5{W:Nat}(hW:W≤64){p:rR}(h:nO W p)(b:Nat):oP b p=(xD p).testBit b:=by
 obtain⟨h1,h2,h3⟩:=h
 unfold oP
 rw[wrap64 (a:=p.pos+p.len) (by omega) (by omega),wrap64 (by omega) (by omega),xC,Bool.eq_iff_iff,fU,decide_eq_true_eq]
 omega
theorem Ec{W:Nat}(hW:W≤64){p:rR}(h:nO W p):vJ p=(xD p:Nat):=by
 have bW:=BW h
 obtain⟨h1,h2,h3⟩:=h
 unfold vJ
 obtain⟨l,hl⟩:∃l:Nat,p.len=l:=⟨p.len.toNat,by omega⟩
 have e1:min p.pos.toNat 64=p.pos.toNat:=by omega
 have e2:br p.len*2^p.pos.toNat=((xD p:Nat):Int):=by
  unfold xD
  rw[hl,qi (by omega) (by omega),Int.toNat_natCast]
  norm_cast
 have e3:2^W≤2^64:=Nat.pow_le_pow_right (by decide) hW
 rw[e1,e2,f_ (by omega) (by omega)]
def tH(l:List rR):Nat:=l.foldl (fun t p=>t|||xD p) 0
theorem Wc{a b W:Nat}(ha:a<2^W)(hb:b<2^W):a|||b<2^W:=Nat.or_lt_two_pow ha hb
theorem nC{α β:Type}(f:β→α→β)(b:β)(l:List α)(x:α):(l++[x]).foldl f b=f (l.foldl f b) x:=by simp
theorem v8{W:Nat}(hW:W≤64)(l:List rR)(h:∀p∈l,nO W p):∀k,k≤l.length→cG (l.take k)=(tH (l.take k):Nat)∧tH (l.take k)<2^W∧∀b,(tH (l.take k)).testBit b=decide (0<gr b (l.take k))
 |0,_=>by simp[cG,tH,gr,eu];exact Nat.pow_pos (by decide)
 |k+1,hk=>by
  obtain⟨h1,h2,h3⟩:=v8 hW l h k (by omega)
  have bT:k<l.length:=by omega
  have hp:=h l[k] (List.getElem_mem bT)
  have bW:=BW hp
  have e3:2^W≤2^64:=Nat.pow_le_pow_right (by decide) hW
  have e:l.take (k+1)=l.take k++[l[k]]:=List.take_succ_eq_append_getElem bT
  have et:tH (l.take (k+1))=tH (l.take k)|||xD l[k]:=by rw[e];unfold tH;rw[nC]
  refine⟨?_, ?_, ?_⟩
  ·rw[e]
   unfold cG
   rw[nC]
   show KY .u64 (cG (l.take k)) (vJ l[k])=_
   rw[h1,Ec hW hp,wa (by omega) (by omega),←et,e]
  ·rw[et];exact Wc h2 bW
  ·intro b
   rw[et,Nat.testBit_or,h3 b,←x5 hW hp b]
   unfold gr
   rw[ff (x:=l[k]) _ bT (fun _=>rfl)]
   cases oP b l[k]<;>simp
theorem and_zero(a b:Nat):a&&&b=0↔∀i,¬(a.testBit i=true∧b.testBit i=true):=by
 constructor
 ·intro h i hi
  have:(a&&&b).testBit i=true:=by rw[Nat.testBit_and,hi.1,hi.2];rfl
  rw[h] at this;simp at this
 ·intro h
  apply Nat.eq_of_testBit_eq
  intro i
  rw[Nat.testBit_and,Nat.zero_testBit]
  have:=h i
  cases ha:a.testBit i<;>cases hb:b.testBit i<;>simp_all
theorem D0{word:Int}(hw:1≤word∧word≤4)(p:rR):qK word p=true↔nO (8*word).toNat p:=by
 unfold qK nO
 rw[wrap64 (a:=8*word) (by omega) (by omega)]
 simp only[Bool.and_eq_true,fU,decide_eq_true_eq]
 constructor
 ·rintro⟨h1,h2,h3⟩
  rw[wrap64 (by omega) (by omega)] at h3
  omega
 ·rintro⟨h1,h2,h3⟩
  have:p.len≤32:=by omega
  rw[wrap64 (by omega) (by omega)]
  omega
theorem Je(word:Int)(p:rR):zy word p=qK word p:=by
 unfold zy qK
 rw[Bool.eq_iff_iff]
 simp only[ak,Bool.and_eq_true,fU,decide_eq_true_eq]
theorem DZ{word:Int}(hw:1≤word∧word≤4)(l:List rR):∀k,k≤l.length→(eO word l k=true↔(∀p∈l.take k,nO (8*word).toNat p)∧∀b,gr b (l.take k)≤1)
 |0,_=>by simp[eO,gr,eu]
 |k+1,hk=>by
  have bT:k<l.length:=by omega
  have e:l.take (k+1)=l.take k++[l[k]]:=List.take_succ_eq_append_getElem bT
  have hW:(8*word).toNat≤64:=by omega
  have ih:=DZ hw l k (by omega)
  have es:eO word l (k+1)=(eO word l k&&(qK word l[k]&&decide (mg .u64 (cG (l.take k)) (vJ l[k])=0))):=by
   unfold eO
   rw[List.range_succ,List.all_append]
   simp[bq l k bT]
  rw[es,Bool.and_eq_true,Bool.and_eq_true,ih,D0 hw,decide_eq_true_eq]
  have hs:∀b,gr b (l.take (k+1))=gr b (l.take k)+(if oP b l[k]=true then 1 else 0):=by
   intro b;unfold gr;rw[ff (x:=l[k]) _ bT (fun _=>rfl)]
  have key:(∀p∈l.take k,nO (8*word).toNat p)→nO (8*word).toNat l[k]→(mg .u64 (cG (l.take k)) (vJ l[k])=0↔∀b,¬(0<gr b (l.take k)∧oP b l[k]=true)):=by
   intro ha hb
   obtain⟨t1,t2,t3⟩:=v8 hW (l.take k) ha k (by simp;omega)
   rw[List.take_take,Nat.min_self] at t1 t2 t3
   have bW:=BW hb
   have e3:2^(8*word).toNat≤2^64:=Nat.pow_le_pow_right (by decide) hW
   rw[t1,Ec hW hb,yZ (by omega) (by omega)]
   rw[show(((tH (l.take k)&&&xD l[k]:Nat):Int)=0↔tH (l.take k)&&&xD l[k]=0) by omega,and_zero]
   simp only[t3,←x5 hW hb,decide_eq_true_eq]
  constructor
  ·rintro⟨⟨h1,h2⟩,h3,h4⟩
   have h4:=(key h1 h3).1 h4
   refine⟨?_,fun b=> ?_⟩
   ·rw[e]
    intro p hp
    rcases List.mem_append.1 hp with hp|hp
    ·exact h1 p hp
    ·rw[List.mem_singleton.1 hp];exact h3
   ·rw[hs b]
    have a:=h2 b
    have c:=h4 b
    split
    ·rename_i hh
     have:¬0<gr b (l.take k):=fun q=>c ⟨q,hh⟩
     omega
    ·omega
  ·rintro⟨h1,h2⟩
   rw[e] at h1
   have g1:∀p∈l.take k,nO (8*word).toNat p:=fun p hp=>h1 p (List.mem_append.2 (Or.inl hp))
   have g3:nO (8*word).toNat l[k]:=h1 _ (List.mem_append.2 (Or.inr (by simp)))
   have g2:∀b,gr b (l.take k)≤1:=fun b=>by have:=h2 b;rw[hs b] at this;omega
   refine⟨⟨g1,g2⟩,g3,(key g1 g3).2 fun b hb=> ?_⟩
   have:=h2 b
   rw[hs b,if_pos hb.2] at this
   omega
def Bq(M:Nat)(l:List n8):Nat:=l.foldl (fun t o=>t|||tH o.pieces) M
theorem Dx{W:Nat}(hW:W≤64)(M:Nat)(hM:M<18446744073709551616)(l:List n8)(h:∀o∈l,∀p∈o.pieces,nO W p):∀k,k≤l.length→
  (l.take k).foldl (fun t o=>KY .u64 t (cG o.pieces)) (M:Int)=(Bq M (l.take k):Nat)∧Bq M (l.take k)<18446744073709551616∧∀b,(Bq M (l.take k)).testBit b=(M.testBit b||decide (0<hJ b (l.take k)))
 |0,_=>by simp[Bq,hJ,eu,hM]
 |k+1,hk=>by
  obtain⟨h1,h2,h3⟩:=Dx hW M hM l h k (by omega)
  have bT:k<l.length:=by omega
  have hp:=h l[k] (List.getElem_mem bT)
  obtain⟨t1,t2,t3⟩:=v8 hW l[k].pieces hp l[k].pieces.length (Nat.le_refl _)
  rw[List.take_length] at t1 t2 t3
  have e3:2^W≤2^64:=Nat.pow_le_pow_right (by decide) hW
  have e:l.take (k+1)=l.take k++[l[k]]:=List.take_succ_eq_append_getElem bT
  have et:Bq M (l.take (k+1))=Bq M (l.take k)|||tH l[k].pieces:=by rw[e];unfold Bq;rw[nC]
  refine⟨?_, ?_, ?_⟩
  ·rw[e,nC,h1,t1,wa (by omega) (by omega),←et,e]
  ·rw[et];exact Wc (W:=64) h2 (by omega)
  ·intro b
   rw[et,Nat.testBit_or,h3 b,t3 b]
   unfold hJ
   rw[ff (x:=l[k]) _ bT (fun _=>rfl),Bool.or_assoc]
   congr 1
   rw[Bool.eq_iff_iff]
   simp only[Bool.or_eq_true,decide_eq_true_eq]
   omega
theorem xm{word:Int}(hw:1≤word∧word≤4)(M:Nat)(hM:M<18446744073709551616)(l:List n8):∀k,k≤l.length→
  (((List.range k).all fun i=>eO word (nth l (i:Int)).pieces (nth l (i:Int)).pieces.length&&decide (mg .u64 ((l.take i).foldl (fun t o=>KY .u64 t (cG o.pieces)) (M:Int)) (cG (nth l (i:Int)).pieces)=0))=true↔
    (∀o∈l.take k,∀p∈o.pieces,nO (8*word).toNat p)∧(∀o∈l.take k,∀b,gr b o.pieces≤1)∧∀b,0<hJ b (l.take k)→hJ b (l.take k)≤1∧M.testBit b=false)
 |0,_=>by simp[hJ,eu]
 |k+1,hk=>by
  have bT:k<l.length:=by omega
  have hW:(8*word).toNat≤64:=by omega
  have e:l.take (k+1)=l.take k++[l[k]]:=List.take_succ_eq_append_getElem bT
  have ih:=xm hw M hM l k (by omega)
  have Nj:=DZ hw l[k].pieces l[k].pieces.length (Nat.le_refl _)
  rw[List.take_length] at Nj
  rw[List.range_succ,List.all_append,Bool.and_eq_true,ih]
  simp only[List.all_cons,List.all_nil,Bool.and_true,Bool.and_eq_true,bq l k bT,decide_eq_true_eq]
  rw[Nj]
  have hs:∀b,hJ b (l.take (k+1))=hJ b (l.take k)+gr b l[k].pieces:=by
   intro b;unfold hJ;rw[ff (x:=l[k]) _ bT (fun _=>rfl)]
  have key:(∀o∈l.take k,∀p∈o.pieces,nO (8*word).toNat p)→(∀p∈l[k].pieces,nO (8*word).toNat p)→
    (mg .u64 ((l.take k).foldl (fun t o=>KY .u64 t (cG o.pieces)) (M:Int)) (cG l[k].pieces)=0↔∀b,¬((M.testBit b||decide (0<hJ b (l.take k)))=true∧0<gr b l[k].pieces)):=by
   intro ha hb
   obtain⟨t1,t2,t3⟩:=v8 hW l[k].pieces hb l[k].pieces.length (Nat.le_refl _)
   rw[List.take_length] at t1 t2 t3
   obtain⟨u1,u2,u3⟩:=Dx hW M hM (l.take k) ha k (by simp;omega)
   rw[List.take_take,Nat.min_self] at u1 u2 u3
   have e3:2^(8*word).toNat≤2^64:=Nat.pow_le_pow_right (by decide) hW
   rw[u1,t1,yZ (by omega) (by omega)]
   rw[show(((Bq M (l.take k)&&&tH l[k].pieces:Nat):Int)=0↔Bq M (l.take k)&&&tH l[k].pieces=0) by omega,and_zero]
   simp only[u3,t3,decide_eq_true_eq]
  constructor
  ·rintro⟨⟨h1,h2,h3⟩,⟨g1,g2⟩,g3⟩
   have g3:=(key h1 g1).1 g3
   refine⟨?_, ?_,fun b hb=> ?_⟩
   ·rw[e]
    intro o ho
    rcases List.mem_append.1 ho with ho|ho
    ·exact h1 o ho
    ·rw[List.mem_singleton.1 ho];exact g1
   ·rw[e]
    intro o ho
    rcases List.mem_append.1 ho with ho|ho
    ·exact h2 o ho
    ·rw[List.mem_singleton.1 ho];exact g2
   ·rw[hs b] at hb ⊢
    have a:=h3 b
    have c:=g3 b
    have d:=g2 b
    by_cases q:0<gr b l[k].pieces
    ·have c':¬((M.testBit b||decide (0<hJ b (l.take k)))=true):=fun x=>c ⟨x,q⟩
     simp only[Bool.or_eq_true,decide_eq_true_eq,not_or,Bool.not_eq_true] at c'
     exact⟨by omega,c'.1⟩
    ·have:=a (by omega)
     exact⟨by omega,this.2⟩
  ·rintro⟨h1,h2,h3⟩
   rw[e] at h1 h2
   have q1:∀o∈l.take k,∀p∈o.pieces,nO (8*word).toNat p:=fun o ho=>h1 o (List.mem_append.2 (Or.inl ho))
   have q2:∀o∈l.take k,∀b,gr b o.pieces≤1:=fun o ho=>h2 o (List.mem_append.2 (Or.inl ho))
   have q3:∀p∈l[k].pieces,nO (8*word).toNat p:=h1 _ (List.mem_append.2 (Or.inr (by simp)))
   have q4:∀b,gr b l[k].pieces≤1:=h2 _ (List.mem_append.2 (Or.inr (by simp)))
   refine⟨⟨q1,q2,fun b hb=> ?_⟩,⟨q3,q4⟩,(key q1 q3).2 fun b hb=> ?_⟩
   ·have:=h3 b (by rw[hs b];omega)
    rw[hs b] at this
    exact⟨by omega,this.2⟩
   ·have:=h3 b (by rw[hs b];omega)
    rw[hs b] at this
    have c:=hb.1
    simp only[Bool.or_eq_true,decide_eq_true_eq] at c
    rcases c with c|c
    ·rw[this.2] at c;exact absurd c (by simp)
    ·omega
theorem yR(x b:Nat):iH (x:Int) b=if x.testBit b=true then 1 else 0:=by
 unfold iH
 rw[show((x:Int)/2^b % 2)=((x/2^b % 2:Nat):Int) by norm_cast,Nat.testBit_eq_decide_div_mod_eq]
 have:x/2^b % 2=0∨x/2^b % 2=1:=by omega
 rcases this with h|h<;>rw[h]<;>rfl
theorem vE{a b:Nat}(ha:a<18446744073709551616)(hb:b<18446744073709551616):kj .u64 a b=0↔∀i,i<64→¬(a.testBit i=true∧b.testBit i=false):=by
 have e:kj .u64 a b=((BitVec.ofNat 64 a&&&~~~ BitVec.ofNat 64 b).toNat:Int):=by
  unfold kj
  show IntKind.u64.wrap ((BitVec.ofInt 64 (a:Int)&&&~~~ BitVec.ofInt 64 (b:Int)).toNat:Int)=_
  rw[BitVec.ofInt_natCast,BitVec.ofInt_natCast]
  have:=(BitVec.ofNat 64 a&&&~~~ BitVec.ofNat 64 b).isLt
  exact f_ (by omega) (by omega)
 rw[e]
 constructor
 ·intro h i hi hc
  have h0:(BitVec.ofNat 64 a&&&~~~ BitVec.ofNat 64 b)=0#64:=by
   apply BitVec.eq_of_toNat_eq;simpa using h
  have:=congrArg (fun v=>BitVec.getLsbD v i) h0
  simp only[BitVec.getLsbD_and,BitVec.getLsbD_not,BitVec.getLsbD_ofNat,hc.1,hc.2,decide_eq_true hi,Bool.true_and,Bool.not_false,Bool.and_true] at this
  simp at this
 ·intro h
  have h0:(BitVec.ofNat 64 a&&&~~~ BitVec.ofNat 64 b)=0#64:=by
   apply BitVec.eq_of_getLsbD_eq
   intro i hi
   have:=h i hi
   simp only[BitVec.getLsbD_and,BitVec.getLsbD_not,BitVec.getLsbD_ofNat,decide_eq_true hi,Bool.true_and]
   cases h1:a.testBit i
   ·simp
   ·cases h2:b.testBit i
    ·exact absurd ⟨h1,h2⟩ this
    ·simp
  rw[h0];rfl
theorem Pd{m:aw}{s:dh}(hw:1≤m.word∧m.word≤4)(h1:0≤s.mask∧s.mask<18446744073709551616)(h2:0≤s.mat∧s.mat<18446744073709551616):xH m s=(qj m s&& !Eg s):=by
 obtain⟨M,hM⟩:∃n:Nat,s.mask=n:=⟨s.mask.toNat,by omega⟩
 obtain⟨T,hT⟩:∃n:Nat,s.mat=n:=⟨s.mat.toNat,by omega⟩
 unfold xH qj Eg
 have e8:IntKind.i64.wrap (8*m.word)=(((8*m.word).toNat:Nat):Int):=by rw[wrap64 (by omega) (by omega)];omega
 have hW:1≤(8*m.word).toNat∧(8*m.word).toNat≤64:=by omega
 generalize (8*m.word).toNat=W at*
 have e3:2^W≤2^64:=Nat.pow_le_pow_right (by decide) hW.2
 have e4:0<2^W:=Nat.pow_pos (by decide)
 rw[e8,qi hW.1 hW.2,hM,hT,ak,Bool.eq_iff_iff]
 simp only[Bool.and_eq_true,decide_eq_true_eq,Bool.not_eq_true',List.any_eq_false,List.mem_range]
 rw[vE (by omega) (by omega),vE (by omega) (by omega)]
 have a1:(∀i,i<64→¬(M.testBit i=true∧(2^W-1).testBit i=false))↔((M:Int)/2^W=0):=by
  rw[show((M:Int)/2^W=0)↔M<2^W by
   rw[show(M:Int)/2^W=((M/2^W:Nat):Int) by norm_cast,←Nat.div_eq_zero_iff_lt e4];omega]
  simp only[Nat.testBit_two_pow_sub_one,decide_eq_false_iff_not]
  constructor
  ·intro h
   apply Nat.lt_pow_two_of_testBit
   intro i hi
   cases hb:M.testBit i with
   |false=>rfl
   |true=>
    have ayL:i<64:=by
     apply Classical.byContradiction
     intro hc
     have:M<2^i:=Nat.lt_of_lt_of_le (show M<2^64 by omega) (Nat.pow_le_pow_right (by decide) (by omega))
     rw[Nat.testBit_lt_two_pow this] at hb
     exact absurd hb (by simp)
    exact absurd ⟨hb,by omega⟩ (h i ayL)
  ·rintro h i hi ⟨c1,c2⟩
   have:M<2^i:=Nat.lt_of_lt_of_le h (Nat.pow_le_pow_right (by decide) (by omega))
   rw[Nat.testBit_lt_two_pow this] at c1
   exact absurd c1 (by simp)
 have a2:(∀i,i<64→¬(T.testBit i=true∧M.testBit i=false))↔(∀x,x<64→¬iH (M:Int) x<iH (T:Int) x):=by
  have:∀x,(T.testBit x=true∧M.testBit x=false)↔iH (M:Int) x<iH (T:Int) x:=by
   intro x
   rw[yR,yR]
   cases T.testBit x<;>cases M.testBit x<;>simp
  simp only[this]
 rw[a1,a2]
theorem uC(s:dh)(i:Nat)(hi:i<s.opds.length):cW (dP s i) (nth s.opds (i:Int)).name=(ck (nth s.opds (i:Int)).name&&(!cc (nth s.opds (i:Int)).name ⟨#[112,99]⟩&& !uI s.opds i)):=by
 unfold cW dP uI
 rw[List.any_cons,List.any_map,te s.opds _ i (by omega),Bool.not_or]
 congr 3
 congr 1
 funext j
 simp only[Function.comp_def]
 rw[pO]
theorem qM(m:aw)(s:dh):ou m s s.opds.length=(((List.range s.opds.length).all fun i=>cW (dP s i) (nth s.opds (i:Int)).name&&cY m s i (nth s.opds (i:Int)))&&
  (List.range s.opds.length).all fun i=>eO m.word (nth s.opds (i:Int)).pieces (nth s.opds (i:Int)).pieces.length&&decide (mg .u64 ((s.opds.take i).foldl (fun t o=>KY .u64 t (cG o.pieces)) s.mask) (cG (nth s.opds (i:Int)).pieces)=0)):=by
 unfold ou Mm N_
 rw[Bool.eq_iff_iff]
 simp only[List.all_eq_true,List.mem_range,Bool.and_eq_true]
 constructor
 ·intro h
  exact⟨fun i hi=>⟨(h i hi).1.1,(h i hi).1.2.2⟩,fun i hi=>⟨(h i hi).1.2.1,(h i hi).2⟩⟩
 ·rintro⟨h1,h2⟩ i hi
  exact⟨⟨(h1 i hi).1,(h2 i hi).1,(h1 i hi).2⟩,(h2 i hi).2⟩
def Eb(m:aw)(s:dh):Bool:=(List.range s.opds.length).all fun i=>cW (dP s i) (nth s.opds (i:Int)).name&&cY m s i (nth s.opds (i:Int))
theorem vd(m:aw)(s:dh):(!((List.range s.opds.length).any fun i=> !jL m s i))=(Eb m s&&s.opds.all fun o=>o.pieces.all (qK m.word)):=by
 rw[nu,Bool.eq_iff_iff]
 unfold Eb jL xq
 simp only[List.all_eq_true,List.mem_range,Bool.not_not,Bool.and_eq_true]
 constructor
 ·intro h
  refine⟨fun i hi=> ?_,fun o ho p hp=> ?_⟩
  ·obtain⟨h1,h2⟩:=h i hi
   rw[uC s i hi]
   simp only[aK,Bool.not_or,Bool.and_eq_true,Bool.not_not] at h1
   simp only[Bool.and_eq_true]
   exact⟨⟨h1.1.1.1,h1.1.1.2,h1.2⟩,h2⟩
  ·obtain⟨i,hi,rfl⟩:=List.mem_iff_getElem.1 ho
   obtain⟨h1,_⟩:=h i hi
   simp only[aK,Bool.not_or,Bool.and_eq_true,Bool.not_not,bq _ i hi,List.all_eq_true] at h1
   rw[←Je];exact h1.1.2 p hp
 ·rintro⟨h1,h2⟩ i hi
  obtain⟨g1,g2⟩:=h1 i hi
  rw[uC s i hi] at g1
  simp only[Bool.and_eq_true] at g1
  refine⟨?_,g2⟩
  simp only[aK,Bool.not_or,Bool.and_eq_true,Bool.not_not,List.all_eq_true]
  refine⟨⟨⟨g1.1,g1.2.1⟩,fun p hp=> ?_⟩,g1.2.2⟩
  rw[Je]
  exact h2 (nth s.opds (i:Int)) (by rw[bq _ i hi];exact List.getElem_mem hi) p hp
theorem AG(b:Nat):∀(l:List n8) (o:n8),o∈l→gr b o.pieces≤hJ b l
 |[],_,h=>by simp at h
 |x::l,o,h=>by
  unfold hJ
  simp only[eu]
  rcases List.mem_cons.1 h with rfl|h
  ·omega
  ·have:=AG b l o h
   unfold hJ at this;omega
theorem EP{W:Nat}(hW:W≤64){b:Nat}(hb:W≤b):∀l:List rR,(∀p∈l,nO W p)→gr b l=0
 |[],_=>rfl
 |p::l,h=>by
  have ih:=EP hW hb l fun q hq=>h q (by simp[hq])
  have hp:=h p (by simp)
  unfold gr at ih ⊢
  simp only[eu,ih]
  rw[x5 hW hp,xC]
  obtain⟨h1,h2,h3⟩:=hp
  rw[decide_eq_false (by omega)]
  rfl
theorem EO{W:Nat}(hW:W≤64){b:Nat}(hb:W≤b):∀l:List n8,(∀o∈l,∀p∈o.pieces,nO W p)→hJ b l=0
 |[],_=>rfl
 |o::l,h=>by
  have ih:=EO hW hb l fun q hq=>h q (by simp[hq])
  have ho:=EP hW hb o.pieces (h o (by simp))
  unfold hJ at ih ⊢
  simp only[eu,ih,ho]
theorem UT{m:aw}{s:dh}(hw:1≤m.word∧m.word≤4)(h1:0≤s.mask∧s.mask<18446744073709551616)(h2:0≤s.mat∧s.mat<18446744073709551616):
  (xH m s&&ou m s s.opds.length)=(qj m s&&(!Eg s&&(!((List.range s.opds.length).any fun i=> !jL m s i)&&jk m s))):=by
 rw[Pd hw h1 h2,qM,vd,Bool.and_assoc]
 cases Xs:qj m s with
 |false=>rfl
 |true=>
  cases Eg s with
  |true=>rfl
  |false=>
   simp only[Bool.true_and,Bool.not_false]
   show(Eb m s&&_)=_
   rw[Bool.and_assoc]
   cases Eb m s with
   |false=>rfl
   |true=>
    simp only[Bool.true_and]
    obtain⟨M,hM⟩:∃n:Nat,s.mask=n:=⟨s.mask.toNat,by omega⟩
    have hMl:M<18446744073709551616:=by omega
    have key:=xm hw M hMl s.opds s.opds.length (Nat.le_refl _)
    rw[List.take_length] at key
    rw[hM,Bool.eq_iff_iff,key]
    have hW:(8*m.word).toNat≤64:=by omega
    unfold qj at Xs
    rw[decide_eq_true_eq,hM] at Xs
    simp only[Bool.and_eq_true,List.all_eq_true,jk,Bool.not_eq_true',List.any_eq_false,List.mem_range,decide_eq_true_eq,wM,hM,yR,D0 hw]
    have e4:0<2^(8*m.word).toNat:=Nat.pow_pos (by decide)
    have hMW:M<2^(8*m.word).toNat:=by
     rw[show(M:Int)/2^(8*m.word).toNat=((M/2^(8*m.word).toNat:Nat):Int) by norm_cast] at Xs
     have:M/2^(8*m.word).toNat=0:=by omega
     exact(Nat.div_eq_zero_iff_lt e4).1 this
    constructor
    ·rintro⟨a1,a2,a3⟩
     refine⟨a1,fun b hb=> ?_⟩
     have c:=a3 b
     cases Us:M.testBit b with
     |false=>
      simp only[Bool.false_eq_true,if_false]
      by_cases q:0<hJ b s.opds
      ·have:=(c q).1;omega
      ·omega
     |true=>
      simp only[if_true]
      by_cases q:0<hJ b s.opds
      ·have:=(c q).2;rw[Us] at this;exact absurd this (by simp)
      ·omega
    ·rintro⟨a1,a2⟩
     have a3:∀b,0<hJ b s.opds→hJ b s.opds≤1∧M.testBit b=false:=by
      intro b hb
      by_cases hbW:b<(8*m.word).toNat
      ·have:=a2 b hbW
       cases Us:M.testBit b with
       |false=>rw[Us] at this;simp only[Bool.false_eq_true,if_false] at this;exact⟨by omega,rfl⟩
       |true=>rw[Us] at this;simp only[if_true] at this;omega
      ·have:=EO hW (b:=b) (by omega) s.opds a1
       omega
     refine⟨a1,fun o ho b=> ?_,a3⟩
     have:=AG b s.opds o ho
     by_cases q:0<hJ b s.opds
     ·have:=(a3 b q).1;omega
     ·omega
theorem T0{m:aw}{s:dh}(hu:m.units.length≤1000):Eu m s=(!xV s&&DM m s):=by
 have hc:∀l:List jY,jh 4 l≤l.length:=by
  intro l
  induction l with
  |nil=>exact Nat.le_refl _
  |cons x l ih=>
   unfold jh at ih ⊢
   simp only[eu,List.length_cons]
   split<;>omega
 have hc:=hc s.effs
 unfold Eu xV DM
 rw[Bool.eq_iff_iff]
 simp only[ak,aK,Bool.and_eq_true,Bool.or_eq_true,Bool.not_eq_true',Bool.or_eq_false_iff,decide_eq_true_eq,decide_eq_false_iff_not,Bool.and_eq_false_iff]
 constructor
 ·rintro⟨⟨⟨⟨⟨⟨h1,h2⟩,h3⟩,h4⟩,h5⟩,h6⟩,h7⟩
  exact⟨⟨by omega,by omega⟩,⟨⟨⟨h3,h4⟩,h5⟩,h6⟩,h7⟩
 ·rintro⟨⟨h1,h2⟩,⟨⟨⟨h3,h4⟩,h5⟩,h6⟩,h7⟩
  exact⟨⟨⟨⟨⟨⟨by omega,by omega⟩,h3⟩,h4⟩,h5⟩,h6⟩,h7⟩
theorem tP{α:Type}[Inhabited α](f:α→ByteArray)(g:α→Int)(k:ByteArray):∀(l:List α) (init:List (ByteArray×Int)),l.Pairwise (fun a b=>f a≠f b)→
  ju k (l.foldl (fun a o=>qD (f o) (g o) a) init)=match l.findIdx? (fun o=>cc (f o) k) with|some i=>some (g (nth l (i:Int)))|none=>ju k init
 |[],init,_=>rfl
 |o::r,init,h=>by
  rw[List.pairwise_cons] at h
  rw[List.foldl_cons,tP f g k r _ h.2,List.findIdx?_cons]
  by_cases he:cc (f o) k=true
  ·rw[if_pos he]
   have hn:r.findIdx? (fun o=>cc (f o) k)=none:=by
    rw[List.findIdx?_eq_none_iff]
    intro x hx
    rw[Bool.eq_false_iff]
    intro hc
    exact h.1 x hx ((gS he).trans (gS hc).symm)
   rw[hn]
   simp only[i5]
   rw[if_pos (by rw[pO];exact he)]
   rfl
  ·rw[if_neg he]
   have ET:¬cc k (f o)=true:=fun hc=>he (by rw[pO];exact hc)
   cases r.findIdx? (fun o=>cc (f o) k) with
   |none=>
    simp only[i5,Option.map_none]
    rw[if_neg ET]
   |some i=>
    simp only[Option.map_some]
    simp[nth]
theorem Oe{a b:ByteArray}(h:oa a=oa b):a=b:=by
 have:=congrArg (fun x=>x.data.toList) h
 simp only[oa,ByteArray.data_append,Array.toList_append] at this
 have:=List.append_cancel_left this
 obtain⟨⟨a⟩⟩:=a
 obtain⟨⟨b⟩⟩:=b
 simpa using this
theorem SW(a:ByteArray):cc (oa a) qd=false:=by
 rw[Bool.eq_false_iff]
 intro h
 have:=congrArg (fun x=>x.data.toList) (gS h)
 simp[oa,qd,ByteArray.data_append,Array.toList_append] at this
structure zl(m:aw)(s:dh):Prop where
 opds:s.opds.Pairwise (fun a b=>a.name≠b.name)
 pc:∀o∈s.opds,cc o.name qd=false
 regs:m.regs.Pairwise (fun a b=>a.name≠b.name)
theorem Fl{α:Type}[Inhabited α](name:α→ByteArray)(l:List α)(h:∀k,k<l.length→((List.range k).any fun j=>cc (name (nth l (j:Int))) (name (nth l (k:Int))))=false):l.Pairwise (fun a b=>name a≠name b):=by
 rw[List.pairwise_iff_getElem]
 intro i j hi hj Gx he
 have:=h j hj
 rw[List.any_eq_false] at this
 have:=this i (List.mem_range.2 Gx)
 rw[bq l i hi,bq l j hj,he] at this
 simp at this
theorem QL{m:aw}{s:dh}(h1:Eb m s=true)(h2:gJ m=true):zl m s:=by
 unfold Eb at h1
 rw[List.all_eq_true] at h1
 have g:∀i,i<s.opds.length→cc (nth s.opds (i:Int)).name qd=false∧uI s.opds i=false:=by
  intro i hi
  have:=h1 i (List.mem_range.2 hi)
  rw[uC s i hi] at this
  simp only[Bool.and_eq_true,Bool.not_eq_true'] at this
  exact⟨this.1.2.1,this.1.2.2⟩
 refine⟨Fl n8.name s.opds fun k hk=>(g k hk).2, ?_, ?_⟩
 ·intro o ho
  obtain⟨i,hi,rfl⟩:=List.mem_iff_getElem.1 ho
  have:=(g i hi).1
  rwa [bq _ i hi] at this
 ·refine Fl pT.name m.regs fun k hk=> ?_
  unfold gJ at h2
  rw[nu,Bool.and_eq_true,List.all_eq_true] at h2
  have:=h2.1 k (List.mem_range.2 hk)
  unfold mc uH at this
  simp only[Bool.not_or,Bool.and_eq_true,Bool.not_eq_true'] at this
  exact this.2.1
theorem NT{m:aw}{s:dh}(h:zl m s)(nm:ByteArray):ju nm (iQ m s.opds)=if cc nm qd=true then some m.address else match s.opds.findIdx? (fun o=>cc o.name nm) with
  |some i=>some (iP m (nth s.opds (i:Int)))
  |none=>match m.regs.findIdx? (fun r=>cc (oa r.name) nm) with
   |some i=>some (nth m.regs (i:Int)).width
   |none=>none:=by
 unfold iQ
 rw[tP n8.name (iP m) nm s.opds _ h.opds]
 unfold uX
 rw[tP (fun r=>oa r.name) pT.width nm m.regs _ (h.regs.imp fun fB he=>fB (Oe he))]
 by_cases hp:cc nm qd=true
 ·rw[if_pos hp]
  have hn:=gS hp
  have e1:s.opds.findIdx? (fun o=>cc o.name nm)=none:=by
   rw[List.findIdx?_eq_none_iff]
   intro o ho
   rw[hn];exact h.pc o ho
  have e2:m.regs.findIdx? (fun r=>cc (oa r.name) nm)=none:=by
   rw[List.findIdx?_eq_none_iff]
   intro r _
   rw[hn];exact SW r.name
  rw[e1,e2]
  simp only[ju]
  rw[if_pos hp]
 ·rw[if_neg hp]
  cases s.opds.findIdx? (fun o=>cc o.name nm) with
  |some i=>rfl
  |none=>
   cases m.regs.findIdx? (fun r=>cc (oa r.name) nm) with
   |some i=>rfl
   |none=>
    simp only[ju]
    rw[if_neg hp]
theorem yE(a b:Int):decide (a=b)=decide (b=a):=by rw[decide_eq_decide];exact eq_comm
theorem Pp{m:aw}{s:dh}(h:zl m s)(nm:ByteArray)(w:Int)(hw:1≤w):decide (gY nm (iQ m s.opds)=w)=oG m s nm w:=by
 have hz:decide ((0:Int)=w)=false:=decide_eq_false (by omega)
 unfold oG gY
 rw[NT h nm]
 have er:(fun r:pT=>cc (⟨#[114,46]⟩++r.name) nm)=(fun r:pT=>cc (oa r.name) nm):=rfl
 have ep:cc nm ⟨#[112,99]⟩=cc nm qd:=rfl
 rw[er,ep]
 by_cases hp:cc nm qd=true
 ·simp only[hp,if_true]
  exact yE _ _
 ·simp only[hp,if_false]
  cases s.opds.findIdx? (fun o=>cc o.name nm) with
  |some i=>exact yE _ _
  |none=>
   cases m.regs.findIdx? (fun r=>cc (oa r.name) nm) with
   |some i=>exact yE _ _
   |none=>exact hz
mutual
theorem Ju{m:aw}{s:dh}(h:zl m s):∀t:Tr,jl t→dE m (iQ m s.opds) t=HN m s t
 | .mk k w b n l z p,ht=>by
  simp only[dE,HN]
  have hw:1≤w:=ht.wide.1
  simp only[jl] at ht
  rw[Ep h p ht.2.2]
  congr 1
  unfold Ay T1
  by_cases k2:k=2
  ·subst k2
   rw[if_pos rfl,if_pos rfl,if_neg (by decide),Bool.and_true]
   exact Pp h n w hw
  ·rw[if_neg k2,if_neg k2,Bool.true_and]
theorem Ep{m:aw}{s:dh}(h:zl m s):∀l:List Tr,Sm l→xR m (iQ m s.opds) l=th m s l
 |[],_=>rfl
 |x::r,ht=>by
  simp only[Sm] at ht
  simp only[xR,th,Ju h x ht.1,Ep h r ht.2]
end
theorem Ia{m:aw}{s:dh}(h:zl m s){t:Tr}(hr:mZ t):ry m (iQ m s.opds) t=Cw m s t:=by
 unfold ry Cw
 rw[yK hr]
 by_cases hc:cN t=0
 ·rw[Ju h t (jE hr hc)]
 ·rw[decide_eq_false hc];rfl
theorem Pn(w:Int):vg w=gE w:=by
 unfold vg gE
 simp[aK,Bool.or_assoc]
theorem Qo{m:aw}{s:dh}(h:zl m s){x:jY}(ha:mZ x.addr)(hv:mZ x.val)(hc:mZ x.cond):rz m (iQ m s.opds) s x=dw m s x:=by
 unfold rz x9 gW dw
 rw[Ia h ha,Ia h hv,Ia h hc,Pn]
 simp only[ak,aK]
 generalize Cw m s x.addr=fa
 generalize Cw m s x.val=fv
 generalize Cw m s x.cond=fc
 generalize cj x.addr=na
 generalize cj x.cond=nc
 generalize gE x.val.width=lb
 by_cases k1:x.kind=1
 ·rw[if_pos k1,if_pos k1,if_pos k1]
  cases na<;>cases nc<;>cases fv<;>simp only[Bool.true_and,Bool.and_true,Bool.false_and,Bool.and_false,if_false,if_true,Bool.false_eq_true]
  by_cases o1:x.op=-1
  ·rw[if_pos o1]
   by_cases r1:cq x.reg 0 (m.regs.length-1)=true
   ·rw[if_pos ⟨o1,r1⟩,r1,Bool.true_and]
   ·rw[if_neg (fun q=>r1 q.2)]
    have:¬(x.reg=0∧cq x.op 0 (s.opds.length-1)=true):=by
     rintro⟨_,q⟩
     rw[fU,o1] at q
     omega
    rw[if_neg this]
    simp only[Bool.not_eq_true] at r1
    rw[r1];rfl
  ·rw[if_neg o1,if_neg (fun q=>o1 q.1)]
   by_cases q1:x.reg=0
   ·by_cases q2:cq x.op 0 (s.opds.length-1)=true
    ·rw[if_pos ⟨q1,q2⟩,q2,decide_eq_true q1];simp
    ·rw[if_neg (fun q=>q2 q.2)]
     simp only[Bool.not_eq_true] at q2
     rw[q2];simp
   ·rw[if_neg (fun q=>q1 q.1),decide_eq_false q1];simp
 ·rw[if_neg k1,if_neg k1,if_neg k1]
  generalize decide (x.op=0)=d0
  generalize decide (x.reg=0)=d1
  by_cases k2:x.kind=2
  ·rw[if_pos k2,if_pos k2]
   generalize decide (x.addr.width=m.address)=d2
   cases d0<;>cases d1<;>cases d2<;>cases fa<;>cases fv<;>cases nc<;>cases lb<;>rfl
  ·rw[if_neg k2,if_neg k2]
   by_cases k3:x.kind=3
   ·rw[if_pos k3,if_pos k3]
    generalize decide (x.val.width=m.address)=d2
    generalize decide (x.cond.width=1)=d3
    cases d0<;>cases d1<;>cases d2<;>cases d3<;>cases na<;>cases fv<;>cases nc<;>cases fc<;>rfl
   ·rw[if_neg k3,if_neg k3]
    by_cases k4:x.kind=4
    ·rw[if_pos k4,if_pos k4]
     cases d0<;>cases d1<;>cases na<;>cases fv<;>cases nc<;>rfl
    ·rw[if_neg k4,if_neg k4];simp
theorem acv{m:aw}{s:dh}(hg:Gm m)(hs:s∈m.instrs)(hw:1≤m.word∧m.word≤4)(uu:gJ m=true)(hr:∀x∈s.effs,mZ x.addr∧mZ x.val∧mZ x.cond):zB m s=qN m s:=by
 have hi:=hg.ins s hs
 unfold zB qN
 rw[UT hw hi.mask hi.mat,T0 (by have:=hg.units;omega)]
 have hn:=vd m s
 cases ho:(!((List.range s.opds.length).any fun i=> !jL m s i)) with
 |false=>simp
 |true=>
  rw[ho] at hn
  have A7:Eb m s=true:=by
   cases h:Eb m s with
   |true=>rfl
   |false=>rw[h] at hn;simp at hn
  have JG:=QL A7 uu
  have he:s.effs.all (rz m (iQ m s.opds) s)= !(s.effs.any fun x=> !dw m s x):=by
   rw[Bool.eq_iff_iff]
   simp only[List.all_eq_true,Bool.not_eq_true',List.any_eq_false,Bool.not_eq_true',Bool.not_eq_false]
   constructor
   ·intro h x hx
    have:=h x hx
    rw[Qo JG (hr x hx).1 (hr x hx).2.1 (hr x hx).2.2] at this
    simpa using this
   ·intro h x hx
    rw[Qo JG (hr x hx).1 (hr x hx).2.1 (hr x hx).2.2]
    simpa using h x hx
  rw[he]
  cases qj m s<;>cases Eg s<;>cases jk m s<;>cases (s.effs.any fun x=> !dw m s x)<;>cases xV s<;>cases DM m s<;>rfl
theorem uK{m:aw}(hg:Gm m)(hr:∀s∈m.instrs,∀x∈s.effs,mZ x.addr∧mZ x.val∧mZ x.cond):dG m=fu m:=by
 have q1:=hg.regs
 unfold dG fu
 rw[mV]
 cases vO:lQ m with
 |false=>rfl
 |true=>
  simp only[if_true]
  have hf:N5 m=jN m:=by
   unfold N5 jN vm
   rw[Tl m (by omega),QJ m (fun b hb=>by have:=hg.bregs b hb;omega),N0]
   simp only[ak,aK,Bool.and_assoc]
  rw[hf]
  unfold lB
  cases ht:jN m with
  |false=>simp
  |true=>
   simp only[Bool.true_and,if_true]
   have hw:1≤m.word∧m.word≤4:=by
    unfold jN vm at ht
    simp only[ak,Bool.and_eq_true,fU] at ht
    exact ht.1.1.2
   have uu:gJ m=true:=by
    rw[←hf] at ht
    unfold N5 at ht
    simp only[Bool.and_eq_true] at ht
    exact ht.2.2.2.1
   have e:(!(List.range m.instrs.length).any (fZ m))=(List.range m.instrs.length).all (Lq m):=by
    rw[nu]
    apply kB
    intro k hk
    unfold fZ Lq yC
    have hm:nth m.instrs (k:Int)∈m.instrs:=by rw[bq _ k hk];exact List.getElem_mem hk
    have:=pN dh.name m.instrs k hk
    rw[List.nil_append] at this
    rw[this,acv hg hm hw uu (hr _ hm)]
    cases ck (nth m.instrs (k:Int)).name<;>cases qN m (nth m.instrs (k:Int))<;>cases ((List.range k).any fun j=>cc (nth m.instrs (j:Int)).name (nth m.instrs (k:Int)).name)<;>rfl
   rw[←e]
   cases (List.range m.instrs.length).any (fZ m)<;>rfl
def VS:Sh:=.st [.int .u8,.int .i64,.int .u64,.str,.int .i64,.sl (.bot 6)]
def MQ(n:Nat):Sh:=ng VS 6 n
def aaZ:Sh:=.st [.str,.int .i64,.int .i64,.int .i64]
def ad2:Sh:=.st [.str,.sl (.int .i64)]
def aaj:Sh:=.st [.str,.int .i64]
def abh:Sh:=.st [.int .i64,.int .i64]
def abH:Sh:=.st [.str,.int .u8,.int .i64,.int .i64,.sl abh,.int .i64]
def ads(t:Sh):Sh:=.st [.int .u8,.int .i64,.int .i64,t,t,t]
def acw(t:Sh):Sh:=.st [.str,.int .u64,.int .u64,.sl abH,.sl (ads t),.int .i64,.int .i64,.int .i64,.int .i64]
def Wo(t:Sh):Sh:=.st [.str,.int .i64,.int .i64,.sl aaZ,.sl ad2,.sl aaj,.sl (acw t)]
def Bo:Sh:=.st [.int .i64,.sl (.int .i64)]
def adB:Sh:=.st [.int .i64,Bo,Bo,Bo]
def W7:Sh:=.st [.int .i64,.int .i64,.int .i64,.sl (.int .i64),.int .i64,.sl (.int .i64),.int .i64,.sl adB,Bo,Bo,Bo,Bo,.int .i64]
def Ri(x:Int):Prop:=-9223372036854775808≤x∧x≤9223372036854775807
def Ru(x:Int):Prop:=0≤x∧x<18446744073709551616
theorem dk{x:PV}(h:Is (.int .i64) x):∃n,x=.int .i64 n∧Ri n:=by
 obtain⟨n,rfl,hw⟩:=h
 refine⟨n,rfl, ?_⟩
 simp[Lit.wf,IntKind.min,IntKind.max,IntKind.signed,IntKind.bits] at hw
 unfold Ri;omega
theorem HQ{x:PV}(h:Is (.int .u64) x):∃n,x=.int .u64 n∧Ru n:=by
 obtain⟨n,rfl,hw⟩:=h
 refine⟨n,rfl, ?_⟩
 simp[Lit.wf,IntKind.min,IntKind.max,IntKind.signed,IntKind.bits] at hw
 unfold Ru;omega
theorem Ps{x:PV}(h:Is (.int .u8) x):∃n,x=.int .u8 n∧0≤n∧n≤255:=by
 obtain⟨n,rfl,hw⟩:=h
 refine⟨n,rfl, ?_⟩
 simp[Lit.wf,IntKind.min,IntKind.max,IntKind.signed,IntKind.bits] at hw
 omega
theorem uh{x:PV}(h:Is .str x):∃s,x=.str s:=by
 obtain⟨s,rfl,_⟩:=h
 exact⟨s,rfl⟩
theorem jn{α:Type}{s:Sh}(c:α→PV)(Q:α→Prop)(hd:∀y,Is s y→∃a,y=c a∧Q a){x:PV}(h:Is (.sl s) x):∃l:List α,x=.sl (l.map c)∧∀a∈l,Q a:=by
 obtain⟨es,rfl,_,he⟩:=h
 have:∀es:List PV,(∀y∈es,Is s y)→∃l:List α,es=l.map c∧∀a∈l,Q a:=by
  intro es
  induction es with
  |nil=>intro _;exact⟨[],rfl,by simp⟩
  |cons y es ih=>
   intro h
   obtain⟨a,ha,hq⟩:=hd y (h y (by simp))
   obtain⟨l,hl,hql⟩:=ih fun z hz=>h z (by simp[hz])
   exact⟨a::l,by rw[ha,hl];rfl,by simpa [hq] using hql⟩
 obtain⟨l,rfl,hl⟩:=this es he
 exact⟨l,rfl,hl⟩
theorem wi{x:PV}(h:Is (.sl (.int .i64)) x):∃l:List Int,x=ints l∧∀a∈l,Ri a:=jn i64 Ri (fun y hy=>dk hy) h
theorem wh:∀(n:Nat) (x:PV),Is (MQ n) x→∃t:Tr,x=aT t∧mZ t∧zj t
 |0,x,h=>h.elim
 |n+1,x,h=>by
  simp only[MQ,ng,VS,Sh.sub,Sh.subs,Is,jX] at h
  obtain⟨cs,rfl,y1,r1,h1,rfl,y2,r2,h2,rfl,y3,r3,h3,rfl,y4,r4,h4,rfl,y5,r5,h5,rfl,y6,r6,h6,rfl,rfl⟩:=h
  obtain⟨k,rfl,k1⟩:=Ps h1
  obtain⟨w,rfl,w1⟩:=dk h2
  obtain⟨b,rfl,b1⟩:=HQ h3
  obtain⟨nm,rfl⟩:=uh h4
  obtain⟨l,rfl,l1⟩:=dk h5
  obtain⟨s,rfl,s1⟩:=jn aT (fun t=>mZ t∧zj t) (fun y hy=>by
   obtain⟨t,h1,h2⟩:=wh n y hy
   exact⟨t,h1,h2⟩) h6
  refine⟨.mk k w b nm l false s, ?_,(pr _).2 ⟨k1,b1,w1,l1,fun x hx=>(s1 x hx).1⟩,(ll _).2 ⟨rfl,fun x hx=>(s1 x hx).2⟩⟩
  simp[aT,bA,PV.cells]
theorem ab9{x:PV}(h:Is aaZ x):∃r:pT,x=yN r∧True:=by
 simp only[aaZ,Is,jX] at h
 obtain⟨cs,rfl,y1,r1,h1,rfl,y2,r2,h2,rfl,y3,r3,h3,rfl,y4,r4,h4,rfl,rfl⟩:=h
 obtain⟨a1,rfl,_⟩:=h1
 obtain⟨a2,rfl,_⟩:=h2
 obtain⟨a3,rfl,_⟩:=h3
 obtain⟨a4,rfl,_⟩:=h4
 exact⟨⟨a1,a2,a3,a4⟩,by simp[yN,gN,PV.cells,i64],trivial⟩
theorem acg{x:PV}(h:Is ad2 x):∃r:qw,x=n4 r∧True:=by
 simp only[ad2,jX] at h
 rw[Is] at h
 obtain⟨cs,rfl,h⟩:=h
 simp only[jX] at h
 obtain⟨y1,r1,h1,rfl,y2,r2,h2,rfl,rfl⟩:=h
 obtain⟨a1,rfl⟩:=uh h1
 obtain⟨a2,rfl,_⟩:=wi h2
 exact⟨⟨a1,a2⟩,by simp[n4,fJ,PV.cells],trivial⟩
theorem ab8{x:PV}(h:Is aaj x):∃r:FY,x=CJ r∧True:=by
 rw[aaj,Is] at h
 obtain⟨cs,rfl,h⟩:=h
 simp only[jX] at h
 obtain⟨y1,r1,h1,rfl,y2,r2,h2,rfl,rfl⟩:=h
 obtain⟨a1,rfl⟩:=uh h1
 obtain⟨a2,rfl,_⟩:=dk h2
 exact⟨⟨a1,a2⟩,by simp[CJ,pV,PV.cells,i64],trivial⟩
theorem aca{x:PV}(h:Is abh x):∃r:rR,x=vS r∧True:=by
 rw[abh,Is] at h
 obtain⟨cs,rfl,h⟩:=h
 simp only[jX] at h
 obtain⟨y1,r1,h1,rfl,y2,r2,h2,rfl,rfl⟩:=h
 obtain⟨a1,rfl,_⟩:=dk h1
 obtain⟨a2,rfl,_⟩:=dk h2
 exact⟨⟨a1,a2⟩,by simp[vS,pW,PV.cells,i64],trivial⟩
theorem acb{x:PV}(h:Is abH x):∃r:n8,x=l_ r∧True:=by
 rw[abH,Is] at h
 obtain⟨cs,rfl,h⟩:=h
 simp only[jX] at h
 obtain⟨y1,r1,h1,rfl,y2,r2,h2,rfl,y3,r3,h3,rfl,y4,r4,h4,rfl,y5,r5,h5,rfl,y6,r6,h6,rfl,rfl⟩:=h
 obtain⟨a1,rfl⟩:=uh h1
 obtain⟨a2,rfl,_⟩:=Ps h2
 obtain⟨a3,rfl,_⟩:=dk h3
 obtain⟨a4,rfl,_⟩:=dk h4
 obtain⟨a5,rfl,_⟩:=jn vS (fun _=>True) (fun y hy=>aca hy) h5
 obtain⟨a6,rfl,_⟩:=dk h6
 exact⟨⟨a1,a2,a3,a4,a5,a6⟩,by simp[l_,dI,PV.cells,i64],trivial⟩
def XU(e:jY):Prop:=mZ e.addr∧mZ e.val∧mZ e.cond
theorem ace(n:Nat){x:PV}(h:Is (ads (MQ n)) x):∃r:jY,x=s8 r∧XU r:=by
 rw[ads,Is] at h
 obtain⟨cs,rfl,h⟩:=h
 simp only[jX] at h
 obtain⟨y1,r1,h1,rfl,y2,r2,h2,rfl,y3,r3,h3,rfl,y4,r4,h4,rfl,y5,r5,h5,rfl,y6,r6,h6,rfl,rfl⟩:=h
 obtain⟨a1,rfl,_⟩:=Ps h1
 obtain⟨a2,rfl,_⟩:=dk h2
 obtain⟨a3,rfl,_⟩:=dk h3
 obtain⟨a4,rfl,g4,_⟩:=wh n _ h4
 obtain⟨a5,rfl,g5,_⟩:=wh n _ h5
 obtain⟨a6,rfl,g6,_⟩:=wh n _ h6
 refine⟨⟨a1,a2,a3,a4,a5,a6⟩, ?_,g4,g5,g6⟩
 have e:∀t:Tr,(aT t).cells=aC t:=fun t=>rfl
 simp[s8,b_,PV.cells,i64]
 rfl
structure XT(s:dh):Prop where
 mask:Ru s.mask
 mat:Ru s.mat
 effs:∀e∈s.effs,XU e
theorem acd(n:Nat){x:PV}(h:Is (acw (MQ n)) x):∃r:dh,x=s7 r∧XT r:=by
 rw[acw,Is] at h
 obtain⟨cs,rfl,h⟩:=h
 simp only[jX] at h
 obtain⟨y1,r1,h1,rfl,y2,r2,h2,rfl,y3,r3,h3,rfl,y4,r4,h4,rfl,y5,r5,h5,rfl,y6,r6,h6,rfl,y7,r7,h7,rfl,y8,r8,h8,rfl,y9,r9,h9,rfl,rfl⟩:=h
 obtain⟨a1,rfl⟩:=uh h1
 obtain⟨a2,rfl,g2⟩:=HQ h2
 obtain⟨a3,rfl,g3⟩:=HQ h3
 obtain⟨a4,rfl,_⟩:=jn l_ (fun _=>True) (fun y hy=>acb hy) h4
 obtain⟨a5,rfl,g5⟩:=jn s8 XU (fun y hy=>ace n hy) h5
 obtain⟨a6,rfl,_⟩:=dk h6
 obtain⟨a7,rfl,_⟩:=dk h7
 obtain⟨a8,rfl,_⟩:=dk h8
 obtain⟨a9,rfl,_⟩:=dk h9
 exact⟨⟨a1,a2,a3,a4,a5,a6,a7,a8,a9⟩,by simp[s7,aU,PV.cells,i64],g2,g3,g5⟩
def Vu(m:aw):Prop:=∀s∈m.instrs,XT s
theorem aud(n:Nat){x:PV}(h:Is (Wo (MQ n)) x):∃m:aw,x=JT m∧Vu m:=by
 rw[Wo,Is] at h
 obtain⟨cs,rfl,h⟩:=h
 simp only[jX] at h
 obtain⟨y1,r1,h1,rfl,y2,r2,h2,rfl,y3,r3,h3,rfl,y4,r4,h4,rfl,y5,r5,h5,rfl,y6,r6,h6,rfl,y7,r7,h7,rfl,rfl⟩:=h
 obtain⟨a1,rfl⟩:=uh h1
 obtain⟨a2,rfl,_⟩:=dk h2
 obtain⟨a3,rfl,_⟩:=dk h3
 obtain⟨a4,rfl,_⟩:=jn yN (fun _=>True) (fun y hy=>ab9 hy) h4
 obtain⟨a5,rfl,_⟩:=jn n4 (fun _=>True) (fun y hy=>acg hy) h5
 obtain⟨a6,rfl,_⟩:=jn CJ (fun _=>True) (fun y hy=>ab8 hy) h6
 obtain⟨a7,rfl,g7⟩:=jn s7 XT (fun y hy=>acd n hy) h7
 exact⟨⟨a1,a2,a3,a4,a5,a6,a7⟩,by simp[JT,ah,PV.cells,i64],g7⟩
def YU(t:gf):Prop:=∀x∈t.args,Ri x
theorem re{x:PV}(h:Is Bo x):∃t:gf,x=zJ t∧YU t:=by
 rw[Bo,Is] at h
 obtain⟨cs,rfl,h⟩:=h
 simp only[jX] at h
 obtain⟨y1,r1,h1,rfl,y2,r2,h2,rfl,rfl⟩:=h
 obtain⟨a1,rfl,_⟩:=dk h1
 obtain⟨a2,rfl,g2⟩:=wi h2
 exact⟨⟨a1,a2⟩,by simp[zJ,bm,PV.cells,i64],g2⟩
def XS(v:zU):Prop:=YU v.copy∧YU v.load∧YU v.store
theorem acf{x:PV}(h:Is adB x):∃v:zU,x=iG v∧XS v:=by
 rw[adB,Is] at h
 obtain⟨cs,rfl,h⟩:=h
 simp only[jX] at h
 obtain⟨y1,r1,h1,rfl,y2,r2,h2,rfl,y3,r3,h3,rfl,y4,r4,h4,rfl,rfl⟩:=h
 obtain⟨a1,rfl,_⟩:=dk h1
 obtain⟨a2,rfl,g2⟩:=re h2
 obtain⟨a3,rfl,g3⟩:=re h3
 obtain⟨a4,rfl,g4⟩:=re h4
 refine⟨⟨a1,a2,a3,a4⟩, ?_,g2,g3,g4⟩
 simp[iG,ew,PV.cells,i64]
 rfl
structure XV(c:Conv):Prop where
 moves:∀v∈c.moves,XS v
 adjust:YU c.adjust
 call:YU c.call
 leave:YU c.leave
 nop:YU c.nop
 args:∀x∈c.args,Ri x
theorem aue{x:PV}(h:Is W7 x):∃c:Conv,x=JU c∧XV c:=by
 rw[W7,Is] at h
 obtain⟨cs,rfl,h⟩:=h
 simp only[jX] at h
 obtain⟨y1,r1,h1,rfl,y2,r2,h2,rfl,y3,r3,h3,rfl,y4,r4,h4,rfl,y5,r5,h5,rfl,y6,r6,h6,rfl,y7,r7,h7,rfl,y8,r8,h8,rfl,y9,r9,h9,rfl,y10,r10,jU,rfl,y11,r11,nz,rfl,y12,r12,wt,rfl,y13,r13,Uy,rfl,rfl⟩:=h
 obtain⟨a1,rfl,_⟩:=dk h1
 obtain⟨a2,rfl,_⟩:=dk h2
 obtain⟨a3,rfl,_⟩:=dk h3
 obtain⟨a4,rfl,g4⟩:=wi h4
 obtain⟨a5,rfl,_⟩:=dk h5
 obtain⟨a6,rfl,_⟩:=wi h6
 obtain⟨a7,rfl,_⟩:=dk h7
 obtain⟨a8,rfl,g8⟩:=jn iG XS (fun y hy=>acf hy) h8
 obtain⟨a9,rfl,g9⟩:=re h9
 obtain⟨a10,rfl,MD⟩:=re jU
 obtain⟨a11,rfl,gz⟩:=re nz
 obtain⟨a12,rfl,AL⟩:=re wt
 obtain⟨a13,rfl,_⟩:=dk Uy
 refine⟨⟨a1,a2,a3,a4,a5,a6,a7,a8,a9,a10,a11,a12,a13⟩, ?_,g8,g9,MD,gz,AL,g4⟩
 simp[JU,ax,PV.cells,i64]
 rfl
theorem GG:∀(n:Nat) (t:Tr),Dp n t→jl t→F1 n t
 |0,t,h,_=>h.elim
 |n+1,t,h,hw=>by
  refine⟨fun hk=> ?_,fun x hx=>GG n x (h.2 x hx) (hw.sub x hx)⟩
  have hn:=hw.nc
  cases hn with
  |ld=>simp[aq]
  |con=>simp[aZ] at hk
  |var=>simp[aZ] at hk
  |un k=>simp only[aZ] at hk;omega
  |bin k=>simp only[aZ] at hk;omega
  |cmp k=>simp only[aZ] at hk;omega
  |ite=>simp[aZ] at hk
  |cat=>simp[aZ] at hk
  |ext=>simp[aZ] at hk
  |wid k=>simp only[aZ] at hk;omega
theorem P4{t:Tr}(hr:mZ t)(hd:Dp 80 t)(hs:aF t≤500):Gt t∧Gr t:=
 ⟨⟨hd,⟨80,OJ 80 t hr hd⟩,hs,fun h=>GG 80 t hd (jE hr h)⟩,⟨hd,hs,fun h=>GG 80 t hd (jE hr (by rw[←yK hr];exact h))⟩⟩
theorem yg{m:aw}(h:jd m=false):(m.regs.length≤74∧m.banks.length≤26∧m.units.length≤18∧m.instrs.length≤74)∧(∀b∈m.banks,b.regs.length≤74)∧
  ∀s∈m.instrs,(s.opds.length≤14∧s.effs.length≤14)∧(∀o∈s.opds,o.pieces.length≤14)∧∀e∈s.effs,VK e:=by
 unfold jd at h
 simp only[Bool.or_eq_false_iff,List.any_eq_false] at h
 obtain⟨h1,h2,h3,_⟩:=h
 refine⟨?_,fun b hb=> ?_,fun s hs=> ?_⟩
 ·simp[rJ,aK] at h1
  omega
 ·have:=h2 b hb
  simp[pe,aK] at this
  omega
 ·have:=h3 s hs
  unfold mS at this
  simp only[Bool.not_eq_true,Bool.or_eq_false_iff,List.any_eq_false] at this
  obtain⟨g1,g2,g3⟩:=this
  refine⟨?_,fun o ho=> ?_,fun e he=>JP (by simpa using g3 e he)⟩
  ·simp[pd,aK] at g1
   omega
  ·have:=g2 o ho
   simp[pb,aK] at this
   omega
theorem EY{m:aw}(h:jd m=false)(hr:Vu m):Gm m:=by
 obtain⟨⟨h1,h2,h3,h4⟩,h5,h6⟩:=yg h
 refine⟨by omega,by omega,by omega,by omega,fun b hb=>by have:=h5 b hb;omega,fun s hs=> ?_⟩
 obtain⟨g1,g2,g3⟩:=h6 s hs
 exact⟨by omega,by omega,fun o ho=>by have:=g2 o ho;omega,(hr s hs).mask,(hr s hs).mat⟩
theorem wL{m:aw}(h:jd m=false)(hr:Vu m):∀s∈m.instrs,∀x∈s.effs,(Gt x.addr∧Gt x.val∧Gt x.cond)∧(Gr x.addr∧Gr x.val∧Gr x.cond):=by
 intro s hs x hx
 obtain⟨_,_,g3⟩:=(yg h).2.2 s hs
 obtain⟨r1,r2,r3⟩:=(hr s hs).effs x hx
 obtain⟨⟨a1,a2⟩,⟨b1,b2⟩,c1,c2⟩:=g3 x hx
 have t1:=P4 r1 a1 a2
 have t2:=P4 r2 b1 b2
 have t3:=P4 r3 c1 c2
 exact⟨⟨t1.1,t2.1,t3.1⟩,t1.2,t2.2,t3.2⟩
theorem Fv{c:Conv}(h:l7 c=false):CV c:=by
 simp[l7,lO,px,nL,aK] at h
 obtain⟨h1,h2⟩:=h
 exact⟨by omega,by omega,by omega,fun x hx=>by have:=h2 x hx;omega,by omega,by omega,by omega,by omega⟩
theorem Jc{m:aw}:∀(l:List pT) (seen:List ByteArray),iT m seen l=true→∀r∈l,∃s,tV m s r=true
 |[],_,_,r,hr=>by simp at hr
 |x::l,seen,h,r,hr=>by
  simp only[iT,Bool.and_eq_true] at h
  rcases List.mem_cons.1 hr with rfl|hr
  ·exact⟨seen,h.1⟩
  ·exact Jc l _ h.2 r hr
theorem FB{m:aw}(h:fu m=0):lQ m=true∧jN m=true∧∀s∈m.instrs,zB m s=true:=by
 unfold fu at h
 by_cases h1:lQ m=true
 ·rw[if_pos h1] at h
  by_cases h2:lB m m.instrs.length=true
  ·unfold lB at h2
   rw[Bool.and_eq_true,List.all_eq_true] at h2
   refine⟨h1,h2.1,fun s hs=> ?_⟩
   obtain⟨i,hi,rfl⟩:=List.mem_iff_getElem.1 hs
   have:=h2.2 i (List.mem_range.2 hi)
   unfold Lq at this
   rw[bq _ i hi,Bool.and_eq_true] at this
   exact this.2
  ·rw[if_neg h2] at h;omega
 ·rw[if_neg h1] at h;omega
theorem Jn{m:aw}(hg:jd m=false)(hr:Vu m)(h:fu m=0):MV m:=by
 obtain⟨hs,hf,hi⟩:=FB h
 obtain⟨g1,g2,g3⟩:=yg hg
 unfold jN at hf
 simp only[Bool.and_eq_true] at hf
 obtain⟨f1,⟨_,f2⟩,f3,_⟩:=hf
 unfold vm at f1
 simp only[ak,aK,Bool.and_eq_true,Bool.or_eq_true,decide_eq_true_eq,fU] at f1
 have zq:=yQ f3
 unfold lQ lP at hs
 simp only[Bool.and_eq_true,decide_eq_true_eq,List.all_eq_true] at hs
 have hnl:m.regs.length≤64:=by omega
 refine⟨⟨by omega,by omega,fun b hb=> ?_⟩, ?_, ?_, ?_, ?_,f1.2,qQ m.regs [] f2⟩
 ·obtain⟨b1,b2⟩:=zq b hb
  have:=hs.2.1 b hb
  simp only[jm,decide_eq_true_eq] at this
  exact⟨b1,by omega,fun r hr=>b2 r hr⟩
 ·intro r sM
  obtain⟨sn,hb⟩:=Jc m.regs [] f2 r sM
  unfold tV at hb
  simp only[Bool.and_eq_true] at hb
  obtain⟨⟨_,b1⟩,b2⟩:=hb
  have b1:=(fU _ _ _).1 b1
  refine⟨b1, ?_⟩
  by_cases ho:r.of=-1
  ·rw[if_pos ho,decide_eq_true_eq] at b2
   rw[if_pos ho]
   exact⟨by omega,b2⟩
  ·rw[if_neg ho] at b2
   rw[if_neg ho]
   by_cases hz:cq r.of 0 (IntKind.i64.wrap (m.regs.length-1))=true
   ·rw[if_pos hz] at b2
    rw[Ez _ _ (by omega),fU] at hz
    unfold Ad at b2
    simp only[ak,Bool.and_eq_true,decide_eq_true_eq,fU] at b2
    obtain⟨⟨⟨c1,c2⟩,c3⟩,c4⟩:=b2
    rw[wrap64 (by omega) (by omega)] at c4
    exact⟨by omega,by omega,c1⟩
   ·rw[if_neg hz] at b2;exact absurd b2 (by simp)
 ·intro s Ce
  have hb:=hi s Ce
  obtain⟨⟨e1,e2⟩,_,e3⟩:=g3 s Ce
  unfold zB at hb
  simp only[Bool.and_eq_true] at hb
  obtain⟨⟨_,o1⟩,o2,_⟩:=hb
  rw[qM,Bool.and_eq_true,List.all_eq_true] at o1
  refine⟨by omega,by omega,fun o ho=> ?_,fun e he hk zn=> ?_⟩
  ·obtain⟨i,zp,rfl⟩:=List.mem_iff_getElem.1 ho
   have:=o1.1 i (List.mem_range.2 zp)
   rw[bq _ i zp,Bool.and_eq_true] at this
   have:=this.2
   unfold cY at this
   split at this
   ·simp only[Bool.and_eq_true] at this
    have:=this.2
    split at this
    ·omega
    ·simp only[Bool.and_eq_true,fU] at this
     omega
   ·split at this
    ·simp only[Bool.and_eq_true,decide_eq_true_eq] at this
     omega
    ·exact absurd this (by simp)
  ·rw[List.all_eq_true] at o2
   have:=o2 e he
   unfold rz gW at this
   simp only[Bool.and_eq_true] at this
   have:=this.2.2
   rw[if_pos hk] at this
   simp only[Bool.and_eq_true] at this
   have:=this.2
   by_cases q:e.op=-1∧cq e.reg 0 (m.regs.length-1)=true
   ·have q2:=(fU _ _ _).1 q.2
    omega
   ·rw[if_neg q] at this
    by_cases q2:e.reg=0∧cq e.op 0 (s.opds.length-1)=true
    ·have:=(fU _ _ _).1 q2.2
     omega
    ·rw[if_neg q2] at this;exact absurd this (by simp)
 ·intro s Ce o ho hk
  have hb:=hi s Ce
  unfold zB at hb
  simp only[Bool.and_eq_true] at hb
  have o1:=hb.1.2
  rw[qM,Bool.and_eq_true,List.all_eq_true] at o1
  obtain⟨i,zp,rfl⟩:=List.mem_iff_getElem.1 ho
  have:=o1.1 i (List.mem_range.2 zp)
  rw[bq _ i zp,Bool.and_eq_true] at this
  have:=this.2
  unfold cY at this
  rw[if_pos hk] at this
  simp only[Bool.and_eq_true,fU] at this
  omega
 ·intro s Ce e he
  obtain⟨_,_,e3⟩:=g3 s Ce
  have:=e3 e he
  exact⟨this.1.1,this.2.1.1⟩
def Nt(m:aw)(c:Conv)(t:gf)(b:Int):Bool:=FZ (bc ⟨m,c⟩ t) b
theorem Hk:mZ (default:Tr):=(pr _).2 ⟨by decide,by decide,by decide,by decide,by intro x hx;simp[default,aq] at hx⟩
theorem IV{m:aw}{c:Conv}(hg:jd m=false)(hr:Vu m){t:gf}(h:aG m t false=true):mZ (bc ⟨m,c⟩ t).main.val∧aF (bc ⟨m,c⟩ t).main.val≤500:=by
 unfold aG at h
 simp only[Bool.and_eq_true,decide_eq_true_eq] at h
 obtain⟨s,_,_,hs,hm⟩:=aR h.1 h.2.1
 unfold bc
 simp only[hs]
 rcases ua m s.effs s.effs.length (Nat.le_refl _) with e|e
 ·rw[e]
  exact⟨Hk,by decide⟩
 ·exact⟨((hr s hm).effs _ e).2.1,(wL hg hr s hm _ e).1.2.1.sz⟩
theorem UL{m:aw}{c:Conv}(hg:jd m=false)(hr:Vu m)(hc:l7 c=false)(h:fu m=0):∀n,9000≤n→∀x∈c.moves,0≤x.bank→x.bank<m.banks.length→
  R n 54 [ag (aD ⟨m,c⟩),.p (.str ⟨#[99,111,112,121]⟩),ag (bm x.copy),ai x.bank] []=some (ab (aG m x.copy false&&Nt m c x.copy x.bank),[]):=by
 intro n hn x hx b0 b1
 have hM:=Jn hg hr h
 have hC:=Fv hc
 have ha:=(hC.mv x hx).1
 exact BJ n hn ⟨m,c⟩ x.copy x.bank hM.wb ha hM.ins (fun hs=>(hM.mt ha).vok (p:=⟨m,c⟩) hs) (fun hs=>IV hg hr hs) hM.addr
theorem adx{m:aw}{c:Conv}(hg:jd m=false)(hr:Vu m)(hc:l7 c=false)(Vs:XV c)(h:dG m=0):∀n,14000≤n→∀x∈c.moves,0≤x.bank→x.bank<m.banks.length→
  R n 92 [ag (ah m),ag (ax c),ag (bm x.copy),ai x.bank] []=some (ab (aG m x.copy false&&Nt m c x.copy x.bank),[]):=by
 intro n hn x hx b0 b1
 have h:fu m=0:=by rw[←uK (EY hg hr) (fun s hs e he=>(hr s hs).effs e he)];exact h
 have hM:=Jn hg hr h
 have hC:=Fv hc
 have ha:=(hC.mv x hx).1
 exact Hn n hn m c x.copy (hM.mt ha) x.bank b0 hM.addr (Vs.moves x hx).1 (fun hs=>IV hg hr hs)
theorem Nz{m:aw}(hg:jd m=false)(h:fu m=0):abE m:=by
 obtain⟨hs,hf,hi⟩:=FB h
 obtain⟨_,_,g3⟩:=yg hg
 unfold jN at hf
 simp only[Bool.and_eq_true] at hf
 have f1:=hf.1
 unfold vm at f1
 simp only[ak,aK,Bool.and_eq_true,Bool.or_eq_true,decide_eq_true_eq,fU] at f1
 intro s Ce
 obtain⟨⟨e1,e2⟩,e3,_⟩:=g3 s Ce
 refine⟨by omega,fun i zp=> ?_⟩
 have hb:=hi s Ce
 unfold zB at hb
 simp only[Bool.and_eq_true] at hb
 have o1:=hb.1.2
 unfold ou at o1
 rw[List.all_eq_true] at o1
 have o2:=o1 i (List.mem_range.2 zp)
 have hom:nth s.opds (i:Int)∈s.opds:=by rw[bq _ i zp];exact List.getElem_mem zp
 have Jy:=e3 _ hom
 generalize nth s.opds (i:Int)=o at*
 unfold Mm at o2
 simp only[Bool.and_eq_true] at o2
 obtain⟨⟨_,o3,o4⟩,_⟩:=o2
 have hw8:IntKind.i64.wrap (8*m.word)=8*m.word:=wrap64 (by omega) (by omega)
 have Nr:=Ic (l:=o.pieces) (by omega) (fun p hp=>by
  obtain⟨j,hj,rfl⟩:=List.mem_iff_getElem.1 hp
  unfold eO at o3
  rw[List.all_eq_true] at o3
  have:=o3 j (List.mem_range.2 hj)
  rw[bq _ j hj,Bool.and_eq_true] at this
  have:=this.1
  unfold qK at this
  rw[Bool.and_eq_true,fU,hw8] at this
  omega)
 unfold cY at o4
 refine⟨⟨by omega,fun hk=> ?_,fun hk=> ?_⟩,fun hk=> ?_⟩
 ·rw[if_neg hk] at o4
  split at o4
  ·simp only[Bool.and_eq_true,decide_eq_true_eq,fU] at o4
   obtain⟨_,_,q1,q2,q3⟩:=o4
   rw[wrap64 (by omega) (by omega)] at q3
   omega
  ·exact absurd o4 (by simp)
 ·rw[if_pos hk] at o4
  simp only[Bool.and_eq_true,fU] at o4
  omega
 ·rw[if_pos hk] at o4
  simp only[Bool.and_eq_true] at o4
  have:=o4.2
  split at this
  ·omega
  ·simp only[Bool.and_eq_true,fU] at this
   omega
theorem abG(N:Nat)(hN:18000≤N)(m:aw)(c:Conv)(t:gf)(to eE num:Int)(hr:Vu m)(Vs:XV c):R N 4 [ag (ah m),ag (ax c),ag (bm t),ai to,ai eE,ai num] []=some (ab true,[]):=by
 have aa:rows 4={}:=rfl
 obtain⟨n,rfl⟩:=up N
 rw[aE 4 Tryz.func4 rfl rfl]
 have g1:=Lf n m (by omega)
 have g2:=L3 n c (by omega)
 cases hg:jd m
 rotate_left
 ·rw[hg] at g1
  simp[aa,g1]
 rw[hg] at g1
 cases hc:l7 c
 rotate_left
 ·rw[hc] at g2
  simp[aa,g1,g2]
 rw[hc] at g2
 by_cases hw:(100:Int)<t.args.length
 ·simp[aa,g1,g2,hw]
 have hE:=uK (EY hg hr) (fun s hs e he=>(hr s hs).effs e he)
 have g4:=abB 9000 (Nt m c) n m c t to eE num (by omega) (EY hg hr) (fun s hs x hx=>(wL hg hr s hs x hx).1) (Jn hg hr) (Nz hg) (Fv hc) (by omega) (by omega) (UL hg hr hc)
 have g5:=WV 14000 (Nt m c) n m c t to eE num (by omega) hE (EY hg hr) (fun s hs x hx=>(wL hg hr s hs x hx).2) (fun h=>Jn hg hr (by rw[←hE];exact h)) (fun h=>Nz hg (by rw[←hE];exact h)) (Fv hc) (by omega) (by omega) (adx hg hr hc Vs)
 unfold ug at g4 g5
 by_cases hz:CN m c (Nt m c) t to eE num=0
 ·rw[if_pos hz] at g4 g5
  have g6:=SI n (filled c t to eE num) (filled c t to eE num) (by simp[filled];omega) (by simp[filled];omega)
  simp[aa,g1,g2,hw,g4,g5,g6]
 ·rw[if_neg hz] at g4 g5
  have g6:=L6 n (by omega)
  simp[aa,g1,g2,hw,g4,g5,g6]
end Go.En.V
