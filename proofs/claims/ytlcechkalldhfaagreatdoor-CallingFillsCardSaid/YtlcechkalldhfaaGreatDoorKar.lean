/- Part of the proof of CallingFills: engine, contracts or law, joined by a program from the texts X71. -/
import Derived.Test.YtlcechkalldhfaaGreatDoorKal
set_option linter.all false
set_option maxRecDepth 100000
set_option maxHeartbeats 4000000
namespace Go.En.V
open Go.Proofs
def Me(m:aw)(c:Conv)(i:Nat):Bool:=iW m c (nth c.args i) [c.stack,c.link]&& !((List.range i).any fun k=>decide (nth c.args k=nth c.args i))
theorem N9{l:List Int}{i:Nat}(hi:i<l.length)(x:Int):((l.take i).any fun y=>decide (x=y))=(List.range i).any fun k=>decide (nth l k=x):=by
 rw[Bool.eq_iff_iff]
 simp only[List.any_eq_true,List.mem_range,decide_eq_true_eq]
 constructor
 ·rintro⟨y,hy,rfl⟩
  obtain⟨k,hk,rfl⟩:=List.getElem_of_mem hy
  simp only[List.length_take] at hk
  exact⟨k,by omega,by rw[bq _ _ (by omega),List.getElem_take]⟩
 ·rintro⟨k,hk,rfl⟩
  have bT:k<l.length:=by omega
  refine⟨l[k], ?_,by rw[bq _ _ bT]⟩
  exact List.mem_take_iff_getElem.2 ⟨k,by omega,rfl⟩
theorem JY(m:aw)(c:Conv){i:Nat}(hi:i<c.args.length):Me m c i=vT m c i:=by
 unfold Me vT;rw[N9 hi]
theorem qf(N:Nat)(hN:1500≤N)(m:aw)(c:Conv)(h:agb m c)(hr:QP m):R N 65 [ag (ah m),ag (ax c)] []=some (ab (BK m c),[]):=by
 have aa:rows 65=_:=YB.eq_1
 obtain⟨n,rfl⟩:=up N
 rw[aE 65 Tryz.func65 rfl rfl]
 have q1:=h.al;have q2:=h.kl;have q3:=h.ml;have nr:=h.wb.nr
 have cm:=h.st
 have gq:=h.lk
 have Ve:fO m [c.stack,c.link]:=by
  intro x hx;simp at hx;rcases hx with rfl|rfl
  ·exact cm.2
  ·exact gq
 have JG:=fun r (r0:Pu m r) l (hl:l.length≤1000) (ho:fO m l)=>FU n m hr (by omega) r r0.1 r0.2 l (by omega) hl ho
 have apA:∀r,Pu m r→R n 96 [ag (ah m),ai r,.p (.sl [i64 c.stack,i64 c.link])] []=some (ab (!([c.stack,c.link].any (aP m r))),[]):=fun r r0=>JG r r0 [c.stack,c.link] (by simp) Ve
 have ny:=fun r=>Bg n (by omega) m h.wb c.bank r h.b0 h.b1
 have mG:=fun r=>O_ n (by omega) m h.wb c r (by omega) h.mv
 have x6:=fun r=>u_ n (by omega) m r
 have P9:∀r l,iW m c r l=(vh m r&&(zm m c.bank r&& !(l.any (aP m r)))):=fun r l=>by unfold iW;rw[Bool.and_assoc]
 unfold BK Dw
 by_cases c0:c.args.length<1
 ·have FG:(c.args.length:Int)<1:=by omega
  have azB:c.args=[]:=List.eq_nil_of_length_eq_zero (by omega)
  simp[aa,FG,azB]
 have FG:¬(c.args.length:Int)<1:=by omega
 have e0:decide (0<c.args.length)=true:=by simpa using Nat.lt_of_not_le (by omega)
 by_cases c1:8<c.args.length
 ·have fY:(8:Int)<(c.args.length:Int):=by omega
  have e1:decide (c.args.length≤8)=false:=by simpa using c1
  simp[aa,FG,fY,e1]
 have fY:¬(8:Int)<(c.args.length:Int):=by omega
 have e1:decide (c.args.length≤8)=true:=by simpa using Nat.le_of_not_lt c1
 rw[e0,e1,P9 c.result]
 have lz:=x6 c.result
 have acR:=ny c.result
 cases d1:vh m c.result
 ·rw[d1] at lz
  simp[aa,FG,fY,lz]
 rw[d1] at lz
 have kb:=cT.1 d1
 have apz:=apA c.result kb
 generalize zm m c.bank c.result=d2 at*
 cases d2
 ·simp[aa,FG,fY,lz,acR]
 generalize [c.stack,c.link].any (aP m c.result)=d3 at*
 cases d3
 rotate_left
 ·simp[aa,FG,fY,lz,acR,apz]
 generalize AJ:(List.range c.args.length).all (vT m c)=Q1
 generalize GA:(List.range c.kept.length).all (oJ m c)=Q2
 generalize Di:iW m c c.scratch [c.stack,c.link,c.result]=Q3
 generalize Q':c.args.any (aP m c.scratch)=Q4
 generalize RM:c.kept.any (aP m c.scratch)=Q5
 generalize XE:(decide (c.link=-1)||c.kept.any fun x=>decide (c.link=x))=Q6
 have Uu:(List.range c.args.length).any (fun i=> !Me m c i)= !Q1:=by
  rw[←AJ,←k_]
  rw[Bool.eq_iff_iff]
  simp only[List.any_eq_true,List.mem_range]
  constructor
  ·rintro⟨i,hi,e⟩;exact⟨i,hi,by rw[←JY m c hi];exact e⟩
  ·rintro⟨i,hi,e⟩;exact⟨i,hi,by rw[JY m c hi];exact e⟩
 simp[aa,FG,fY,lz,acR,apz]
 rw[acI c.args.length (fun i=> !Me m c i) (fun k=>⟨[(2,.ref 0 0),(3,.ref 1 0),(4,ab false),(5,ai k)],[bx (ah m),bx (ax c)]⟩)
  (fun k=>(.ret,⟨[(2,.ref 0 0),(3,.ref 1 0),(4,ab false),(5,ai k)],[bx (ah m),bx (ax c)]⟩)) (by omega) (by simp[aa]) (by
    intro k hk K
    have w1:=aA hk (by omega)
    obtain⟨r,mi,sM,_⟩:=ay hk
    have Sc:=x6 r
    have PW:=ny r
    have LD:=apA r
    unfold Me
    rw[sM,P9]
    cases g1:vh m r
    ·rw[g1] at Sc
     simp[aa,hk,mi,Sc]
    rw[g1] at Sc
    have LD:=LD (cT.1 g1)
    generalize zm m c.bank r=g2 at*
    cases g2
    ·simp[aa,hk,mi,Sc,PW]
    generalize [c.stack,c.link].any (aP m r)=g3 at*
    cases g3
    rotate_left
    ·simp[aa,hk,mi,Sc,PW,LD]
    generalize hP:((List.range k).any fun j=>decide (nth c.args j=r))=P
    simp[aa,hk,mi,Sc,PW,LD]
    rw[bf k (fun j=>decide (nth c.args j=r)) (fun j=>⟨[(2,.ref 0 0),(3,.ref 1 0),(4,ab false),(5,ai k),(6,ai j)],[bx (ah m),bx (ax c)]⟩)
     (fun j=>(.ret,⟨[(2,.ref 0 0),(3,.ref 1 0),(4,ab false),(5,ai k),(6,ai j)],[bx (ah m),bx (ax c)]⟩))
     (.exit 2,⟨[(2,.ref 0 0),(3,.ref 1 0),(4,ab false),(5,ai k),(6,ai k)],[bx (ah m),bx (ax c)]⟩) (by omega) (by simp[aa]) (by
       intro j hj K
       have w3:=aA hj (by omega)
       have iO:j<c.args.length:=by omega
       obtain⟨y,hy,dV,_⟩:=ay iO
       rw[dV]
       by_cases hp:y=r<;>simp[aa,hk,hj,iO,mi,hy,hp,w3]) (by simp[aa])]
    rcases ao (fun j:Nat=>decide (nth c.args j=r)) (List.range k) with⟨e1,e2,_⟩|⟨i,e1,e2,_⟩
    ·rw[e2] at hP;subst hP;rw[e1];simp[aa,w1]
    ·rw[e2] at hP;subst hP;rw[e1];simp[aa]) (by simp[aa])]
 rcases ao (fun i:Nat=> !Me m c i) (List.range c.args.length) with⟨e1,e2,_⟩|⟨i,e1,e2,_⟩
 rotate_left
 ·rw[e2] at Uu
  have:Q1=false:=by cases Q1 with
   |false=>rfl
   |true=>simp at Uu
  subst this
  rw[e1];simp[aa]
 rw[e2] at Uu
 have HW:Q1=true:=by cases Q1 with
  |true=>rfl
  |false=>simp at Uu
 subst HW
 have AI:fO m c.args:=by
  intro x hx
  obtain⟨i,hi,rfl⟩:=List.getElem_of_mem hx
  have:=List.all_eq_true.1 AJ i (List.mem_range.2 hi)
  unfold vT at this
  rw[bq _ _ hi] at this
  simp only[Bool.and_eq_true] at this
  exact(oT this.1).2
 have Vd:fO m [c.stack,c.result]:=by
  intro x hx;simp at hx;rcases hx with rfl|rfl
  ·exact cm.2
  ·exact kb.2
 by_cases c2:64<c.kept.length
 ·have ma:(64:Int)<(c.kept.length:Int):=by omega
  have e5:decide (c.kept.length≤64)=false:=by simpa using c2
  rw[e1,e5];simp[aa,ma]
 have ma:¬(64:Int)<(c.kept.length:Int):=by omega
 have e5:decide (c.kept.length≤64)=true:=by simpa using Nat.le_of_not_lt c2
 rw[e1,e5]
 simp[aa,ma]
 rw[mF c.kept.length (fun i=> !oJ m c i) (fun k=>⟨[(2,.ref 0 0),(3,.ref 1 0),(4,ab false),(7,ai k)],[bx (ah m),bx (ax c)]⟩)
  (fun k=>(.ret,⟨[(2,.ref 0 0),(3,.ref 1 0),(4,ab false),(7,ai k)],[bx (ah m),bx (ax c)]⟩))
  (.exit 4,⟨[(2,.ref 0 0),(3,.ref 1 0),(4,ab false),(7,ai c.kept.length)],[bx (ah m),bx (ax c)]⟩) (by omega) (by simp[aa]) (by
    intro k hk HX K
    have w1:=aA hk (by omega)
    obtain⟨r,mi,sM,_⟩:=ay hk
    have bT:k≤c.kept.length:=by omega
    have lz:=x6 r
    have Ci:=mG r
    have e:oJ m c k=(vh m r&&(decide (0≤fC (fun x:zU=>zm m x.bank r) c.moves)&&(!([c.stack,c.result].any (aP m r))&&(!(c.args.any (aP m r))&& !((c.kept.take k).any (aP m r)))))):=by unfold oJ;rw[sM]
    rw[e]
    cases c3:vh m r
    ·rw[c3] at lz
     simp[aa,hk,mi,lz]
    rw[c3] at lz
    have De:=cT.1 c3
    generalize fC (fun x:zU=>zm m x.bank r) c.moves=pS at*
    by_cases c4:0≤pS
    rotate_left
    ·have fF:pS<0:=by omega
     simp[aa,hk,mi,lz,Ci,c4,fF]
    have fF:¬pS<0:=by omega
    have EJ:R n 96 [ag (ah m),ai r,.p (.sl [i64 c.stack,i64 c.result])] []=some (ab (!([c.stack,c.result].any (aP m r))),[]):=JG r De [c.stack,c.result] (by simp) Vd
    have p6:=JG r De c.args (by omega) AI
    have Xu:fO m (c.kept.take k):=by
     intro x hx
     obtain⟨i,hi,rfl⟩:=List.getElem_of_mem hx
     simp only[List.length_take] at hi
     have:=HX i (by omega)
     simp only[Bool.not_eq_false'] at this
     unfold oJ at this
     rw[bq _ _ (show i<c.kept.length by omega)] at this
     simp only[Bool.and_eq_true] at this
     rw[List.getElem_take]
     exact(cT.1 this.1).2
    have Lv:R n 96 [ag (ah m),ai r,.p (.sl ((c.kept.map i64).take k))] []=some (ab (!((c.kept.take k).any (aP m r))),[]):=by
     rw[←List.map_take];exact JG r De (c.kept.take k) (by simp;omega) Xu
    generalize [c.stack,c.result].any (aP m r)=o1 at*
    generalize c.args.any (aP m r)=o2 at*
    generalize (c.kept.take k).any (aP m r)=o3 at*
    cases o1
    ·cases o2
     ·cases o3<;>simp[aa,hk,bT,mi,lz,Ci,c4,fF,EJ,p6,Lv,w1]
     ·simp[aa,hk,bT,mi,lz,Ci,c4,fF,EJ,p6,Lv,w1]
    ·simp[aa,hk,bT,mi,lz,Ci,c4,fF,EJ,p6,Lv,w1]) (by intro _ K;simp[aa])]
 have sP:(List.range c.kept.length).any (fun i=> !oJ m c i)= !Q2:=by rw[←GA];exact k_ _ _
 rcases ao (fun i:Nat=> !oJ m c i) (List.range c.kept.length) with⟨e3,e4,_⟩|⟨i,e3,e4,_⟩
 rotate_left
 ·rw[e4] at sP
  have:Q2=false:=by cases Q2 with
   |false=>rfl
   |true=>simp at sP
  subst this
  rw[e3];simp[aa]
 rw[e4] at sP
 have Nd:Q2=true:=by cases Q2 with
  |true=>rfl
  |false=>simp at sP
 subst Nd
 have JC:fO m c.kept:=by
  intro x hx
  obtain⟨i,hi,rfl⟩:=List.getElem_of_mem hx
  have:=List.all_eq_true.1 GA i (List.mem_range.2 hi)
  unfold oJ at this
  rw[bq _ _ hi] at this
  simp only[Bool.and_eq_true] at this
  exact(cT.1 this.1).2
 have Vc:fO m [c.stack,c.link,c.result]:=by
  intro x hx;simp at hx;rcases hx with rfl|rfl|rfl
  ·exact cm.2
  ·exact gq
  ·exact kb.2
 rw[e3]
 simp[aa]
 rw[av c.kept.length (fun k=>⟨[(2,.ref 0 0),(3,.ref 1 0),(9,ab (cE (decide (c.link=-1)) ((c.kept.take k).any fun x=>decide (x=c.link)))),(10,ai k)],[bx (ah m),bx (ax c)]⟩)
  (.exit 6,⟨[(2,.ref 0 0),(3,.ref 1 0),(9,ab (cE (decide (c.link=-1)) (c.kept.any fun x=>decide (x=c.link)))),(10,ai c.kept.length)],[bx (ah m),bx (ax c)]⟩) (by omega) (by simp[aa,aK]) (by
    intro k hk K
    have w1:=aA hk (by omega)
    obtain⟨r,mi,sM,_⟩:=ay hk
    have e:cE (decide (c.link=-1)) ((c.kept.take (k+1)).any fun x=>decide (x=c.link))=cE (cE (decide (c.link=-1)) ((c.kept.take k).any fun x=>decide (x=c.link))) (decide (r=c.link)):=by
     rw[List.take_succ_eq_append_getElem hk,mi hk,List.any_append];simp only[aK,List.any_cons,List.any_nil,Bool.or_false,Bool.or_assoc]
    rw[e]
    generalize cE (decide (c.link=-1)) ((c.kept.take k).any fun x=>decide (x=c.link))=A
    cases A<;>simp[aa,hk,mi,w1]) (by simp[aa])]
 have e6:cE (decide (c.link=-1)) (c.kept.any fun x=>decide (x=c.link))=Q6:=by
  rw[←XE,aK]
  congr 1
  congr 1;funext x;rw[decide_eq_decide];exact eq_comm
 rw[e6]
 rw[P9] at Di
 cases Q6
 ·simp[aa]
 have AE:=x6 c.scratch
 have Jw:=ny c.scratch
 cases g1:vh m c.scratch
 ·rw[g1] at AE Di
  rw[Bool.false_and] at Di;subst Di
  simp[aa,AE]
 rw[g1] at AE Di
 have n6:=cT.1 g1
 have Ms:R n 96 [ag (ah m),ai c.scratch,.p (.sl [i64 c.stack,i64 c.link,i64 c.result])] []=some (ab (!([c.stack,c.link,c.result].any (aP m c.scratch))),[]):=JG c.scratch n6 [c.stack,c.link,c.result] (by simp) Vc
 have hs4:=JG c.scratch n6 c.args (by omega) AI
 have hs5:=JG c.scratch n6 c.kept (by omega) JC
 rw[Q'] at hs4
 rw[RM] at hs5
 generalize zm m c.bank c.scratch=g2 at*
 generalize [c.stack,c.link,c.result].any (aP m c.scratch)=g3 at*
 rw[Bool.true_and] at Di
 subst Di
 cases g2
 ·simp[aa,AE,Jw]
 cases g3
 rotate_left
 ·simp[aa,AE,Jw,Ms]
 cases Q4<;>cases Q5<;>simp[aa,AE,Jw,Ms,hs4,hs5]
end Go.En.V
