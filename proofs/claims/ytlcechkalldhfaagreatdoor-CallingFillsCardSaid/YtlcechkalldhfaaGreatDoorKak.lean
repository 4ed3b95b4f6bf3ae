/- Part of the proof of CallingFills: engine, contracts or law, joined by a program from the texts X40 X41. -/
import Derived.Test.YtlcechkalldhfaaGreatDoorKae
set_option linter.all false
set_option maxRecDepth 100000
set_option maxHeartbeats 4000000
namespace Go.En.V
open Go.Proofs
def lT(m:aw)(r:pT):Bool:=
 if r.of=-1 then !decide (r.low=0)
 else if cq r.of 0 (m.regs.length-1)=true then
  cE (cE (!aj (decide ((nth m.regs r.of).of=-1)) (cq (nth m.regs r.of).width 1 64)) (decide ((nth m.regs r.of).width≤r.width))) (!cq r.low 0 (IntKind.i64.wrap ((nth m.regs r.of).width-r.width)))
 else true
def uH(l:List pT)(k:Nat):Bool:=(List.range k).any fun j=>cc (nth l j).name (nth l k).name
def mc(m:aw)(k:Nat):Bool:=cE (!ck (nth m.regs k).name) (!cq (nth m.regs k).width 1 64)||(uH m.regs k||lT m (nth m.regs k))
def gJ(m:aw):Bool:= !((List.range m.regs.length).any (mc m))&&decide (0<m.regs.length)
theorem K7(N:Nat)(hN:200≤N)(m:aw)(hl:m.regs.length≤100):R N 58 [ag (ah m)] []=some (ab (gJ m),[]):=by
 have aa:rows 58=_:=YG.eq_1
 obtain⟨n,rfl⟩:=up N
 rw[aE 58 Tryz.func58 rfl rfl]
 have hIn:=fun (x a b:Int)=>tr n (by omega) x a b
 have wq:=fun s=>kL n s (by omega)
 have w2:IntKind.i64.wrap ((m.regs.length:Int)-1)=(m.regs.length:Int)-1:=wrap64 (by omega) (by omega)
 simp[aa]
 rw[acN m.regs.length (mc m) (fun k=>⟨[(1,.ref 0 0),(2,ab false),(3,ai k)],[bx (ah m)]⟩)
  (fun k=>(.ret,⟨[(1,.ref 0 0),(2,ab false),(3,ai k)],[bx (ah m)]⟩)) (by omega) (by simp[aa]) (by
    intro k h _ K
    have w1:=aA h (by omega)
    obtain⟨x,hx,bI,hm⟩:=ay h
    by_cases c1:cE (!ck x.name) (!cq x.width 1 64)=true
    ·have e:mc m k=true:=by unfold mc;rw[bI,c1];rfl
     rw[e]
     unfold cq at c1
     simp[aa,h,hx,wq,hIn,c1]
    ·have c1:cE (!ck x.name) (!cq x.width 1 64)=false:=by simpa using c1
     have e:mc m k=(uH m.regs k||lT m x):=by unfold mc;rw[bI,c1];rfl
     rw[e]
     unfold cq at c1
     simp[aa,h,hx,wq,hIn,c1]
     rw[bf k (fun j=>cc (nth m.regs j).name x.name) (fun j=>⟨[(1,.ref 0 0),(2,ab false),(3,ai k),(4,.ref 1 0),(5,ai j)],[bx (ah m),bx (gN x)]⟩)
      (fun j=>(.ret,⟨[(1,.ref 0 0),(2,ab false),(3,ai k),(4,.ref 1 0),(5,ai j)],[bx (ah m),bx (gN x)]⟩))
      (.exit 2,⟨[(1,.ref 0 0),(2,ab false),(3,ai k),(4,.ref 1 0),(5,ai k)],[bx (ah m),bx (gN x)]⟩) (by omega) (by simp[aa]) (by
        intro j hj K
        have w3:=aA hj (by omega)
        have iO:j<m.regs.length:=by omega
        obtain⟨y,hy,dV,_⟩:=ay iO
        rw[dV]
        cases hp:cc y.name x.name<;>simp[aa,hj,iO,hy,hp,w3]) (by simp[aa])]
     have ed:uH m.regs k=(List.range k).any (fun j=>cc (nth m.regs j).name x.name):=by unfold uH;rw[bI]
     rw[ed]
     rcases ao (fun j:Nat=>cc (nth m.regs j).name x.name) (List.range k) with⟨e1,e2,_⟩|⟨i,e1,e2,_⟩
     ·rw[e1,e2]
      by_cases c2:x.of=-1
      ·have e3:lT m x= !decide (x.low=0):=by simp[lT,c2]
       rw[e3]
       by_cases c3:x.low=0
       ·simp[aa,eq_true c2,eq_true c3,w1]
       ·simp[aa,eq_true c2,c3,w1]
      ·by_cases c3:cq x.of 0 (m.regs.length-1)=true
       ·have c4:=c3
        simp only[cq,ak,Bool.and_eq_true,decide_eq_true_eq] at c4
        obtain⟨q,g2,hq,Ud,_⟩:=aR c4.1 (show x.of<(m.regs.length:Int) by omega)
        have e3:lT m x=cE (cE (!aj (decide (q.of=-1)) (cq q.width 1 64)) (decide (q.width≤x.width))) (!cq x.low 0 (IntKind.i64.wrap (q.width-x.width))):=by
         simp only[lT,c2,if_false,c3,if_true,Ud]
        rw[e3]
        have c5:x.of<(m.regs.length:Int):=by omega
        have c6:x.of≤(m.regs.length:Int)-1:=c4.2
        unfold cq
        cases hc:cE (cE (!aj (decide (q.of=-1)) (aj (decide (1≤q.width)) (decide (q.width≤64)))) (decide (q.width≤x.width))) (!aj (decide (0≤x.low)) (decide (x.low≤IntKind.i64.wrap (q.width-x.width))))<;>
         simp[aa,c2,hIn,w2,c4.1,c5,c6,g2,hq,hc,w1]
       ·have c3:cq x.of 0 (m.regs.length-1)=false:=by simpa using c3
        have e3:lT m x=true:=by simp only[lT,c2,if_false,c3];rfl
        rw[e3]
        unfold cq at c3
        simp[aa,c2,hIn,w2,c3]
     ·rw[e1,e2]
      simp[aa]) (by simp[aa])]
 unfold gJ
 rcases ao (mc m) (List.range m.regs.length) with⟨e1,e2,_⟩|⟨i,e1,e2,_⟩<;>simp[aa,e1,e2]
def yB(l:List FY)(k:Nat):Bool:=(List.range k).any fun j=>cc (nth l j).name (nth l k).name
def ph(m:aw)(k:Nat):Bool:=cE (!ck (nth m.units k).name) (!cq (nth m.units k).count 1 4)||yB m.units k
def mC(m:aw):Bool:= !((List.range m.units.length).any (ph m))&&decide (0<m.units.length)
theorem HA(N:Nat)(hN:200≤N)(m:aw)(hl:m.units.length≤100):R N 60 [ag (ah m)] []=some (ab (mC m),[]):=by
 have aa:rows 60=_:=YE.eq_1
 obtain⟨n,rfl⟩:=up N
 rw[aE 60 Tryz.func60 rfl rfl]
 have hIn:=fun (x a b:Int)=>tr n (by omega) x a b
 have wq:=fun s=>kL n s (by omega)
 simp[aa]
 rw[acI m.units.length (ph m) (fun k=>⟨[(1,.ref 0 0),(2,ab false),(3,ai k)],[bx (ah m)]⟩)
  (fun k=>(.ret,⟨[(1,.ref 0 0),(2,ab false),(3,ai k)],[bx (ah m)]⟩)) (by omega) (by simp[aa]) (by
    intro k h K
    have w1:=aA h (by omega)
    obtain⟨x,hx,bI,hm⟩:=ay h
    by_cases c1:cE (!ck x.name) (!cq x.count 1 4)=true
    ·have e:ph m k=true:=by unfold ph;rw[bI,c1];rfl
     rw[e]
     unfold cq at c1
     simp[aa,h,hx,wq,hIn,c1]
    ·have c1:cE (!ck x.name) (!cq x.count 1 4)=false:=by simpa using c1
     have e:ph m k=yB m.units k:=by unfold ph;rw[bI,c1];rfl
     rw[e]
     unfold cq at c1
     simp[aa,h,hx,wq,hIn,c1]
     rw[bf k (fun j=>cc (nth m.units j).name x.name) (fun j=>⟨[(1,.ref 0 0),(2,ab false),(3,ai k),(4,ai j)],[bx (ah m)]⟩)
      (fun j=>(.ret,⟨[(1,.ref 0 0),(2,ab false),(3,ai k),(4,ai j)],[bx (ah m)]⟩))
      (.exit 2,⟨[(1,.ref 0 0),(2,ab false),(3,ai k),(4,ai k)],[bx (ah m)]⟩) (by omega) (by simp[aa]) (by
        intro j hj K
        have w3:=aA hj (by omega)
        have iO:j<m.units.length:=by omega
        obtain⟨y,hy,dV,_⟩:=ay iO
        rw[dV]
        cases hp:cc y.name x.name<;>simp[aa,h,hj,iO,hx,hy,hp,w3]) (by simp[aa])]
     have ed:yB m.units k=(List.range k).any (fun j=>cc (nth m.units j).name x.name):=by unfold yB;rw[bI]
     rw[ed]
     rcases ao (fun j:Nat=>cc (nth m.units j).name x.name) (List.range k) with⟨e1,e2,_⟩|⟨i,e1,e2,_⟩<;>rw[e1,e2]<;>simp[aa,w1]) (by simp[aa])]
 unfold mC
 rcases ao (ph m) (List.range m.units.length) with⟨e1,e2,_⟩|⟨i,e1,e2,_⟩<;>simp[aa,e1,e2]
def mT(m:aw)(b:qw)(k:Nat):Bool:=
 !cq (nth b.regs k) 0 (m.regs.length-1)||((List.range k).any (fun j=>decide (nth b.regs j=nth b.regs k))|| !decide ((nth m.regs (nth b.regs k)).width=(nth m.regs (nth b.regs 0)).width))
def yD(l:List qw)(k:Nat):Bool:=(List.range k).any fun j=>cc (nth l j).name (nth l k).name
def nM(m:aw)(k:Nat):Bool:=cE (!ck (nth m.banks k).name) (decide ((nth m.banks k).regs=[]))||(yD m.banks k||(List.range (nth m.banks k).regs.length).any (mT m (nth m.banks k)))
def jx(m:aw):Bool:= !((List.range m.banks.length).any (nM m))
theorem HD(N:Nat)(hN:200≤N)(m:aw)(hr:m.regs.length≤1000)(hl:m.banks.length≤100)(hb:∀b∈m.banks,b.regs.length≤100):R N 59 [ag (ah m)] []=some (ab (jx m),[]):=by
 have aa:rows 59=_:=YF.eq_1
 obtain⟨n,rfl⟩:=up N
 rw[aE 59 Tryz.func59 rfl rfl]
 have hIn:=fun (x a b:Int)=>tr n (by omega) x a b
 have wq:=fun s=>kL n s (by omega)
 have w2:IntKind.i64.wrap ((m.regs.length:Int)-1)=(m.regs.length:Int)-1:=wrap64 (by omega) (by omega)
 simp[aa]
 rw[acI m.banks.length (nM m) (fun k=>⟨[(1,.ref 0 0),(2,ab false),(3,ai k)],[bx (ah m)]⟩)
  (fun k=>(.ret,⟨[(1,.ref 0 0),(2,ab false),(3,ai k)],[bx (ah m)]⟩)) (by omega) (by simp[aa]) (by
    intro k h K
    have w1:=aA h (by omega)
    obtain⟨x,hx,bI,hm⟩:=ay h
    have hbx:=hb x hm
    by_cases c1:cE (!ck x.name) (decide (x.regs=[]))=true
    ·have e:nM m k=true:=by unfold nM;rw[bI,c1];rfl
     rw[e]
     simp[aa,h,hx,wq,c1]
    ·have c1:cE (!ck x.name) (decide (x.regs=[]))=false:=by simpa using c1
     have e:nM m k=(yD m.banks k||(List.range x.regs.length).any (mT m x)):=by unfold nM;rw[bI,c1];rfl
     rw[e]
     simp[aa,h,hx,wq,c1,-List.any_eq_true]
     rw[bf k (fun j=>cc (nth m.banks j).name x.name) (fun j=>⟨[(1,.ref 0 0),(2,ab false),(3,ai k),(4,.ref 1 0),(5,ai j)],[bx (ah m),bx (fJ x)]⟩)
      (fun j=>(.ret,⟨[(1,.ref 0 0),(2,ab false),(3,ai k),(4,.ref 1 0),(5,ai j)],[bx (ah m),bx (fJ x)]⟩))
      (.exit 2,⟨[(1,.ref 0 0),(2,ab false),(3,ai k),(4,.ref 1 0),(5,ai k)],[bx (ah m),bx (fJ x)]⟩) (by omega) (by simp[aa]) (by
        intro j hj K
        have w3:=aA hj (by omega)
        have iO:j<m.banks.length:=by omega
        obtain⟨y,hy,dV,_⟩:=ay iO
        rw[dV]
        cases hp:cc y.name x.name<;>simp[aa,hj,iO,hy,hp,w3]) (by simp[aa])]
     have ed:yD m.banks k=(List.range k).any (fun j=>cc (nth m.banks j).name x.name):=by unfold yD;rw[bI]
     rw[ed]
     rcases ao (fun j:Nat=>cc (nth m.banks j).name x.name) (List.range k) with⟨e1,e2,_⟩|⟨i,e1,e2,_⟩
     ·rw[e1,e2]
      simp[aa,-List.any_eq_true]
      rw[mF x.regs.length (mT m x) (fun j=>⟨[(1,.ref 0 0),(2,ab false),(3,ai k),(4,.ref 1 0),(6,ai j)],[bx (ah m),bx (fJ x)]⟩)
       (fun j=>(.ret,⟨[(1,.ref 0 0),(2,ab false),(3,ai k),(4,.ref 1 0),(6,ai j)],[bx (ah m),bx (fJ x)]⟩))
       (.exit 4,⟨[(1,.ref 0 0),(2,ab false),(3,ai k),(4,.ref 1 0),(6,ai x.regs.length)],[bx (ah m),bx (fJ x)]⟩) (by omega) (by simp[aa]) (by
         intro j hj HX K
         have w3:=aA hj (by omega)
         obtain⟨y,hy,dV,_⟩:=ay hj
         by_cases c2:cq y 0 (m.regs.length-1)=true
         ·have c3:=c2
          simp only[cq,ak,Bool.and_eq_true,decide_eq_true_eq] at c3
          have c5:y<(m.regs.length:Int):=by omega
          obtain⟨q,g2,hq,Ud,_⟩:=aR c3.1 c5
          have h0:0<x.regs.length:=by omega
          obtain⟨z,hz,Cd,_⟩:=ay (k:=0) h0
          have Cd:nth x.regs 0=z:=Cd
          have c6:cq z 0 (m.regs.length-1)=true:=by
           by_cases QV:j=0
           ·subst QV
            have:y=z:=by rw[←Cd,←dV];rfl
            rw[←this];exact c2
           ·have:=HX 0 (by omega)
            unfold mT at this
            rw[show((0:Nat):Int)=0 from rfl,Cd] at this
            simp only[Bool.or_eq_false_iff,Bool.not_eq_false'] at this
            exact this.1
          simp only[cq,ak,Bool.and_eq_true,decide_eq_true_eq] at c6
          have c7:z<(m.regs.length:Int):=by omega
          obtain⟨p,g3,hp,Uf,_⟩:=aR c6.1 c7
          have e3:mT m x j=((List.range j).any (fun i=>decide (nth x.regs i=y))|| !decide (q.width=p.width)):=by
           unfold mT
           rw[dV,c2,Ud,Cd,Uf];rfl
          rw[e3]
          generalize hQ:((List.range j).any (fun i=>decide (nth x.regs i=y)))=Q
          have h0I:(0:Int)<x.regs.length:=by omega
          simp[aa,hj,hy,hIn,w2,c3]
          rw[bf j (fun i=>decide (nth x.regs i=y)) (fun i=>⟨[(1,.ref 0 0),(2,ab false),(3,ai k),(4,.ref 1 0),(6,ai j),(7,ai i)],[bx (ah m),bx (fJ x)]⟩)
           (fun i=>(.ret,⟨[(1,.ref 0 0),(2,ab false),(3,ai k),(4,.ref 1 0),(6,ai j),(7,ai i)],[bx (ah m),bx (fJ x)]⟩))
           (.exit 6,⟨[(1,.ref 0 0),(2,ab false),(3,ai k),(4,.ref 1 0),(6,ai j),(7,ai j)],[bx (ah m),bx (fJ x)]⟩) (by omega) (by simp[aa]) (by
             intro i hi K
             have w4:=aA hi (by omega)
             have Cj:i<x.regs.length:=by omega
             obtain⟨u,hu,nW,_⟩:=ay Cj
             rw[nW]
             by_cases hp:u=y
             ·subst hp;simp[aa,hi,Cj,hj,hy,hu,w4]
             ·simp[aa,hi,Cj,hj,hy,hu,w4,hp]) (by simp[aa])]
          rcases ao (fun i:Nat=>decide (nth x.regs i=y)) (List.range j) with⟨e1,e2,_⟩|⟨i,e1,e2,_⟩
          ·rw[e2] at hQ
           subst hQ
           rw[e1]
           by_cases hw:q.width=p.width
           ·simp[aa,hj,hy,c3.1,c5,g2,hq,h0,h0I,hz,c6.1,c7,g3,hp,hw,w3]
           ·simp[aa,hj,hy,c3.1,c5,g2,hq,h0,h0I,hz,c6.1,c7,g3,hp,hw,w3]
          ·rw[e2] at hQ
           subst hQ
           rw[e1]
           simp[aa]
         ·have c2:cq y 0 (m.regs.length-1)=false:=by simpa using c2
          have e3:mT m x j=true:=by unfold mT;rw[dV,c2];rfl
          rw[e3]
          unfold cq at c2
          simp[aa,hj,hy,hIn,w2,c2]) (by intro _ K;simp[aa])]
      rcases ao (mT m x) (List.range x.regs.length) with⟨e1,e2,_⟩|⟨i,e1,e2,_⟩<;>rw[e1,e2]<;>simp[aa,w1]
     ·rw[e1,e2]
      simp[aa]) (by simp[aa])]
 unfold jx
 rcases ao (nM m) (List.range m.banks.length) with⟨e1,e2,_⟩|⟨i,e1,e2,_⟩<;>simp[aa,e1,e2]
def jZ(b:qw):Bool:=decide (64<(b.regs.length:Int))
def lI(o:n8):Bool:=decide (4<(o.pieces.length:Int))
def pL(s:dh):Bool:=cE (decide (4<(s.opds.length:Int))) (decide (4<(s.effs.length:Int)))
def ka(s:dh):Bool:=pL s||s.opds.any lI
def pE(m:aw):Bool:=cE (cE (cE (decide (64<(m.regs.length:Int))) (decide (16<(m.banks.length:Int)))) (decide (8<(m.units.length:Int)))) (decide (64<(m.instrs.length:Int)))
def nd(m:aw):Bool:= !(pE m||(m.banks.any jZ||m.instrs.any ka))
theorem G3(N:Nat)(hN:400≤N)(m:aw)(hb:m.banks.length≤100)(hi:m.instrs.length≤100)(ho:∀s∈m.instrs,s.opds.length≤100):R N 55 [ag (ah m)] []=some (ab (nd m),[]):=by
 have aa:rows 55=_:=YI.eq_1
 obtain⟨n,rfl⟩:=up N
 rw[aE 55 Tryz.func55 rfl rfl]
 by_cases oL:pE m=true
 ·have ht:=oL
  unfold pE at ht
  simp[aa,ht,nd,oL]
 ·have hf:pE m=false:=by simpa using oL
  have ht:=hf
  unfold pE at ht
  simp[aa,ht,nd,hf]
  rw[abD m.banks jZ (fun k=>⟨[(1,.ref 0 0),(2,ab false),(3,ai k)],[bx (ah m)]⟩)
   (fun k=>(.ret,⟨[(1,.ref 0 0),(2,ab false),(3,ai k)],[bx (ah m)]⟩)) (by omega) (by simp[aa]) (by
     intro k x h hx _ hm K
     have w1:=aA h (by omega)
     by_cases hp:jZ x=true
     ·have hq:=hp;unfold jZ at hq
      simp[aa,h,hx,hp,hq,w1]
     ·have hp:jZ x=false:=by simpa using hp
      have hq:=hp;unfold jZ at hq
      simp[aa,h,hx,hp,hq,w1]) (by simp[aa])]
  rcases ao jZ m.banks with⟨e1,e2,_⟩|⟨i,e1,e2,_⟩
  ·simp[aa,e1,e2]
   rw[aJ m.instrs ka (fun k=>⟨[(1,.ref 0 0),(2,ab false),(4,ai k)],[bx (ah m)]⟩)
    (fun k=>(.ret,⟨[(1,.ref 0 0),(2,ab false),(4,ai k)],[bx (ah m)]⟩))
    (.exit 2,⟨[(1,.ref 0 0),(2,ab false),(4,ai m.instrs.length)],[bx (ah m)]⟩) (by omega) (by simp[aa]) (by
      intro k s h hx _ hm K
      have w1:=aA h (by omega)
      have hos:=ho s hm
      by_cases hp:pL s=true
      ·have hq:=hp;unfold pL at hq
       have P1:ka s=true:=by unfold ka;rw[hp];rfl
       simp[aa,h,hx,P1,hp,hq]
      ·have hp:pL s=false:=by simpa using hp
       have hq:=hp;unfold pL at hq
       have P1:ka s=s.opds.any lI:=by unfold ka;rw[hp];rfl
       simp[aa,h,hx,P1,hp,hq,-List.any_eq_true]
       rw[aJ s.opds lI (fun j=>⟨[(1,.ref 0 0),(2,ab false),(4,ai k),(5,ai j)],[bx (ah m)]⟩)
        (fun j=>(.ret,⟨[(1,.ref 0 0),(2,ab false),(4,ai k),(5,ai j)],[bx (ah m)]⟩))
        (.exit 4,⟨[(1,.ref 0 0),(2,ab false),(4,ai k),(5,ai s.opds.length)],[bx (ah m)]⟩) (by omega) (by simp[aa]) (by
          intro j o hj Vj _ RC K
          have w3:=aA hj (by omega)
          cases hpo:lI o<;>(have hq:=hpo;unfold lI at hq;simp[aa,h,hx,hj,Vj,hpo,hq,w3])) (by simp[aa,h,hx])]
       rcases ao lI s.opds with⟨e1,e2,_⟩|⟨i,e1,e2,_⟩<;>rw[e1,e2]<;>simp[aa,w1]) (by simp[aa])]
   rcases ao ka m.instrs with⟨e1,e2,_⟩|⟨i,e1,e2,_⟩<;>simp[aa,e1,e2]
  ·simp[aa,e1,e2]
end Go.En.V
