/- Part of the proof of CallingPlaces: engine, contracts or law, joined by a program from the texts X80. -/
import Derived.Test.YtlcechkalldhfaaGreatDoorKaz
set_option linter.all false
set_option maxRecDepth 100000
set_option maxHeartbeats 4000000
namespace Go.En.V
open Go.Proofs
def CN(m:aw)(c:Conv)(w:Int):Bool:=cE (decide (w<1)) (decide (cy m c.bank<w))
def Wd(m:aw)(c:Conv)(CP:gf→Int→Bool):Int:=if dG m=0 then(if gh m c CP=true then 0 else 8) else dG m
def tT(m:aw)(c:Conv)(CP:gf→Int→Bool)(ws:List Int):Int:=
 if Wd m c CP=0 then(if c.args.length<ws.length then 4 else if ws.any (CN m c)=true then 14 else 0) else Wd m c CP
def xb(m:aw)(c:Conv)(CP:gf→Int→Bool)(ws:List Int):List Int:=if tT m c CP ws=0 then c.args.take ws.length else []
theorem Hr(n0:Nat)(CP:gf→Int→Bool)(N:Nat)(m:aw)(c:Conv)(ws:List Int)(hws:ws.length≤100)(hg:Gm m)(he:∀s∈m.instrs,∀x∈s.effs,Gr x.addr∧Gr x.val∧Gr x.cond)(hM:dG m=0→MV m)(hC:CV c)(hN:n0+5≤N)(kc:17001≤N)
  (H3:dG m=0→∀n,n0≤n→∀x∈c.moves,0≤x.bank→x.bank<m.banks.length→R n 92 [.agg ((ah m).map .p),.agg ((ax c).map .p),.agg ((bm x.copy).map .p),ai x.bank] []=some (ab (aG m x.copy false&&CP x.copy x.bank),[])):
  R N 9 [.agg ((ah m).map .p),.agg ((ax c).map .p),.p (ints ws)] []=some (.tup [.p (ints (xb m c CP ws)),ai (tT m c CP ws)],[]):=by
 have tx:∀n,n0+4≤n→17000≤n→_:=fun n h1 h2=>Ho n0 CP n m c hg he hM hC h1 h2 H3
 have eop:(if dG m=0 then(if gh m c CP=true then(0:Int) else 8) else dG m)=Wd m c CP:=rfl
 rw[eop] at tx
 have jc:=hC.al
 by_cases h0:Wd m c CP=0
 rotate_left
 ·have e:tT m c CP ws=Wd m c CP:=by unfold tT;rw[if_neg h0]
  have el:xb m c CP ws=[]:=by unfold xb;rw[e,if_neg h0]
  rw[e,el]
  have aa:rows 9=_:=w9.eq_1
  obtain⟨n,rfl⟩:=up N
  rw[aE 9 Tryz.func9 rfl rfl]
  have tx:=tx n (by omega) (by omega)
  generalize hE:Wd m c CP=E at*
  simp -implicitDefEqProofs[aa,tx,h0]
  rw[av 0 (fun k=>⟨[(2,.p (ints ws)),(3,.ref 0 0),(4,.ref 1 0),(8,ai E),(9,.arr 3 0 0 0),(10,ai 0)],[.box ((ah m).map .p),.box ((ax c).map .p),.arr 0 1 false [],.arr 0 1 false []]⟩) (.exit 0,⟨[(2,.p (ints ws)),(3,.ref 0 0),(4,.ref 1 0),(8,ai E),(9,.arr 3 0 0 0),(10,ai 0)],[.box ((ah m).map .p),.box ((ax c).map .p),.arr 0 1 false [],.arr 0 1 false []]⟩) (by omega) (by simp -implicitDefEqProofs[aa]) (by intro k h;omega) (by
   intro K
   by_cases hz:(0:Int)<ws.length
   ·simp -implicitDefEqProofs[aa,h0,hz]
   ·simp -implicitDefEqProofs[aa,h0,hz])]
  simp -implicitDefEqProofs[aa,h0]
 by_cases h1:c.args.length<ws.length
 ·have e:tT m c CP ws=4:=by unfold tT;rw[if_pos h0,if_pos h1]
  have el:xb m c CP ws=[]:=by unfold xb;rw[e];rfl
  rw[e,el]
  have aa:rows 9=_:=w9.eq_1
  obtain⟨n,rfl⟩:=up N
  rw[aE 9 Tryz.func9 rfl rfl]
  have tx:=tx n (by omega) (by omega)
  rw[h0] at tx
  have nA:(c.args.length:Int)<(ws.length:Int):=by omega
  simp -implicitDefEqProofs[aa,tx,h1,nA]
  rw[av 0 (fun k=>⟨[(2,.p (ints ws)),(3,.ref 0 0),(4,.ref 1 0),(8,ai 4),(9,.arr 3 0 0 0),(10,ai 0)],[.box ((ah m).map .p),.box ((ax c).map .p),.arr 0 1 false [],.arr 0 1 false []]⟩) (.exit 0,⟨[(2,.p (ints ws)),(3,.ref 0 0),(4,.ref 1 0),(8,ai 4),(9,.arr 3 0 0 0),(10,ai 0)],[.box ((ah m).map .p),.box ((ax c).map .p),.arr 0 1 false [],.arr 0 1 false []]⟩) (by omega) (by simp -implicitDefEqProofs[aa]) (by intro k h;omega) (by
   intro K
   by_cases hz:(0:Int)<ws.length
   ·simp -implicitDefEqProofs[aa,h0,hz]
   ·simp -implicitDefEqProofs[aa,h0,hz])]
  simp -implicitDefEqProofs[aa]
 have nA:¬(c.args.length:Int)<(ws.length:Int):=by omega
 have apw:dG m=0∧gh m c CP=true:=by
  unfold Wd at h0
  by_cases h:dG m=0
  ·rw[if_pos h] at h0
   refine⟨h, ?_⟩
   by_cases h2:gh m c CP=true
   ·exact h2
   ·rw[if_neg h2] at h0;omega
  ·rw[if_neg h] at h0;exact absurd h0 h
 have mG:=hM apw.1
 have hb:0≤c.bank∧c.bank<m.banks.length:=by
  have:=apw.2
  unfold gh at this
  simp only[Bool.and_eq_true] at this
  have:=this.1
  simp only[mo,Bool.and_eq_true,decide_eq_true_eq] at this
  exact this.2.2.2
 have WV:∀n,10≤n→R n 24 [.agg ((ah m).map .p),ai c.bank] []=some (ai (cy m c.bank),[]):=by
  intro n hn
  obtain⟨a1,a2,a3⟩:=mG.wb.bank hb.1 hb.2
  obtain⟨y,_,hy,uq⟩:=ay (k:=0) a1
  have hy:nth (nth m.banks c.bank).regs 0=y:=hy
  have hr:=a3 y uq
  exact ko n (by omega) m c.bank hb.1 hb.2 a1 (by rw[hy];exact hr.1) (by rw[hy];exact hr.2)
 rcases ao (CN m c) ws with⟨e1,e2,_⟩|⟨j,e1,e2,_⟩
 ·have e:tT m c CP ws=0:=by unfold tT;rw[if_pos h0,if_neg h1,e2];rfl
  have el:xb m c CP ws=c.args.take ws.length:=by unfold xb;rw[e];rfl
  rw[e,el]
  have aa:rows 9=_:=w9.eq_1
  obtain⟨n,rfl⟩:=up N
  rw[aE 9 Tryz.func9 rfl rfl]
  have tx:=tx n (by omega) (by omega)
  rw[h0] at tx
  simp -implicitDefEqProofs[aa,tx,h1,nA]
  rw[av ws.length (fun k=>⟨[(2,.p (ints ws)),(3,.ref 0 0),(4,.ref 1 0),(8,ai 0),(9,.arr 3 k 0 k),(10,ai k)],[.box ((ah m).map .p),.box ((ax c).map .p),.arr 0 1 false [],.arr k 1 false ((c.args.take k).map i64)]⟩) (.exit 0,⟨[(2,.p (ints ws)),(3,.ref 0 0),(4,.ref 1 0),(8,ai 0),(9,.arr 3 ws.length 0 ws.length),(10,ai ws.length)],[.box ((ah m).map .p),.box ((ax c).map .p),.arr 0 1 false [],.arr ws.length 1 false ((c.args.take ws.length).map i64)]⟩) (by omega) (by simp -implicitDefEqProofs[aa]) (by
     intro k h K
     have w1:IntKind.i64.wrap ((k:Int)+1)=(k:Int)+1:=wrap64 (by omega) (by omega)
     obtain⟨x,hx,_,hm⟩:=ay (l:=ws) (k:=k) (by omega)
     obtain⟨y,hy,_,_⟩:=ay (l:=c.args) (k:=k) (by omega)
     have b1:k+1≤1099511627776:=by omega
     have b2:(k+1)*8≤1099511627776:=by omega
     have hk:k<ws.length:=by omega
     have jA:k<c.args.length:=by omega
     have e:c.args.take (k+1)=c.args.take k++[y]:=by
      rw[List.take_succ_eq_append_getElem jA,hy jA]
     rw[e]
     have hlen:(c.args.take k).length=k:=by simp;omega
     have WV:=WV n (by omega)
     have vR:CN m c x=false:=by
      rw[List.any_eq_false] at e2
      simpa using e2 x hm
     unfold CN at vR
     generalize cy m c.bank=bw at*
     simp only[aK,Bool.or_eq_false_iff,decide_eq_false_iff_not] at vR
     generalize c.args.take k=A at*
     simp -implicitDefEqProofs[aa,hk,jA,hx,hy,WV,vR.1,vR.2,b1,b2,hlen,w1]) (by
     intro K
     simp -implicitDefEqProofs[aa])]
  have Lx:min ws.length c.args.length=ws.length:=by omega
  simp -implicitDefEqProofs[aa,Lx,List.take_take]
 ·obtain⟨hj,Nq,zo⟩:=List.findIdx?_eq_some_iff_getElem.1 e1
  have e:tT m c CP ws=14:=by unfold tT;rw[if_pos h0,if_neg h1,e2];rfl
  have el:xb m c CP ws=[]:=by unfold xb;rw[e];rfl
  rw[e,el]
  have aa:rows 9=_:=w9.eq_1
  obtain⟨n,rfl⟩:=up N
  rw[aE 9 Tryz.func9 rfl rfl]
  have tx:=tx n (by omega) (by omega)
  rw[h0] at tx
  simp -implicitDefEqProofs[aa,tx,h1,nA]
  rw[av (j+1) (fun k=>⟨[(2,.p (ints ws)),(3,.ref 0 0),(4,.ref 1 0),(8,ai (if k=j+1 then 14 else 0)),(9,.arr 3 k 0 k),(10,ai k)],[.box ((ah m).map .p),.box ((ax c).map .p),.arr 0 1 false [],.arr k 1 false ((c.args.take k).map i64)]⟩) (.exit 0,⟨[(2,.p (ints ws)),(3,.ref 0 0),(4,.ref 1 0),(8,ai 14),(9,.arr 3 (j+1) 0 (j+1)),(10,ai (j+1))],[.box ((ah m).map .p),.box ((ax c).map .p),.arr 0 1 false [],.arr (j+1) 1 false ((c.args.take (j+1)).map i64)]⟩) (by omega) (by simp -implicitDefEqProofs[aa]) (by
     intro k h K
     have w1:IntKind.i64.wrap ((k:Int)+1)=(k:Int)+1:=wrap64 (by omega) (by omega)
     obtain⟨x,hx,_,hm⟩:=ay (l:=ws) (k:=k) (by omega)
     obtain⟨y,hy,_,_⟩:=ay (l:=c.args) (k:=k) (by omega)
     have b1:k+1≤1099511627776:=by omega
     have b2:(k+1)*8≤1099511627776:=by omega
     have hk:k<ws.length:=by omega
     have jA:k<c.args.length:=by omega
     have e:c.args.take (k+1)=c.args.take k++[y]:=by
      rw[List.take_succ_eq_append_getElem jA,hy jA]
     rw[e]
     have hlen:(c.args.take k).length=k:=by simp;omega
     have WV:=WV n (by omega)
     have fB:¬k=j+1:=by omega
     rw[if_neg fB]
     by_cases hkj:k=j
     ·subst hkj
      rw[if_pos rfl]
      have vR:CN m c x=true:=by rw[←hx hj];exact Nq
      unfold CN at vR
      generalize cy m c.bank=bw at*
      generalize c.args.take k=A at*
      by_cases kV:x<1
      ·simp -implicitDefEqProofs[aa,hk,jA,hx,hy,WV,kV,b1,b2,hlen,w1]
      ·have tt:bw<x:=by
        simp only[aK,Bool.or_eq_true,decide_eq_true_eq] at vR
        omega
       simp -implicitDefEqProofs[aa,hk,jA,hx,hy,WV,kV,tt,b1,b2,hlen,w1]
     ·have ayw:¬k+1=j+1:=by omega
      rw[if_neg ayw]
      have vR:CN m c x=false:=by rw[←hx hk];simpa using zo k (by omega)
      unfold CN at vR
      generalize cy m c.bank=bw at*
      simp only[aK,Bool.or_eq_false_iff,decide_eq_false_iff_not] at vR
      generalize c.args.take k=A at*
      simp -implicitDefEqProofs[aa,hk,jA,hx,hy,WV,vR.1,vR.2,b1,b2,hlen,w1]) (by
     intro K
     rw[if_pos rfl]
     by_cases hz:((j:Int)+1)<(ws.length:Int)
     ·simp -implicitDefEqProofs[aa,hz]
     ·simp -implicitDefEqProofs[aa,hz])]
  simp -implicitDefEqProofs[aa]
end Go.En.V
