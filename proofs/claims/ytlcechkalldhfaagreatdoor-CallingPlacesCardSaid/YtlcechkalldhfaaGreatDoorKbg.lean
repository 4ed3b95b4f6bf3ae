/- Part of the proof of CallingPlaces: engine, contracts or law, joined by a program from the texts X77 X79. -/
import Derived.Test.YtlcechkalldhfaaGreatDoorKar
import Derived.Test.YtlcechkalldhfaaGreatDoorKba
set_option linter.all false
set_option maxRecDepth 100000
set_option maxHeartbeats 4000000
namespace Go.En.V
open Go.Proofs
def Dj:List AV:=[.p (.str ⟨#[]⟩),.p (.int .i64 0),.p (.int .i64 0),.p .nils,.p .nils,.p .nils,.p .nils,.p (.int .i64 0),.p (.int .i64 0),.p (.int .i64 0),.p .nils,.p (.int .i64 0),.p .nils,.p (.int .i64 0),.p .nils,.p (.int .i64 0),.p .nils,.p (.int .i64 0),.p .nils,.p (.int .i64 0),.p .nils,.p (.int .i64 0),.p .nils,.p (.int .i64 0)]
def so(m:aw)(c:Conv)(CP:gf→Int→Bool):Int:=if fu m=0 then(if gh m c CP=true then 0 else 8) else fu m
@[simp] theorem amJ(m:aw)(c:Conv):(ah m).map AV.p++(ax c).map AV.p=(aD ⟨m,c⟩).map AV.p:=by simp[aD]
theorem TK(n0:Nat)(CP:gf→Int→Bool)(N:Nat)(m:aw)(c:Conv)(hg:Gm m)(he:∀s∈m.instrs,∀x∈s.effs,Gt x.addr∧Gt x.val∧Gt x.cond)(hM:fu m=0→MV m)(hC:CV c)(hN:n0+4≤N)(kc:7000≤N)
  (H3:fu m=0→∀n,n0≤n→∀x∈c.moves,0≤x.bank→x.bank<m.banks.length→R n 54 [.agg ((aD ⟨m,c⟩).map .p),.p (.str ⟨#[99,111,112,121]⟩),.agg ((bm x.copy).map .p),ai x.bank] []=some (ab (aG m x.copy false&&CP x.copy x.bank),[])):
  R N 18 [.agg ((ah m).map .p),.agg ((ax c).map .p)] []=some (.tup [.agg (if so m c CP=0 then(aD ⟨m,c⟩).map .p else Dj),ai (so m c CP)],[]):=by
 have aa:rows 18={}:=rfl
 obtain⟨n,rfl⟩:=up N
 rw[aE 18 Tryz.func18 rfl rfl]
 have h1:=Lg n (by omega) m hg he
 unfold so
 by_cases h0:fu m=0
 ·have h2:=NZ n0 CP n ⟨m,c⟩ (hM h0) hC (by omega) (by omega) (H3 h0)
  simp only at h2
  rw[if_pos h0]
  rw[h0] at h1
  cases hv:gh m c CP
  ·rw[hv] at h2
   unfold Dj
   simp[aa,h1,h2,List.take_append,List.drop_append]
  ·rw[hv] at h2
   simp[aa,h1,h2,List.take_append,List.drop_append]
 ·rw[if_neg h0]
  unfold Dj
  simp[aa,h1,h0]
def om(m:aw)(c:Conv)(CP:gf→Int→Bool)(ws:List Int):Int:=
 if so m c CP=0 then(if c.args.length<ws.length then 4 else if (ws.any fun w=>cE (decide (w<1)) (decide (cy m c.bank<w)))=true then 14 else 0) else so m c CP
def lS(m:aw)(c:Conv)(CP:gf→Int→Bool)(ws:List Int):List Int:=if om m c CP ws=0 then c.args.take ws.length else []
def Nz:List PV:=[(.str ⟨#[]⟩),(.int .i64 0),(.int .i64 0),.nils,.nils,.nils,.nils,(.int .i64 0),(.int .i64 0),(.int .i64 0),.nils,(.int .i64 0),.nils,(.int .i64 0),.nils,(.int .i64 0),.nils,(.int .i64 0),.nils,(.int .i64 0),.nils,(.int .i64 0),.nils,(.int .i64 0)]
theorem Sw:Dj=Nz.map AV.p:=rfl
theorem MG(n0:Nat)(CP:gf→Int→Bool)(N:Nat)(m:aw)(c:Conv)(ws:List Int)(hws:ws.length≤100)(hg:Gm m)(he:∀s∈m.instrs,∀x∈s.effs,Gt x.addr∧Gt x.val∧Gt x.cond)(hM:fu m=0→MV m)(hC:CV c)(hN:n0+5≤N)(kc:7001≤N)
  (H3:fu m=0→∀n,n0≤n→∀x∈c.moves,0≤x.bank→x.bank<m.banks.length→R n 54 [.agg ((aD ⟨m,c⟩).map .p),.p (.str ⟨#[99,111,112,121]⟩),.agg ((bm x.copy).map .p),ai x.bank] []=some (ab (aG m x.copy false&&CP x.copy x.bank),[])):
  ∃P:List PV,R N 8 [.agg ((ah m).map .p),.agg ((ax c).map .p),.p (ints ws)] []=
   some (.tup [.arr (if om m c CP ws=0 then 5 else 4) (lS m c CP ws).length 0 (lS m c CP ws).length,ai (om m c CP ws)],
    [.box ((ah m).map .p),.box ((ax c).map .p),.arr 0 1 false [],.box (P.map .p),.arr 0 1 false []]++(if om m c CP ws=0 then [.arr (lS m c CP ws).length 1 false ((lS m c CP ws).map i64)] else [])):=by
 have aa:rows 8=_:=w8.eq_1
 obtain⟨n,rfl⟩:=up N
 rw[aE 8 Tryz.func8 rfl rfl]
 have ho:=TK n0 CP n m c hg he hM hC (by omega) (by omega) H3
 have jc:=hC.al
 by_cases h0:so m c CP=0
 rotate_left
 ·rw[if_neg h0] at ho
  have e:om m c CP ws=so m c CP:=by unfold om;rw[if_neg h0]
  have el:lS m c CP ws=[]:=by unfold lS;rw[e,if_neg h0]
  rw[el,e,if_neg h0,if_neg h0]
  refine⟨Nz, ?_⟩
  rw[←Sw]
  unfold Dj at ho ⊢
  simp[aa,ho,h0]
 rw[if_pos h0,h0] at ho
 by_cases h1:c.args.length<ws.length
 ·have nA:(c.args.length:Int)<(ws.length:Int):=by omega
  have e:om m c CP ws=4:=by unfold om;rw[if_pos h0,if_pos h1]
  have el:lS m c CP ws=[]:=by unfold lS;rw[e];rfl
  rw[el,e]
  refine⟨aD ⟨m,c⟩, ?_⟩
  simp[aa,ho,h1,nA]
 have nA:¬(c.args.length:Int)<(ws.length:Int):=by omega
 have tx:fu m=0∧gh m c CP=true:=by
  unfold so at h0
  by_cases h:fu m=0
  ·rw[if_pos h] at h0
   refine⟨h, ?_⟩
   by_cases h2:gh m c CP=true
   ·exact h2
   ·rw[if_neg h2] at h0;omega
  ·rw[if_neg h] at h0;exact absurd h0 h
 have mG:=hM tx.1
 have hb:0≤c.bank∧c.bank<m.banks.length:=by
  have:=tx.2
  unfold gh at this
  simp only[Bool.and_eq_true] at this
  have:=this.1
  simp only[mo,Bool.and_eq_true,decide_eq_true_eq] at this
  exact this.2.2.2
 have vo:=di n ws 20 [aD ⟨m,c⟩,ax c] (fun w=>cE (decide (w<1)) (decide (cy m c.bank<w))) rfl (by simp) (by omega) (by omega) (fun M hM x hx=>IG M (by omega) ⟨m,c⟩ mG.wb hb.1 hb.2 x c rfl)
 simp[boxes,refs,fA,-List.any_eq_true] at vo
 have eE:om m c CP ws=if (ws.any fun w=>cE (decide (w<1)) (decide (cy m c.bank<w)))=true then 14 else 0:=by unfold om;rw[if_pos h0,if_neg h1]
 generalize (ws.any fun w=>cE (decide (w<1)) (decide (cy m c.bank<w)))=Q at*
 cases Q
 ·have h2:ws.length≤c.args.length:=by omega
  have jb:R n 22 [.p (.sl ((c.args.map i64).take ws.length))] []=CI (c.args.take ws.length):=by
   rw[←List.map_take];exact RZ n (by omega) (c.args.take ws.length) (by simp;omega)
  unfold CI at jb
  have h3:min ws.length c.args.length=ws.length:=by omega
  simp[h3] at jb
  have e:om m c CP ws=0:=eE
  have el:lS m c CP ws=c.args.take ws.length:=by unfold lS;rw[e];rfl
  have ell:(c.args.take ws.length).length=ws.length:=by simp;omega
  rw[el,e,ell]
  refine⟨aD ⟨m,c⟩, ?_⟩
  simp[aa,ho,h1,nA,vo,h2,jb,h3]
 ·have e:om m c CP ws=14:=eE
  have el:lS m c CP ws=[]:=by unfold lS;rw[e];rfl
  rw[el,e]
  refine⟨aD ⟨m,c⟩, ?_⟩
  simp[aa,ho,h1,nA,vo]
end Go.En.V
