/- Part of the proof of CallingFills: engine, contracts or law, joined by a program from the texts X77 Y30. -/
import Derived.Test.YtlcechkalldhfaaGreatDoorKbb
import Derived.Test.YtlcechkalldhfaaGreatDoorKbc
set_option linter.all false
set_option maxRecDepth 100000
set_option maxHeartbeats 4000000
namespace Go.En.V
open Go.Proofs
def Dj:List AV:=[.p (.str ⟨#[]⟩),.p (.int .i64 0),.p (.int .i64 0),.p .nils,.p .nils,.p .nils,.p .nils,.p (.int .i64 0),.p (.int .i64 0),.p (.int .i64 0),.p .nils,.p (.int .i64 0),.p .nils,.p (.int .i64 0),.p .nils,.p (.int .i64 0),.p .nils,.p (.int .i64 0),.p .nils,.p (.int .i64 0),.p .nils,.p (.int .i64 0),.p .nils,.p (.int .i64 0)]
def so(m:aw)(c:Conv)(CP:gf→Int→Bool):Int:=if fu m=0 then(if gh m c CP=true then 0 else 8) else fu m
@[simp] theorem amJ(m:aw)(c:Conv):(ah m).map AV.p++(ax c).map AV.p=(aD ⟨m,c⟩).map AV.p:=by simp[aD]
theorem TK(n0:Nat)(CP:gf→Int→Bool)(N:Nat)(m:aw)(c:Conv)(hg:Gm m)(he:∀s∈m.instrs,∀x∈s.effs,Gt x.addr∧Gt x.val∧Gt x.cond)(hM:fu m=0→MV m)(hC:CV c)(hN:n0+4≤N)(kc:7000≤N)
  (H3:fu m=0→∀n,n0≤n→∀x∈c.moves,0≤x.bank→x.bank<m.banks.length→R n 54 [ag (aD ⟨m,c⟩),.p (.str ⟨#[99,111,112,121]⟩),ag (bm x.copy),ai x.bank] []=some (ab (aG m x.copy false&&CP x.copy x.bank),[])):
  R N 18 [ag (ah m),ag (ax c)] []=some (.tup [.agg (if so m c CP=0 then(aD ⟨m,c⟩).map .p else Dj),ai (so m c CP)],[]):=by
 have aa:rows 18={}:=rfl
 obtain⟨n,rfl⟩:=up N
 rw[aE 18 Tryz.func18 rfl rfl]
 have h1:=Lg n (by omega) m hg he
 unfold so
 by_cases h0:fu m=0
 ·have h2:=NZ n0 CP n ⟨m,c⟩ (hM h0) hC (by omega) (by omega) (H3 h0)
  simp only at h2
  rw[if_pos h0]
  rw[h0] at h1
  cases hv:gh m c CP
  ·rw[hv] at h2
   unfold Dj
   simp[aa,h1,h2,List.take_append,List.drop_append]
  ·rw[hv] at h2
   simp[aa,h1,h2,List.take_append,List.drop_append]
 ·rw[if_neg h0]
  unfold Dj
  simp[aa,h1,h0]
def filled(c:Conv)(t:gf)(to eE num:Int):XW:=⟨t.instr,t.args.map (vR to eE c.stack num)⟩
def CN(m:aw)(c:Conv)(CP:gf→Int→Bool)(t:gf)(to eE num:Int):Int:=if so m c CP=0 then DK m (filled c t to eE num) else so m c CP
def ug(m:aw)(c:Conv)(CP:gf→Int→Bool)(t:gf)(to eE num:Int):List AV:=if CN m c CP t to eE num=0 then(abm (filled c t to eE num)).map .p else [ai 0,.p .nils]
def abE(m:aw):Prop:=∀s∈m.instrs,s.opds.length≤100∧(∀i,i<s.opds.length→Fit m (nth s.opds i)∧((nth s.opds i).kind=1→(nth s.opds i).tied<s.opds.length))
theorem abB(n0:Nat)(CP:gf→Int→Bool)(N:Nat)(m:aw)(c:Conv)(t:gf)(to eE num:Int)(ht:t.args.length≤100)(hg:Gm m)(he:∀s∈m.instrs,∀x∈s.effs,Gt x.addr∧Gt x.val∧Gt x.cond)(hM:fu m=0→MV m)(hF:fu m=0→abE m)(hC:CV c)(hN:n0+5≤N)(kc:7001≤N)
  (H3:fu m=0→∀n,n0≤n→∀x∈c.moves,0≤x.bank→x.bank<m.banks.length→R n 54 [ag (aD ⟨m,c⟩),.p (.str ⟨#[99,111,112,121]⟩),ag (bm x.copy),ai x.bank] []=some (ab (aG m x.copy false&&CP x.copy x.bank),[])):
  R N 11 [ag (ah m),ag (ax c),ag (bm t),ai to,ai eE,ai num] []=some (.tup [.agg (ug m c CP t to eE num),ai (CN m c CP t to eE num)],[]):=by
 have aa:rows 11={}:=rfl
 obtain⟨n,rfl⟩:=up N
 rw[aE 11 Tryz.func11 rfl rfl]
 have ho:=TK n0 CP n m c hg he hM hC (by omega) (by omega) H3
 by_cases h0:so m c CP=0
 rotate_left
 ·rw[if_neg h0] at ho
  have e:CN m c CP t to eE num=so m c CP:=by unfold CN;rw[if_neg h0]
  have el:ug m c CP t to eE num=[ai 0,.p .nils]:=by unfold ug;rw[e,if_neg h0]
  rw[el,e]
  unfold Dj at ho
  simp[aa,ho,h0]
 rw[if_pos h0,h0] at ho
 have tx:fu m=0:=by
  unfold so at h0
  by_cases h:fu m=0
  ·exact h
  ·rw[if_neg h] at h0;exact absurd h0 h
 have hf:=abA n ⟨m,c⟩ t to eE num ht (by omega)
 have hco:=MG n m (filled c t to eE num) (by omega) (by have:=hg.instrs;omega) (fun b hb=>by have:=hg.bregs b hb;omega) hF (fun k hk=>Lg k (by omega) m hg he)
 rw[if_pos tx] at hco
 have e:CN m c CP t to eE num=DK m (filled c t to eE num):=by unfold CN;rw[if_pos h0]
 have hp:(abm (filled c t to eE num)).map AV.p=[ai t.instr,.p (ints (t.args.map (vR to eE c.stack num)))]:=rfl
 unfold ag at hco;rw[hp] at hco
 by_cases h1:DK m (filled c t to eE num)=0
 ·have el:ug m c CP t to eE num=(abm (filled c t to eE num)).map .p:=by unfold ug;rw[e,if_pos h1]
  rw[el,e,hp]
  rw[h1] at hco ⊢
  simp[aa,ho,hf,hco]
 ·have el:ug m c CP t to eE num=[ai 0,.p .nils]:=by unfold ug;rw[e,if_neg h1]
  rw[el,e]
  simp[aa,ho,hf,hco,h1]
theorem WV(n0:Nat)(CP:gf→Int→Bool)(N:Nat)(m:aw)(c:Conv)(t:gf)(to eE num:Int)(ht:t.args.length≤100)(hE:dG m=fu m)(hg:Gm m)(he:∀s∈m.instrs,∀x∈s.effs,Gr x.addr∧Gr x.val∧Gr x.cond)(hM:dG m=0→MV m)(hF:dG m=0→abE m)(hC:CV c)(hN:n0+5≤N)(kc:17001≤N)
  (H3:dG m=0→∀n,n0≤n→∀x∈c.moves,0≤x.bank→x.bank<m.banks.length→R n 92 [ag (ah m),ag (ax c),ag (bm x.copy),ai x.bank] []=some (ab (aG m x.copy false&&CP x.copy x.bank),[])):
  R N 12 [ag (ah m),ag (ax c),ag (bm t),ai to,ai eE,ai num] []=some (.tup [.agg (ug m c CP t to eE num),ai (CN m c CP t to eE num)],[]):=by
 have aa:rows 12={}:=rfl
 obtain⟨n,rfl⟩:=up N
 rw[aE 12 Tryz.func12 rfl rfl]
 have ho:=Ho n0 CP n m c hg he hM hC (by omega) (by omega) H3
 have eo:(if dG m=0 then(if gh m c CP=true then(0:Int) else 8) else dG m)=so m c CP:=by unfold so;rw[hE]
 rw[eo] at ho
 by_cases h0:so m c CP=0
 rotate_left
 ·have e:CN m c CP t to eE num=so m c CP:=by unfold CN;rw[if_neg h0]
  have el:ug m c CP t to eE num=[ai 0,.p .nils]:=by unfold ug;rw[e,if_neg h0]
  rw[el,e]
  simp[aa,ho,h0]
 rw[h0] at ho
 have tx:dG m=0:=by
  rw[hE]
  unfold so at h0
  by_cases h:fu m=0
  ·exact h
  ·rw[if_neg h] at h0;exact absurd h0 h
 have hf:=U3 n c t to eE num ht (by omega)
 have hco:=IG n m (filled c t to eE num) (by omega) (by have:=hg.instrs;omega) (fun b hb=>by have:=hg.bregs b hb;omega) hF (fun k hk=>HJ k (by omega) m hg he)
 rw[if_pos tx] at hco
 have e:CN m c CP t to eE num=DK m (filled c t to eE num):=by unfold CN;rw[if_pos h0]
 have hp:(abm (filled c t to eE num)).map AV.p=[ai t.instr,.p (ints (t.args.map (vR to eE c.stack num)))]:=rfl
 unfold ag at hco;rw[hp] at hco
 by_cases h1:DK m (filled c t to eE num)=0
 ·have el:ug m c CP t to eE num=(abm (filled c t to eE num)).map .p:=by unfold ug;rw[e,if_pos h1]
  rw[el,e,hp]
  rw[h1] at hco ⊢
  simp[aa,ho,hf,hco]
 ·have el:ug m c CP t to eE num=[ai 0,.p .nils]:=by unfold ug;rw[e,if_neg h1]
  rw[el,e]
  simp[aa,ho,hf,hco,h1]
end Go.En.V
