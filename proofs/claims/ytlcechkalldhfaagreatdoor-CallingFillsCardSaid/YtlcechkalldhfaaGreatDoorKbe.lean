/- Part of the proof of CallingFills: engine, contracts or law, joined by a program from the texts X100. -/
import Derived.Test.YtlcechkalldhfaaGreatDoorKba
set_option linter.all false
set_option maxRecDepth 100000
set_option maxHeartbeats 4000000
namespace Go.En.V
open Go.Proofs
theorem Mj(N d:Nat)(t:Tr)(v:Int)(hc:Gp t)(ht:Dp d t)(hq:KQ t)(hd:d≤1000)(hs:aF t≤1000000)(h0:cN t=0)(hN:d+2600≤N)
  (hv:∀n,200≤n→R n 244 [ag (aC t),.map 0,.p .nils] [.map []]=some (.p (.int .u64 v),[.map []])):
  R N 208 [ag (aC t),.p .nils,.p .nils] []=some (.tup [.p (.int .u64 v),ai 0],[]):=by
 have aa:rows 208=_:=ZJ.eq_1
 obtain⟨n,rfl⟩:=up N
 rw[aE 208 Tryz.func208 rfl rfl]
 have g1:=QQ n d t hc ht hq hd hs h0 (by omega)
 have hv:=hv n (by omega)
 obtain⟨m,rfl⟩:∃m,n=m+8:=⟨n-8,by omega⟩
 have g2:=ad1 m
 have g3:=adE m
 simp[aa,g1,g2,g3]
 rw[abC 0 (fun k=>⟨[(1,.p .nils),(2,.p .nils),(3,.ref 0 0),(6,.p (.int .u64 0)),(7,ai 0),(12,.map 1),(36,.p (.sl [])),(37,ai 0),(38,ai 0)],[bx (aC t),.map []]⟩) (by omega) (by simp[aa]) (by intro k h;omega) (by
  intro K
  simp[aa])]
 simp[aa,hv]
theorem Fz(N d:Nat)(t:Tr)(v:Int)(hk:t.kind≠24)(fB:0<t.sub.length)(l6:∀x∈t.sub,x.kind=1)(hc:Gp t)(ht:Dp d t)(hq:KQ t)(hd:d≤1000)(hs:aF t≤1000000)(h0:cN t=0)(hN:d+2700≤N)
  (hv:∀n,200≤n→R n 244 [ag (aC t),.map 0,.p .nils] [.map []]=some (.p (.int .u64 v),[.map []])):
  R N 190 [ag (aC t)] []=some (.tup [ag (aC (bD t.width v)),ab true],[]):=by
 have aa:rows 190=_:=NJ.eq_1
 obtain⟨n,rfl⟩:=up N
 rw[aE 190 Tryz.func190 rfl rfl]
 have g1:=Mj n d t v hc ht hq hd hs h0 (by omega) hv
 have g2:=BF n (by omega) t.width v
 have hl:t.sub.length≤1000:=hq.here.2
 have PO:¬t.sub=[]:=fun h=>by rw[h] at fB;simp at fB
 simp[aa,hk,PO]
 rw[abD t.sub (fun x=> !decide (x.kind=1)) (fun k=>⟨[(1,.ref 0 0),(2,.ref 1 0),(3,ab false),(19,.p (fg t.z (t.sub.map aT))),(20,ai t.sub.length),(21,ai k)],[bx (aC t),.box [.p (.int .u8 0),ai 0,.p (.int .u64 0),.p (.str ⟨#[]⟩),ai 0,.p .nils]]⟩) (fun k=>(.ret,⟨[(1,.ref 0 0),(2,.ref 1 0),(3,ab false),(19,.p (fg t.z (t.sub.map aT))),(20,ai t.sub.length),(21,ai k)],[bx (aC t),bx (aC t)]⟩)) (by omega) (by simp[aa]) (by
  intro k x h hx _ hm K
  have w1:=aA h (by omega)
  by_cases q:x.kind=1
  ·simp[aa,h,hx,bX t.z h,w1,q]
  ·simp[aa,h,hx,bX t.z h,w1,q]) (by simp[aa])]
 have hf:t.sub.findIdx? (fun x=> !decide (x.kind=1))=none:=by
  rw[List.findIdx?_eq_none_iff]
  intro x hx
  simp[l6 x hx]
 rw[hf]
 simp[aa,g1,g2]
theorem Fy(N:Nat)(t:Tr)(hN:1200≤N)(hl:t.sub.length≤1000)(h:t.kind=24∨t.sub=[]∨∃x∈t.sub,x.kind≠1):R N 190 [ag (aC t)] []=some (.tup [ag (aC t),ab false],[]):=by
 have aa:rows 190=_:=NJ.eq_1
 obtain⟨n,rfl⟩:=up N
 rw[aE 190 Tryz.func190 rfl rfl]
 by_cases hk:t.kind=24
 ·simp[aa,eq_true hk]
 ·by_cases PO:t.sub=[]
  ·simp[aa,hk,PO]
  ·simp[aa,hk,PO]
   rw[abD t.sub (fun x=> !decide (x.kind=1)) (fun k=>⟨[(1,.ref 0 0),(2,.ref 1 0),(3,ab false),(19,.p (fg t.z (t.sub.map aT))),(20,ai t.sub.length),(21,ai k)],[bx (aC t),.box [.p (.int .u8 0),ai 0,.p (.int .u64 0),.p (.str ⟨#[]⟩),ai 0,.p .nils]]⟩) (fun k=>(.ret,⟨[(1,.ref 0 0),(2,.ref 1 0),(3,ab false),(19,.p (fg t.z (t.sub.map aT))),(20,ai t.sub.length),(21,ai k)],[bx (aC t),bx (aC t)]⟩)) (by omega) (by simp[aa]) (by
    intro k x h hx _ hm K
    have w1:=aA h (by omega)
    by_cases q:x.kind=1
    ·simp[aa,h,hx,bX t.z h,w1,q]
    ·simp[aa,h,hx,bX t.z h,w1,q]) (by simp[aa])]
   have hex:∃x∈t.sub,x.kind≠1:=by
    rcases h with h|h|h
    ·exact absurd h hk
    ·exact absurd h PO
    ·exact h
   rcases ao (fun x:Tr=> !decide (x.kind=1)) t.sub with⟨e1,e2,_⟩|⟨i,e1,e2,_⟩
   ·rw[List.any_eq_false] at e2
    obtain⟨x,hx,kV⟩:=hex
    have:=e2 x hx
    simp at this
    exact absurd this kV
   ·rw[e1];simp[aa]
end Go.En.V
