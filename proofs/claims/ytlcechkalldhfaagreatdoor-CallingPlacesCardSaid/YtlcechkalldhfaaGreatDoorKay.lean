/- Part of the proof of CallingPlaces: engine, contracts or law, joined by a program from the texts X82 X83 X97 Y1 X101 Y2 X100 Y3 Y4 Y5 Y6 Y7 Y8 Y9 Y13. -/
import Derived.Test.YtlcechkalldhfaaGreatDoorKag
import Derived.Test.YtlcechkalldhfaaGreatDoorKah
import Derived.Test.YtlcechkalldhfaaGreatDoorKai
import Derived.Test.YtlcechkalldhfaaGreatDoorKap
import Derived.Test.YtlcechkalldhfaaGreatDoorKas
import Derived.Test.YtlcechkalldhfaaGreatDoorKau
import Derived.Test.YtlcechkalldhfaaGreatDoorKav
set_option linter.all false
set_option maxRecDepth 100000
set_option maxHeartbeats 8000000
namespace Go.En.V
open Go.Proofs
theorem yu(a b:ByteArray):cc a b=cc b a:=by
 rw[Bool.eq_iff_iff];unfold cc;simp only[beq_iff_eq];exact eq_comm
def PU(s:dh)(t:Tr):Option Nat:=s.opds.findIdx? fun o=>decide (t.kind=2)&&(!decide (o.kind=1)&&cc o.name t.name)
mutual
def fX(m:aw)(s:dh)(args:List Int):Tr→Tr
 | .mk k w b n l z p=>match PU s (.mk k w b n l z p) with
  |some i=>eR m (nth args i)
  |none=>.mk k w b n l false (UC m s args p)
def UC(m:aw)(s:dh)(args:List Int):List Tr→List Tr
 |[]=>[]
 |x::r=>fX m s args x::UC m s args r
end
theorem Qb(m:aw)(s:dh)(args:List Int)(l:List Tr):UC m s args l=l.map (fX m s args):=by
 induction l with
 |nil=>rfl
 |cons x r ih=>simp[UC,ih]
theorem Cz(m:aw)(s:dh)(args:List Int)(t:Tr):fX m s args t=match PU s t with
  |some i=>eR m (nth args i)
  |none=>.mk t.kind t.width t.bits t.name t.low false (t.sub.map (fX m s args)):=by
 cases t;simp only[fX,Qb,Tr.kind,Tr.width,Tr.bits,Tr.name,Tr.low,Tr.sub]
theorem Qa:∀(d N:Nat) (v:View) (t:Tr),v.args.length=v.ins.opds.length→v.args.length≤100→(v.p.m.address=16∨v.p.m.address=32)→Dp d t→d+1100≤N→R N 147 [.agg ((aB v).map .p),.agg ((aC t).map .p)] []=some (.agg ((aC (fX v.p.m v.ins v.args t)).map .p),[]):=by
 intro d
 induction d with
 |zero=>intro N v t _ _ _ h _;exact h.elim
 |succ d ih=>
  intro N v t vN Vm ha ht hN
  have hl:=ht.1
  have aa:rows 147=_:=Z3.eq_1
  obtain⟨n,rfl⟩:=up N
  rw[aE 147 Tryz.func147 rfl rfl]
  have eM:=fun c=>BT n (by omega) v c ha
  simp[aa]
  have hz:∀i,i<v.ins.opds.length→∃c,v.args[i]? =some c∧(∀h:i<v.args.length,v.args[i]=c)∧nth v.args (i:Int)=c:=by
   intro i hi
   have Cj:i<v.args.length:=by omega
   obtain⟨c,h1,h2,_⟩:=ay Cj
   exact⟨c,by rw[List.getElem?_eq_getElem Cj,h1 Cj],h1,h2⟩
  rw[aJ v.ins.opds (fun o=>decide (t.kind=2)&&(!decide (o.kind=1)&&cc o.name t.name))
   (fun k=>⟨[(2,.ref 0 0),(3,.ref 1 0),(4,.ref 2 0),(12,.p (.sl (v.ins.opds.map l_))),(13,ai v.ins.opds.length),(14,ai k)],
     [.box ((aB v).map .p),.box ((aC t).map .p),.box [.p (.int .u8 0),ai 0,.p (.int .u64 0),.p (.str ⟨#[]⟩),ai 0,.p .nils]]⟩)
   (fun k=>(.ret,⟨[(2,.ref 0 0),(3,.ref 1 0),(4,.ref 2 0),(12,.p (.sl (v.ins.opds.map l_))),(13,ai v.ins.opds.length),(14,ai k)],
     [.box ((aB v).map .p),.box ((aC t).map .p),.box ((aC (eR v.p.m (nth v.args k))).map .p)]⟩))
   (.exit 0,⟨[(2,.ref 0 0),(3,.ref 1 0),(4,.ref 2 0),(12,.p (.sl (v.ins.opds.map l_))),(13,ai v.ins.opds.length),(14,ai v.ins.opds.length)],
     [.box ((aB v).map .p),.box ((aC t).map .p),.box [.p (.int .u8 0),ai 0,.p (.int .u64 0),.p (.str ⟨#[]⟩),ai 0,.p .nils]]⟩) (by omega) (by simp[aa]) (by
     intro k o h hx _ hm K
     have w1:=aA h (by omega)
     obtain⟨c,c1,c2,c3⟩:=hz k h
     have hnc:=eM c
     rw[show bD v.p.m.address (c % 2^v.p.m.address.toNat)=eR v.p.m c from rfl] at hnc
     have bT:k<v.args.length:=by omega
     rw[c3]
     by_cases k2:t.kind=2
     ·by_cases o1:o.kind=1
      ·simp[aa,h,hx,w1,k2,o1]
      ·cases q:cc o.name t.name
       ·simp[aa,h,hx,w1,k2,o1,q]
       ·simp[aa,h,hx,w1,k2,o1,q,c1,c2,bT,hnc,vN]
     ·simp[aa,h,hx,w1,k2]) (by simp[aa])]
  rw[Cz]
  unfold PU
  cases hf:v.ins.opds.findIdx? (fun o=>decide (t.kind=2)&&(!decide (o.kind=1)&&cc o.name t.name)) with
  |some i=>simp[aa]
  |none=>
   simp[aa]
   rw[av t.sub.length (fun k=>⟨[(2,.ref 0 0),(3,.ref 1 0),(4,.ref 2 0),(7,.arr 3 k 0 k),(43,.p (fg t.z (t.sub.map aT))),(44,ai t.sub.length),(45,ai k)],
    [.box ((aB v).map .p),.box ((aC t).map .p),.box [.p (.int .u8 0),ai 0,.p (.int .u64 0),.p (.str ⟨#[]⟩),ai 0,.p .nils],.arr k 6 false (((t.sub.take k).map (fX v.p.m v.ins v.args)).map aT)]⟩)
    (.exit 2,⟨[(2,.ref 0 0),(3,.ref 1 0),(4,.ref 2 0),(7,.arr 3 t.sub.length 0 t.sub.length),(43,.p (fg t.z (t.sub.map aT))),(44,ai t.sub.length),(45,ai t.sub.length)],
    [.box ((aB v).map .p),.box ((aC t).map .p),.box [.p (.int .u8 0),ai 0,.p (.int .u64 0),.p (.str ⟨#[]⟩),ai 0,.p .nils],.arr t.sub.length 6 false ((t.sub.map (fX v.p.m v.ins v.args)).map aT)]⟩) (by omega) (by simp[aa]) (by
    intro k h K
    have w1:=aA h (by omega)
    obtain⟨x,hx,_,hm⟩:=ay h
    have bI:=ih n v x vN Vm ha (ht.2 x hm) (by omega)
    have b1:(k+1)*72≤1099511627776:=by omega
    have b2:k+1≤1099511627776:=by omega
    have e:(t.sub.take (k+1)).map (fX v.p.m v.ins v.args)=(t.sub.take k).map (fX v.p.m v.ins v.args)++[fX v.p.m v.ins v.args x]:=by
     rw[List.take_succ_eq_append_getElem h,hx h];simp
    rw[e]
    have hlen:((t.sub.take k).map (fX v.p.m v.ins v.args)).length=k:=by simp;omega
    generalize (t.sub.take k).map (fX v.p.m v.ins v.args)=A at*
    generalize fX v.p.m v.ins v.args x=x' at*
    simp[aa,h,hx,bX t.z h,bI,w1,b1,b2,hlen]
    try rfl) (by simp[aa])]
   rw[bA]
   simp[aa,ae t]
theorem HF:∀(d N:Nat) (f:Da) (t:Tr),f.t.args.length=f.s.opds.length→f.t.args.length≤100→(f.m.address=16∨f.m.address=32)→(∀x∈f.t.args,-9223372036854775808≤x∧x≤9223372036854775807)→Dp d t→d+1100≤N→
  R N 134 [.agg ((bP f).map .p),.agg ((aC t).map .p)] []=some (.agg ((aC (fX f.m f.s f.t.args t)).map .p),[]):=by
 intro d
 induction d with
 |zero=>intro N v t _ _ _ _ h _;exact h.elim
 |succ d ih=>
  intro N f t vN Vm ha hr ht hN
  have hl:=ht.1
  have aa:rows 134=_:=Z6.eq_1
  obtain⟨n,rfl⟩:=up N
  rw[aE 134 Tryz.func134 rfl rfl]
  simp[aa]
  have hz:∀i,i<f.s.opds.length→∃c,f.t.args[i]? =some c∧(∀h:i<f.t.args.length,f.t.args[i]=c)∧nth f.t.args (i:Int)=c∧c∈f.t.args:=by
   intro i hi
   have Cj:i<f.t.args.length:=by omega
   obtain⟨c,h1,h2,hm⟩:=ay Cj
   exact⟨c,by rw[List.getElem?_eq_getElem Cj,h1 Cj],h1,h2,hm⟩
  rw[aJ f.s.opds (fun o=>decide (t.kind=2)&&(!decide (o.kind=1)&&cc o.name t.name))
   (fun k=>⟨[(2,.ref 0 0),(3,.ref 1 0),(4,.ref 2 0),(5,ai k)],
     [.box ((bP f).map .p),.box ((aC t).map .p),.box [.p (.int .u8 0),ai 0,.p (.int .u64 0),.p (.str ⟨#[]⟩),ai 0,.p .nils]]⟩)
   (fun k=>(.ret,⟨[(2,.ref 0 0),(3,.ref 1 0),(4,.ref 2 0),(5,ai k)],
     [.box ((bP f).map .p),.box ((aC t).map .p),.box ((aC (eR f.m (nth f.t.args k))).map .p)]⟩))
   (.exit 0,⟨[(2,.ref 0 0),(3,.ref 1 0),(4,.ref 2 0),(5,ai f.s.opds.length)],
     [.box ((bP f).map .p),.box ((aC t).map .p),.box [.p (.int .u8 0),ai 0,.p (.int .u64 0),.p (.str ⟨#[]⟩),ai 0,.p .nils]]⟩) (by omega) (by simp[aa]) (by
     intro k o h hx _ hm K
     have w1:=aA h (by omega)
     obtain⟨c,c1,c2,c3,c4⟩:=hz k h
     have hnc:=CC n (by omega) f c ha (hr c c4)
     have bT:k<f.t.args.length:=by omega
     rw[c3]
     by_cases k2:t.kind=2
     ·by_cases o1:o.kind=1
      ·simp[aa,h,hx,w1,k2,o1]
      ·cases q:cc o.name t.name
       ·simp[aa,h,hx,w1,k2,o1,q,yu t.name o.name]
       ·simp[aa,h,hx,w1,k2,o1,q,yu t.name o.name,c1,c2,bT,hnc,vN]
     ·simp[aa,h,hx,w1,k2]) (by simp[aa])]
  rw[Cz]
  unfold PU
  cases hf:f.s.opds.findIdx? (fun o=>decide (t.kind=2)&&(!decide (o.kind=1)&&cc o.name t.name)) with
  |some i=>simp[aa]
  |none=>
   simp[aa]
   simp[aa,qo,nw]
   rw[av t.sub.length (fun k=>⟨[(2,.ref 0 0),(3,.ref 1 0),(4,.ref 2 0),(6,.ref 3 0),(7,ai k)],
    [.box ((bP f).map .p),.box ((aC t).map .p),.box [.p (.int .u8 0),ai 0,.p (.int .u64 0),.p (.str ⟨#[]⟩),ai 0,.p .nils],.box [.p (.int .u8 t.kind),ai t.width,.p (.int .u64 t.bits),.p (.str t.name),ai t.low,.arr 4 k 0 k],.arr k 6 false (((t.sub.take k).map (fX f.m f.s f.t.args)).map aT)]⟩)
    (.exit 2,⟨[(2,.ref 0 0),(3,.ref 1 0),(4,.ref 2 0),(6,.ref 3 0),(7,ai t.sub.length)],
    [.box ((bP f).map .p),.box ((aC t).map .p),.box [.p (.int .u8 0),ai 0,.p (.int .u64 0),.p (.str ⟨#[]⟩),ai 0,.p .nils],.box [.p (.int .u8 t.kind),ai t.width,.p (.int .u64 t.bits),.p (.str t.name),ai t.low,.arr 4 t.sub.length 0 t.sub.length],.arr t.sub.length 6 false ((t.sub.map (fX f.m f.s f.t.args)).map aT)]⟩) (by omega) (by simp[aa,ae t]) (by
    intro k h K
    have w1:=aA h (by omega)
    obtain⟨x,hx,_,hm⟩:=ay h
    have bI:=ih n f x vN Vm ha hr (ht.2 x hm) (by omega)
    have b1:(k+1)*72≤1099511627776:=by omega
    have b2:k+1≤1099511627776:=by omega
    have e:(t.sub.take (k+1)).map (fX f.m f.s f.t.args)=(t.sub.take k).map (fX f.m f.s f.t.args)++[fX f.m f.s f.t.args x]:=by
     rw[List.take_succ_eq_append_getElem h,hx h];simp
    rw[e]
    have hlen:((t.sub.take k).map (fX f.m f.s f.t.args)).length=k:=by simp;omega
    generalize (t.sub.take k).map (fX f.m f.s f.t.args)=A at*
    generalize fX f.m f.s f.t.args x=x' at*
    simp[aa,h,hx,bX t.z h,bI,w1,b1,b2,hlen]
    try rfl) (by simp[aa])]
   rw[bA]
   simp[aa]
def bR(t:Tr)(x:Int):Bool:=decide (t.kind=1)&&decide (t.bits=x)
def nU(w x:Int):Int:=if br w<x then br w else x
theorem BF(N:Nat)(hN:1≤N)(w x:Int):R N 209 [ai w,.p (.int .u64 x)] []=some (.agg ((aC (bD w x)).map .p),[]):=by
 have aa:rows 209={}:=rfl
 obtain⟨n,rfl⟩:=up N
 rw[aE 209 Tryz.func209 rfl rfl]
 simp[aa,bD,bA]
theorem wT(N:Nat)(hN:1≤N)(t:Tr)(x:Int):R N 246 [.agg ((aC t).map .p),.p (.int .u64 x)] []=some (ab (bR t x),[]):=by
 have aa:rows 246={}:=rfl
 obtain⟨n,rfl⟩:=up N
 rw[aE 246 Tryz.func246 rfl rfl]
 unfold bR
 by_cases h:t.kind=1
 ·simp[aa,ae t,eq_true h]
 ·simp[aa,ae t,h]
theorem wH(N:Nat)(hN:3≤N)(w x:Int):R N 247 [ai w,.p (.int .u64 x)] []=some (.p (.int .u64 (nU w x)),[]):=by
 have aa:rows 247={}:=rfl
 obtain⟨n,rfl⟩:=up N
 rw[aE 247 Tryz.func247 rfl rfl]
 have hm:=jr n (by omega) w
 unfold nU
 simp[aa,hm,sB]
theorem bU(z:Bool)(a:PV)(l:List PV):fg z (a::l)=.sl (a::l):=by simp[fg]
theorem Fc(N:Nat)(hN:1≤N)(t x:Tr)(r:List Tr)(hs:t.sub=x::r):R N 215 [.agg ((aC t).map .p)] []=some (.agg ((aC x).map .p),[]):=by
 have aa:rows 215={}:=rfl
 obtain⟨n,rfl⟩:=up N
 rw[aE 215 Tryz.func215 rfl rfl]
 simp[aa,ae t,hs,bU]
theorem Kr(N:Nat)(hN:1≤N)(t x y:Tr)(hs:t.sub=[x,y]):R N 213 [.agg ((aC t).map .p)] []=some (.agg ((aC y).map .p),[]):=by
 have aa:rows 213={}:=rfl
 obtain⟨n,rfl⟩:=up N
 rw[aE 213 Tryz.func213 rfl rfl]
 simp[aa,ae t,hs,bU]
theorem qO(N:Nat)(hN:5≤N)(t:Tr)(x:Int):R N 250 [.agg ((aC t).map .p),.p (.ptr [.int .u64 x] 0)] []=some (.agg ((aC (bD t.width (nU t.width x))).map .p),[]):=by
 have aa:rows 250=_:=Zo.eq_1
 obtain⟨n,rfl⟩:=up N
 rw[aE 250 Tryz.func250 rfl rfl]
 have h1:=wH n (by omega)
 have h2:=BF n (by omega)
 simp[aa,ae t,h1,h2]
def aga(l:List PV):Prop:=l=[]∨∃v,l=[.ptr [.int .u64 v] 0]
theorem Eo(n:Nat)(hn:5≤n)(f:Nat)(bx:List PV)(hc:aga bx)(oN:T.muts f=false)(t o a b:Tr)(w:Int)(hs:t.sub=[a,b])
  (ho:R n f (.agg ((aC t).map .p)::bx.map .p) []=some (.agg ((aC o).map .p),[])):
  R (n+1) 245 [.agg ((aC t).map .p),.p (.ptr [.fn f bx] 0),.p (.ptr [.int .u64 w] 0)] []=some (.tup [.agg ((aC o).map .p),ab (bR a (nU a.width w))],[]):=by
 obtain⟨N,hN⟩:∃N,N=n+1:=⟨_,rfl⟩
 rw[←hN]
 have h1:=wH n (by omega) a.width w
 have h2:=wT n (by omega) a
 have Uw:n=N-1:=by omega
 subst Uw
 have aa:rows 245=_:=Zs.eq_1
 obtain⟨n,rfl⟩:=up N
 rw[aE 245 Tryz.func245 rfl rfl]
 simp only[Nat.add_sub_cancel] at*
 simp at oN
 rcases hc with rfl|⟨v,rfl⟩<;>
 (simp[aa,ae t,hs,bU] at ho ⊢
  simp[aa,ae a,ae b] at h2
  simp[aa,ae a,ae b,h1,h2,ho,oN])
theorem Ae(n:Nat)(hn:5≤n)(f:Nat)(bx:List PV)(hc:aga bx)(oN:T.muts f=false)(t o a b:Tr)(w:Int)(hs:t.sub=[a,b])
  (ho:R n f (.agg ((aC t).map .p)::bx.map .p) []=some (.agg ((aC o).map .p),[])):
  R (n+1) 248 [.agg ((aC t).map .p),.p (.ptr [.fn f bx] 0),.p (.ptr [.int .u64 w] 0)] []=some (.tup [.agg ((aC o).map .p),ab (bR b (nU b.width w))],[]):=by
 obtain⟨N,hN⟩:∃N,N=n+1:=⟨_,rfl⟩
 rw[←hN]
 have h1:=wH n (by omega) b.width w
 have h2:=wT n (by omega) b
 have Uw:n=N-1:=by omega
 subst Uw
 have aa:rows 248=_:=Zr.eq_1
 obtain⟨n,rfl⟩:=up N
 rw[aE 248 Tryz.func248 rfl rfl]
 simp only[Nat.add_sub_cancel] at*
 simp at oN
 rcases hc with rfl|⟨v,rfl⟩<;>
 (simp[aa,ae t,hs,bU] at ho ⊢
  simp[aa,ae a,ae b] at h2
  simp[aa,ae a,ae b,h1,h2,ho,oN])
theorem DG(n:Nat)(hn:5≤n)(f:Nat)(bx:List PV)(hc:aga bx)(oN:T.muts f=false)(t o a b:Tr)(d:Nat)(hs:t.sub=[a,b])(hd:Dp d a)(hdn:2*d+1004≤n)
  (ho:R n f (.agg ((aC t).map .p)::bx.map .p) []=some (.agg ((aC o).map .p),[])):
  R (n+1) 249 [.agg ((aC t).map .p),.p (.ptr [.fn f bx] 0)] []=some (.tup [.agg ((aC o).map .p),ab (aI a b)],[]):=by
 obtain⟨N,hN⟩:∃N,N=n+1:=⟨_,rfl⟩
 rw[←hN]
 have h2:=iM d n a b hd (by omega)
 have h1:=h2
 have Uw:n=N-1:=by omega
 subst Uw
 have aa:rows 249=_:=Zp.eq_1
 obtain⟨n,rfl⟩:=up N
 rw[aE 249 Tryz.func249 rfl rfl]
 simp only[Nat.add_sub_cancel] at*
 simp at oN
 rcases hc with rfl|⟨v,rfl⟩<;>
 (simp[aa,ae t,hs,bU] at ho ⊢
  simp[aa,ae a,ae b] at h2
  simp[aa,ae a,ae b,h1,h2,ho,oN])
theorem N1(N:Nat)(hN:1≤N)(t a b:Tr)(r:List Tr)(hs:t.sub=[a])(ha:a.kind=t.kind→a.sub=b::r):
  R N 211 [.agg ((aC t).map .p)] []=some (.tup [.agg ((aC (if a.kind=t.kind then b else t)).map .p),ab (decide (a.kind=t.kind))],[]):=by
 have aa:rows 211={}:=rfl
 obtain⟨n,rfl⟩:=up N
 rw[aE 211 Tryz.func211 rfl rfl]
 by_cases h:a.kind=t.kind
 ·have ha:=ha h
  simp[aa,ae t,ae a,hs,ha,h,bU]
 ·simp[aa,ae t,ae a,hs,h,bU]
theorem adm(N:Nat)(hN:2≤N)(t a b:Tr)(hs:t.sub=[a,b])(hw:0≤t.width∧t.width≤64):
  R N 218 [.agg ((aC t).map .p)] []=some (.tup [.agg ((aC (bD t.width 0)).map .p),ab (decide (b.kind=1)&&decide (t.width≤b.bits))],[]):=by
 have aa:rows 218=_:=ZI.eq_1
 obtain⟨n,rfl⟩:=up N
 rw[aE 218 Tryz.func218 rfl rfl]
 have h2:=BF n (by omega) t.width 0
 have lr:=f_ hw.1 (by omega)
 by_cases h:b.kind=1
 ·simp[aa,ae t,ae b,hs,eq_true h,bU,h2,lr]
 ·simp[aa,ae t,ae b,hs,h,bU,h2]
theorem LW(d N:Nat)(hN:2*d+1005≤N)(t a b c:Tr)(hs:t.sub=[a,b,c])(hd:Dp d b):
  R N 219 [.agg ((aC t).map .p)] []=some (.tup [.agg ((aC (if bR a 1=true then b else c)).map .p),ab (bR a 1||(bR a 0||aI b c))],[]):=by
 have aa:rows 219=_:=ZH.eq_1
 obtain⟨n,rfl⟩:=up N
 rw[aE 219 Tryz.func219 rfl rfl]
 have h1:=wT n (by omega) a 1
 have h2:=wT n (by omega) a 0
 have h3:=iM d n b c hd (by omega)
 simp[aa,ae a] at h1 h2
 simp[aa,ae b,ae c] at h3
 cases q1:bR a 1<;>rw[q1] at h1
 ·cases q2:bR a 0<;>rw[q2] at h2<;>
  simp[aa,ae t,ae a,ae b,ae c,hs,bU,h1,h2,h3]
 ·simp[aa,ae t,ae a,ae b,ae c,hs,bU,h1]
def gF(b:Tr):Tr:=if b.kind=22 then b.sub.headD default else b
theorem Ln(N:Nat)(hN:2≤N)(t a b:Tr)(hs:t.sub=[a,b])(hb:b.kind=22→∃x r,b.sub=x::r):
  R N 220 [.agg ((aC t).map .p)] []=some (.tup [.agg ((aC (.mk 22 t.width 0 ⟨#[]⟩ 0 false [gF b])).map .p),ab (bR a 0)],[]):=by
 have aa:rows 220=_:=ZG.eq_1
 obtain⟨n,rfl⟩:=up N
 rw[aE 220 Tryz.func220 rfl rfl]
 have h1:=wT n (by omega) a 0
 simp[aa,ae a] at h1
 by_cases h:b.kind=22
 ·obtain⟨x,r,hx⟩:=hb h
  simp[aa,bA,ae t,ae a,ae b,hs,bU,h1,gF,eq_true h,hx]
  rfl
 ·simp[aa,bA,ae t,ae a,ae b,hs,bU,h1,gF,h]
  rw[show aT b=PV.agg (aC b) from rfl,ae b]
theorem NF(N:Nat)(hN:1≤N)(t a:Tr)(hs:t.sub=[a]):
  R N 221 [.agg ((aC t).map .p)] []=some (.tup [.agg ((aC a).map .p),ab (decide (a.width=t.width))],[]):=by
 have aa:rows 221=_:=ZF.eq_1
 obtain⟨n,rfl⟩:=up N
 rw[aE 221 Tryz.func221 rfl rfl]
 simp[aa,ae t,ae a,hs,bU]
theorem Px(N:Nat)(hN:1≤N)(t a:Tr)(hs:t.sub=[a])(hl:a.kind=t.kind→IntKind.i64.wrap (t.low+a.low)=t.low+a.low):
  R N 222 [.agg ((aC t).map .p)] []=some (.tup [.agg ((aC (if a.kind=t.kind then .mk t.kind t.width t.bits t.name (t.low+a.low) a.z a.sub else t)).map .p),ab (decide (a.kind=t.kind))],[]):=by
 have aa:rows 222={}:=rfl
 obtain⟨n,rfl⟩:=up N
 rw[aE 222 Tryz.func222 rfl rfl]
 by_cases h:a.kind=t.kind
 ·have hl:=hl h
  simp[aa,bA,ae t,ae a,hs,h,bU,hl]
 ·simp[aa,ae t,ae a,hs,h,bU]
theorem fe(N:Nat)(hN:1≤N)(x:Tr)(hk:x.kind=1):R N 244 [.agg ((aC x).map .p),.map 0,.p .nils] [.map []]=some (.p (.int .u64 x.bits),[.map []]):=by
 have aa:rows 244=_:=qy.eq_1
 obtain⟨n,rfl⟩:=up N
 rw[aE 244 Tryz.func244 rfl rfl]
 simp -implicitDefEqProofs[aa,ae x,hk]
theorem aq9(k:Nat)(hk:5≤k∧k≤18)(N:Nat)(hN:100≤N)(w a b:Nat)(h1:1≤w)(hw:w≤64)(ha:a<2^w)(hb:b<2^w):R N 262 [.p (.int .u8 (k:Nat)),ai w,.p (.int .u64 a),.p (.int .u64 b)] []=some (.tup [.p (.int .u64 (bF k w a b)),ai 0],[]):=by
 have:k=5∨k=6∨k=7∨k=8∨k=9∨k=10∨k=11∨k=12∨k=13∨k=14∨k=15∨k=16∨k=17∨k=18:=by omega
 rcases this with rfl|rfl|rfl|rfl|rfl|rfl|rfl|rfl|rfl|rfl|rfl|rfl|rfl|rfl
 ·exact are N hN w a b h1 hw ha hb
 ·exact ard N hN w a b h1 hw ha hb
 ·exact arc N hN w a b h1 hw ha hb
 ·exact arb N hN w a b h1 hw ha hb
 ·exact ara N hN w a b h1 hw ha hb
 ·exact aeM N hN w a b h1 hw ha hb
 ·exact aeL N hN w a b h1 hw ha hb
 ·exact aeK N hN w a b h1 hw ha hb
 ·exact aeJ N hN w a b h1 hw ha hb
 ·exact aeI N hN w a b h1 hw ha hb
 ·exact aeH N hN w a b h1 hw ha hb
 ·exact aeG N hN w a b h1 hw ha hb
 ·exact aeF N hN w a b h1 hw ha hb
 ·exact aeE N hN w a b h1 hw ha hb
theorem ie(k:Nat)(JB:5≤k∧k≤18)(N:Nat)(hN:200≤N)(t x y:Tr)(w0 b0 b1:Nat)(hk:t.kind=(k:Nat))(hs:t.sub=[x,y])(lZ:x.kind=1)(jC:x.bits=(b0:Nat))(kV:y.kind=1)(nY:y.bits=(b1:Nat))(ur:x.width=(w0:Nat))(v1:1≤w0)(v2:w0≤64)(v3:b0<2^w0)(v4:b1<2^w0):R N 244 [.agg ((aC t).map .p),.map 0,.p .nils] [.map []]=some (.p (.int .u64 (bF k w0 b0 b1:Nat)),[.map []]):=by
 have aa:rows 244=_:=qy.eq_1
 obtain⟨n,rfl⟩:=up N
 rw[aE 244 Tryz.func244 rfl rfl]
 have g0:=fe n (by omega) x lZ
 rw[ae x,jC] at g0
 have g1:=fe n (by omega) y kV
 rw[ae y,nY] at g1
 have gc:=aq9 k JB n (by omega) w0 b0 b1 v1 v2 v3 v4
 generalize bF k w0 b0 b1=res at*
 simp -implicitDefEqProofs[aa] at g0 g1
 have hc:k=5∨k=6∨k=7∨k=8∨k=9∨k=10∨k=11∨k=12∨k=13∨k=14∨k=15∨k=16∨k=17∨k=18:=by omega
 rcases hc with rfl|rfl|rfl|rfl|rfl|rfl|rfl|rfl|rfl|rfl|rfl|rfl|rfl|rfl<;>
 (simp -implicitDefEqProofs[aa] at gc hk
  simp -implicitDefEqProofs[aa,ae t,hk,hs,bU]
  rw[av 2 (fun q=>⟨[(1,.map 0),(2,.p .nils),(3,.ref 1 0),(7,.ref 2 0),(25,.p (.sl [aT x,aT y])),(26,ai 2),(27,ai q)],[.map [],.box [.p (.int .u8 t.kind),ai t.width,.p (.int .u64 t.bits),.p (.str t.name),ai t.low,.p (.sl [aT x,aT y])],.box [.p (.int .u64 (if q≤0 then 0 else(b0:Nat):Int)),.p (.int .u64 (if q≤1 then 0 else(b1:Nat):Int)),.p (.int .u64 0)]]⟩) (.exit 1,⟨[(1,.map 0),(2,.p .nils),(3,.ref 1 0),(7,.ref 2 0),(25,.p (.sl [aT x,aT y])),(26,ai 2),(27,ai 2)],[.map [],.box [.p (.int .u8 t.kind),ai t.width,.p (.int .u64 t.bits),.p (.str t.name),ai t.low,.p (.sl [aT x,aT y])],.box [.p (.int .u64 (b0:Nat)),.p (.int .u64 (b1:Nat)),.p (.int .u64 0)]]⟩) (by omega) (by simp -implicitDefEqProofs[aa,hk]) (by
   intro q h K
   have i0:IntKind.i64.wrap 1=1:=rfl
   have i1:IntKind.i64.wrap 2=2:=rfl
   have i2:IntKind.i64.wrap 3=3:=rfl
   rcases (show q=0∨q=1 by omega) with rfl|rfl<;>
   simp -implicitDefEqProofs[aa,hk,ae x,ae y,g0,g1,jC,nY,i0,i1,i2,jz]) (by simp -implicitDefEqProofs[aa,hk])]
  simp -implicitDefEqProofs[aa,hk,ae x,ae y,ur,gc,jz])
theorem NY(k:Nat)(JB:k=3∨k=4)(N:Nat)(hN:200≤N)(t x:Tr)(w0 b0:Nat)(hk:t.kind=(k:Nat))(hs:t.sub=[x])(lZ:x.kind=1)(jC:x.bits=(b0:Nat))(ur:x.width=(w0:Nat))(v1:1≤w0)(v2:w0≤64)(v3:b0<2^w0):R N 244 [.agg ((aC t).map .p),.map 0,.p .nils] [.map []]=some (.p (.int .u64 (zu k w0 b0:Nat)),[.map []]):=by
 have aa:rows 244=_:=qy.eq_1
 obtain⟨n,rfl⟩:=up N
 rw[aE 244 Tryz.func244 rfl rfl]
 have g0:=fe n (by omega) x lZ
 rw[ae x,jC] at g0
 have gc:R n 257 [.p (.int .u8 (k:Nat)),ai w0,.p (.int .u64 b0)] []=some (.tup [.p (.int .u64 (zu k w0 b0)),ai 0],[]):=by rcases JB with rfl|rfl;exact UY n (by omega) w0 b0 v1 v2 v3;exact UX n (by omega) w0 b0 v1 v2 v3
 generalize zu k w0 b0=res at*
 simp -implicitDefEqProofs[aa] at g0
 rcases JB with rfl|rfl<;>
 (simp -implicitDefEqProofs[aa] at gc hk
  simp -implicitDefEqProofs[aa,ae t,hk,hs,bU]
  rw[av 1 (fun q=>⟨[(1,.map 0),(2,.p .nils),(3,.ref 1 0),(7,.ref 2 0),(25,.p (.sl [aT x])),(26,ai 1),(27,ai q)],[.map [],.box [.p (.int .u8 t.kind),ai t.width,.p (.int .u64 t.bits),.p (.str t.name),ai t.low,.p (.sl [aT x])],.box [.p (.int .u64 (if q≤0 then 0 else(b0:Nat):Int)),.p (.int .u64 0),.p (.int .u64 0)]]⟩) (.exit 1,⟨[(1,.map 0),(2,.p .nils),(3,.ref 1 0),(7,.ref 2 0),(25,.p (.sl [aT x])),(26,ai 1),(27,ai 1)],[.map [],.box [.p (.int .u8 t.kind),ai t.width,.p (.int .u64 t.bits),.p (.str t.name),ai t.low,.p (.sl [aT x])],.box [.p (.int .u64 (b0:Nat)),.p (.int .u64 0),.p (.int .u64 0)]]⟩) (by omega) (by simp -implicitDefEqProofs[aa,hk]) (by
   intro q h K
   have i0:IntKind.i64.wrap 1=1:=rfl
   have i1:IntKind.i64.wrap 2=2:=rfl
   have i2:IntKind.i64.wrap 3=3:=rfl
   rcases (show q=0 by omega) with rfl<;>
   simp -implicitDefEqProofs[aa,hk,ae x,g0,jC,i0,i1,i2,jz]) (by simp -implicitDefEqProofs[aa,hk])]
  simp -implicitDefEqProofs[aa,hk,ae x,ur,gc,jz])
theorem SD(N:Nat)(hN:200≤N)(t x y:Tr)(w0 b0 b1:Nat)(hk:t.kind=20)(hs:t.sub=[x,y])(lZ:x.kind=1)(jC:x.bits=(b0:Nat))(kV:y.kind=1)(nY:y.bits=(b1:Nat))(ur:x.width=(w0:Nat))(w1:Nat)(WE:y.width=(w1:Nat))(v1:1≤w0)(v2:1≤w1)(v3:w0+w1≤64)(v4:b0<2^w0)(v5:b1<2^w1):R N 244 [.agg ((aC t).map .p),.map 0,.p .nils] [.map []]=some (.p (.int .u64 (b0*2^w1+b1:Nat)),[.map []]):=by
 have aa:rows 244=_:=qy.eq_1
 obtain⟨n,rfl⟩:=up N
 rw[aE 244 Tryz.func244 rfl rfl]
 have g0:=fe n (by omega) x lZ
 rw[ae x,jC] at g0
 have g1:=fe n (by omega) y kV
 rw[ae y,nY] at g1
 have gc:=Iv n (by omega) w0 w1 b0 b1 v1 v2 v3 v4 v5
 generalize b0*2^w1+b1=res at*
 simp -implicitDefEqProofs[aa] at g0 g1
 (simp -implicitDefEqProofs[aa,ae t,hk,hs,bU]
  rw[av 2 (fun q=>⟨[(1,.map 0),(2,.p .nils),(3,.ref 1 0),(7,.ref 2 0),(25,.p (.sl [aT x,aT y])),(26,ai 2),(27,ai q)],[.map [],.box [.p (.int .u8 t.kind),ai t.width,.p (.int .u64 t.bits),.p (.str t.name),ai t.low,.p (.sl [aT x,aT y])],.box [.p (.int .u64 (if q≤0 then 0 else(b0:Nat):Int)),.p (.int .u64 (if q≤1 then 0 else(b1:Nat):Int)),.p (.int .u64 0)]]⟩) (.exit 1,⟨[(1,.map 0),(2,.p .nils),(3,.ref 1 0),(7,.ref 2 0),(25,.p (.sl [aT x,aT y])),(26,ai 2),(27,ai 2)],[.map [],.box [.p (.int .u8 t.kind),ai t.width,.p (.int .u64 t.bits),.p (.str t.name),ai t.low,.p (.sl [aT x,aT y])],.box [.p (.int .u64 (b0:Nat)),.p (.int .u64 (b1:Nat)),.p (.int .u64 0)]]⟩) (by omega) (by simp -implicitDefEqProofs[aa,hk]) (by
   intro q h K
   have i0:IntKind.i64.wrap 1=1:=rfl
   have i1:IntKind.i64.wrap 2=2:=rfl
   have i2:IntKind.i64.wrap 3=3:=rfl
   rcases (show q=0∨q=1 by omega) with rfl|rfl<;>
   simp -implicitDefEqProofs[aa,hk,ae x,ae y,g0,g1,jC,nY,i0,i1,i2,jz]) (by simp -implicitDefEqProofs[aa,hk])]
  simp -implicitDefEqProofs[aa,hk,ae x,ae y,ur,gc,jz,WE])
theorem SC(N:Nat)(hN:200≤N)(t x:Tr)(w0 b0:Nat)(hk:t.kind=21)(hs:t.sub=[x])(lZ:x.kind=1)(jC:x.bits=(b0:Nat))(ur:x.width=(w0:Nat))(low many:Nat)(acO:t.low=(low:Nat))(PR:t.width=(many:Nat))(v1:1≤w0)(v2:w0≤64)(v3:b0<2^w0)(v4:1≤many)(v5:low+many≤w0):R N 244 [.agg ((aC t).map .p),.map 0,.p .nils] [.map []]=some (.p (.int .u64 (b0/2^low % 2^many:Nat)),[.map []]):=by
 have aa:rows 244=_:=qy.eq_1
 obtain⟨n,rfl⟩:=up N
 rw[aE 244 Tryz.func244 rfl rfl]
 have g0:=fe n (by omega) x lZ
 rw[ae x,jC] at g0
 have gc:=FL n (by omega) w0 b0 low many v1 v2 v3 v4 v5
 generalize b0/2^low % 2^many=res at*
 simp -implicitDefEqProofs[aa] at g0
 (simp -implicitDefEqProofs[aa,ae t,hk,hs,bU]
  rw[av 1 (fun q=>⟨[(1,.map 0),(2,.p .nils),(3,.ref 1 0),(7,.ref 2 0),(25,.p (.sl [aT x])),(26,ai 1),(27,ai q)],[.map [],.box [.p (.int .u8 t.kind),ai t.width,.p (.int .u64 t.bits),.p (.str t.name),ai t.low,.p (.sl [aT x])],.box [.p (.int .u64 (if q≤0 then 0 else(b0:Nat):Int)),.p (.int .u64 0),.p (.int .u64 0)]]⟩) (.exit 1,⟨[(1,.map 0),(2,.p .nils),(3,.ref 1 0),(7,.ref 2 0),(25,.p (.sl [aT x])),(26,ai 1),(27,ai 1)],[.map [],.box [.p (.int .u8 t.kind),ai t.width,.p (.int .u64 t.bits),.p (.str t.name),ai t.low,.p (.sl [aT x])],.box [.p (.int .u64 (b0:Nat)),.p (.int .u64 0),.p (.int .u64 0)]]⟩) (by omega) (by simp -implicitDefEqProofs[aa,hk]) (by
   intro q h K
   have i0:IntKind.i64.wrap 1=1:=rfl
   have i1:IntKind.i64.wrap 2=2:=rfl
   have i2:IntKind.i64.wrap 3=3:=rfl
   rcases (show q=0 by omega) with rfl<;>
   simp -implicitDefEqProofs[aa,hk,ae x,g0,jC,i0,i1,i2,jz]) (by simp -implicitDefEqProofs[aa,hk])]
  simp -implicitDefEqProofs[aa,hk,ae x,ur,gc,jz,acO,PR])
theorem NX(sg:Bool)(N:Nat)(hN:200≤N)(t x:Tr)(w0 b0:Nat)(hk:t.kind=if sg=true then 23 else 22)(hs:t.sub=[x])(lZ:x.kind=1)(jC:x.bits=(b0:Nat))(ur:x.width=(w0:Nat))(to:Nat)(Vn:t.width=(to:Nat))(v1:1≤w0)(v2:w0≤to)(v3:to≤64)(v4:b0<2^w0):R N 244 [.agg ((aC t).map .p),.map 0,.p .nils] [.map []]=some (.p (.int .u64 (vx w0 b0 to sg:Nat)),[.map []]):=by
 have aa:rows 244=_:=qy.eq_1
 obtain⟨n,rfl⟩:=up N
 rw[aE 244 Tryz.func244 rfl rfl]
 have g0:=fe n (by omega) x lZ
 rw[ae x,jC] at g0
 have gc:=Iu n (by omega) w0 b0 to sg v1 v2 v3 v4
 generalize vx w0 b0 to sg=res at*
 simp -implicitDefEqProofs[aa] at g0
 cases sg<;>
 (simp -implicitDefEqProofs[aa] at gc hk
  simp -implicitDefEqProofs[aa,ae t,hk,hs,bU]
  rw[av 1 (fun q=>⟨[(1,.map 0),(2,.p .nils),(3,.ref 1 0),(7,.ref 2 0),(25,.p (.sl [aT x])),(26,ai 1),(27,ai q)],[.map [],.box [.p (.int .u8 t.kind),ai t.width,.p (.int .u64 t.bits),.p (.str t.name),ai t.low,.p (.sl [aT x])],.box [.p (.int .u64 (if q≤0 then 0 else(b0:Nat):Int)),.p (.int .u64 0),.p (.int .u64 0)]]⟩) (.exit 1,⟨[(1,.map 0),(2,.p .nils),(3,.ref 1 0),(7,.ref 2 0),(25,.p (.sl [aT x])),(26,ai 1),(27,ai 1)],[.map [],.box [.p (.int .u8 t.kind),ai t.width,.p (.int .u64 t.bits),.p (.str t.name),ai t.low,.p (.sl [aT x])],.box [.p (.int .u64 (b0:Nat)),.p (.int .u64 0),.p (.int .u64 0)]]⟩) (by omega) (by simp -implicitDefEqProofs[aa,hk]) (by
   intro q h K
   have i0:IntKind.i64.wrap 1=1:=rfl
   have i1:IntKind.i64.wrap 2=2:=rfl
   have i2:IntKind.i64.wrap 3=3:=rfl
   rcases (show q=0 by omega) with rfl<;>
   simp -implicitDefEqProofs[aa,hk,ae x,g0,jC,i0,i1,i2,jz]) (by simp -implicitDefEqProofs[aa,hk])]
  simp -implicitDefEqProofs[aa,hk,ae x,ur,gc,jz,Vn])
theorem SE(N:Nat)(hN:200≤N)(t x y z:Tr)(w0 b0 b1 b2:Nat)(hk:t.kind=19)(hs:t.sub=[x,y,z])(lZ:x.kind=1)(jC:x.bits=(b0:Nat))(kV:y.kind=1)(nY:y.bits=(b1:Nat))(tt:z.kind=1)(p9:z.bits=(b2:Nat))(ur:x.width=(w0:Nat))(v3:b0<2):R N 244 [.agg ((aC t).map .p),.map 0,.p .nils] [.map []]=some (.p (.int .u64 (if b0=1 then b1 else b2:Nat)),[.map []]):=by
 have aa:rows 244=_:=qy.eq_1
 obtain⟨n,rfl⟩:=up N
 rw[aE 244 Tryz.func244 rfl rfl]
 have g0:=fe n (by omega) x lZ
 rw[ae x,jC] at g0
 have g1:=fe n (by omega) y kV
 rw[ae y,nY] at g1
 have g2:=fe n (by omega) z tt
 rw[ae z,p9] at g2
 have gc:True:=trivial
 simp -implicitDefEqProofs[aa] at g0 g1 g2
 (simp -implicitDefEqProofs[aa,ae t,hk,hs,bU]
  rw[av 3 (fun q=>⟨[(1,.map 0),(2,.p .nils),(3,.ref 1 0),(7,.ref 2 0),(25,.p (.sl [aT x,aT y,aT z])),(26,ai 3),(27,ai q)],[.map [],.box [.p (.int .u8 t.kind),ai t.width,.p (.int .u64 t.bits),.p (.str t.name),ai t.low,.p (.sl [aT x,aT y,aT z])],.box [.p (.int .u64 (if q≤0 then 0 else(b0:Nat):Int)),.p (.int .u64 (if q≤1 then 0 else(b1:Nat):Int)),.p (.int .u64 (if q≤2 then 0 else(b2:Nat):Int))]]⟩) (.exit 1,⟨[(1,.map 0),(2,.p .nils),(3,.ref 1 0),(7,.ref 2 0),(25,.p (.sl [aT x,aT y,aT z])),(26,ai 3),(27,ai 3)],[.map [],.box [.p (.int .u8 t.kind),ai t.width,.p (.int .u64 t.bits),.p (.str t.name),ai t.low,.p (.sl [aT x,aT y,aT z])],.box [.p (.int .u64 (b0:Nat)),.p (.int .u64 (b1:Nat)),.p (.int .u64 (b2:Nat))]]⟩) (by omega) (by simp -implicitDefEqProofs[aa,hk]) (by
   intro q h K
   have i0:IntKind.i64.wrap 1=1:=rfl
   have i1:IntKind.i64.wrap 2=2:=rfl
   have i2:IntKind.i64.wrap 3=3:=rfl
   rcases (show q=0∨q=1∨q=2 by omega) with rfl|rfl|rfl<;>
   simp -implicitDefEqProofs[aa,hk,ae x,ae y,ae z,g0,g1,g2,jC,nY,p9,i0,i1,i2,jz]) (by simp -implicitDefEqProofs[aa,hk])]
  have i0:IntKind.u64.wrap 2=2:=rfl
  have i1:IntKind.u64.wrap 1=1:=rfl
  rcases (show b0=0∨b0=1 by omega) with rfl|rfl<;>simp -implicitDefEqProofs[aa,hk,i0,i1,jz])
theorem gS{a b:ByteArray}(h:cc a b=true):a=b:=by
 unfold cc at h
 rw[ByteArray.toList_eq,ByteArray.toList_eq,beq_iff_eq] at h
 obtain⟨⟨a⟩⟩:=a
 obtain⟨⟨b⟩⟩:=b
 simpa using h
theorem aZ(k w b:Int)(n:ByteArray)(l:Int)(z:Bool)(s:List Tr):Tr.kind (.mk k w b n l z s)=k:=rfl
theorem bS(k w b:Int)(n:ByteArray)(l:Int)(z:Bool)(s:List Tr):Tr.width (.mk k w b n l z s)=w:=rfl
theorem fG(k w b:Int)(n:ByteArray)(l:Int)(z:Bool)(s:List Tr):Tr.bits (.mk k w b n l z s)=b:=rfl
theorem g_(k w b:Int)(n:ByteArray)(l:Int)(z:Bool)(s:List Tr):Tr.name (.mk k w b n l z s)=n:=rfl
theorem cr(k w b:Int)(n:ByteArray)(l:Int)(z:Bool)(s:List Tr):Tr.low (.mk k w b n l z s)=l:=rfl
theorem Zg(k w b:Int)(n:ByteArray)(l:Int)(z:Bool)(s:List Tr):Tr.z (.mk k w b n l z s)=z:=rfl
theorem aq(k w b:Int)(n:ByteArray)(l:Int)(z:Bool)(s:List Tr):Tr.sub (.mk k w b n l z s)=s:=rfl
inductive NC:Tr→Prop
 |con (w b z):1≤w→w≤64→b≤br w→NC (.mk 1 w b ⟨#[]⟩ 0 z [])
 |var (w n z):1≤w→w≤64→wG n=true→NC (.mk 2 w 0 n 0 z [])
 |un (k w z x):1≤w→w≤64→k=3∨k=4→Tr.width x=w→NC (.mk k w 0 ⟨#[]⟩ 0 z [x])
 |bin (k w z x y):1≤w→w≤64→5≤k→k≤15→Tr.width x=w→Tr.width y=w→NC (.mk k w 0 ⟨#[]⟩ 0 z [x,y])
 |cmp (k z x y):16≤k→k≤18→Tr.width y=Tr.width x→NC (.mk k 1 0 ⟨#[]⟩ 0 z [x,y])
 |ite (w z x y v):1≤w→w≤64→Tr.width x=1→Tr.width y=w→Tr.width v=w→NC (.mk 19 w 0 ⟨#[]⟩ 0 z [x,y,v])
 |cat (w z x y):1≤w→w≤64→1≤Tr.width x→1≤Tr.width y→Tr.width x+Tr.width y=w→NC (.mk 20 w 0 ⟨#[]⟩ 0 z [x,y])
 |ext (w l z x):1≤w→w≤64→0≤l→1≤Tr.width x→Tr.width x≤64→l+w≤Tr.width x→NC (.mk 21 w 0 ⟨#[]⟩ l z [x])
 |wid (k w z x):1≤w→w≤64→k=22∨k=23→Tr.width x≤w→NC (.mk k w 0 ⟨#[]⟩ 0 z [x])
 |ld (w z x):1≤w→w≤64→gE w=true→NC (.mk 24 w 0 ⟨#[]⟩ 0 z [x])
theorem zA{α:Type}{l:List α}(h:(l.length:Int)=1):∃x,l=[x]:=List.length_eq_one_iff.1 (by omega)
theorem Lj{α:Type}{l:List α}(h:(l.length:Int)=2):∃x y,l=[x,y]:=by
 match l,h with
 |[x,y],_=>exact⟨x,y,rfl⟩
 |[],h=>simp at h
 |[_],h=>simp at h
 |_::_::_::_,h=>simp at h;omega
theorem aoh{α:Type}{l:List α}(h:(l.length:Int)=3):∃x y z,l=[x,y,z]:=by
 match l,h with
 |[x,y,z],_=>exact⟨x,y,z,rfl⟩
 |[],h=>simp at h
 |[_],h=>simp at h
 |[_,_],h=>simp at h
 |_::_::_::_::_,h=>simp at h;omega
theorem cL(x:Tr)(l:List Tr):nth (x::l) 0=x:=rfl
theorem dC(x y:Tr)(l:List Tr):nth (x::y::l) 1=y:=rfl
theorem fE(x y z:Tr)(l:List Tr):nth (x::y::z::l) 2=z:=rfl
theorem I8:∀k:Nat,5≤k→k≤15→ij.getD k 0=2∧jt.getD k 0=1:=by
 have h:∀k:Nat,k<16→5≤k→ij.getD k 0=2∧jt.getD k 0=1:=by decide
 exact fun k h1 h2=>h k (by omega) h1
theorem IS{t:Tr}(h:fH t 1=true):∀x∈t.sub,x.width=t.width:=by
 unfold fH at h
 simpa using h
theorem aln{t:Tr}(h:fH t 2=true):t.width=1∧(nth t.sub 1).width=(nth t.sub 0).width:=by
 unfold fH at h
 simpa [ak] using h
theorem alm{t:Tr}(h:fH t 3=true):((nth t.sub 0).width=1∧(nth t.sub 1).width=t.width)∧(nth t.sub 2).width=t.width:=by
 unfold fH at h
 simpa [ak] using h
theorem alk{t:Tr}(h:fH t 4=true):((1≤(nth t.sub 0).width∧(nth t.sub 0).width≤64)∧(1≤(nth t.sub 1).width∧(nth t.sub 1).width≤64))∧IntKind.i64.wrap ((nth t.sub 0).width+(nth t.sub 1).width)=t.width:=by
 unfold fH at h
 simpa [ak,cI] using h
theorem alj{t:Tr}(h:fH t 5=true):((0≤t.low∧1≤(nth t.sub 0).width∧(nth t.sub 0).width≤64)∧t.width≤(nth t.sub 0).width)∧t.low≤IntKind.i64.wrap ((nth t.sub 0).width-t.width):=by
 unfold fH at h
 simpa [ak,cI] using h
theorem VM{t:Tr}(h:fH t 6=true):(nth t.sub 0).width≤t.width:=by
 unfold fH at h
 simpa [ak,cI] using h
theorem ali{t:Tr}(h:fH t 7=true):gE t.width=true:=by
 unfold fH at h
 simpa using h
theorem S0:∀k:Nat,k<25→(3≤k↔0<ij.getD k 0):=by decide
theorem alJ:∀k:Nat,k<25→jt.getD k 0=5→k=21:=by decide
theorem HI{t:Tr}(h:eP t=true)(hk:0≤t.kind):(1≤t.width∧t.width≤64)∧
  ((t.sub=[]∧t.low=0∧((t.kind=1∧t.name=⟨#[]⟩∧t.bits≤br t.width)∨(t.kind=2∧t.bits=0∧wG t.name=true)))∨
   (3≤t.kind∧t.kind≤24∧t.bits=0∧t.name=⟨#[]⟩∧(t.low=0∨t.kind=21)∧(t.sub.length:Int)=ij.getD t.kind.toNat 0∧fH t (jt.getD t.kind.toNat 0)=true)):=by
 unfold eP at h
 by_cases hw:cI t.width=true
 ·rw[if_pos hw] at h
  simp only[cI,ak,Bool.and_eq_true,decide_eq_true_eq] at hw
  refine⟨hw, ?_⟩
  by_cases hb:t.kind≤24∧0<ij.getD t.kind.toNat 0
  ·rw[if_pos hb] at h
   by_cases hp:kN t=true
   ·rw[if_pos hp] at h
    simp only[kN,ak,aK,Bool.and_eq_true,Bool.or_eq_true,decide_eq_true_eq] at hp
    obtain⟨⟨⟨p1,p2⟩,p3⟩,p4⟩:=hp
    have h3:=(S0 t.kind.toNat (by omega)).2 hb.2
    refine Or.inr ⟨by omega,hb.1,p1,gS p2, ?_,p4,h⟩
    rcases p3 with p3|p3
    ·exact Or.inl p3
    ·have:=alJ t.kind.toNat (by omega) p3
     exact Or.inr (by omega)
   ·rw[if_neg hp] at h;exact absurd h (by simp)
  ·rw[if_neg hb] at h
   simp only[yT,ak,aK,Bool.and_eq_true,Bool.or_eq_true,decide_eq_true_eq] at h
   obtain⟨⟨h1,h2⟩,h3⟩:=h
   refine Or.inl ⟨List.eq_nil_of_length_eq_zero (by omega),h2, ?_⟩
   rcases h3 with⟨⟨h3,h4⟩,⟨h5,h6⟩,h7⟩|⟨⟨h3,h4⟩,h5⟩
   ·exact Or.inl ⟨h3,gS h4,h7⟩
   ·exact Or.inr ⟨h3,h4,h5⟩
 ·rw[if_neg hw] at h;exact absurd h (by simp)
theorem Wm{t:Tr}(h:eP t=true)(hk:0≤t.kind):NC t:=by
 obtain⟨⟨w1,w2⟩,⟨hs,hl,⟨e1,e2,e3⟩|⟨e1,e2,e3⟩⟩|⟨k1,k2,hb,hn,hl,gK,hw⟩⟩:=HI h hk
 ·obtain⟨k,w,b,n,l,z,s⟩:=t
  simp only[aZ,bS,fG,g_,cr,aq] at*
  subst hs;subst hl;subst e1;subst e2
  exact .con w b z w1 w2 e3
 ·obtain⟨k,w,b,n,l,z,s⟩:=t
  simp only[aZ,bS,fG,g_,cr,aq] at*
  subst hs;subst hl;subst e1;subst e2
  exact .var w n z w1 w2 e3
 have bT:t.kind=3∨t.kind=4∨(5≤t.kind∧t.kind≤15)∨t.kind=16∨t.kind=17∨t.kind=18∨t.kind=19∨t.kind=20∨t.kind=21∨t.kind=22∨t.kind=23∨t.kind=24:=by omega
 obtain⟨k,w,b,n,l,z,s⟩:=t
 simp only[aZ,bS,fG,g_,cr,aq] at k1 k2 hb hn hl gK w1 w2 hk bT
 subst hb;subst hn
 have lr:fH (.mk k w 0 ⟨#[]⟩ l z s) (jt.getD k.toNat 0)=true:=hw
 clear hw h
 rcases bT with rfl|rfl|bT|rfl|rfl|rfl|rfl|rfl|rfl|rfl|rfl|rfl
 ·obtain⟨x,rfl⟩:=zA gK
  obtain rfl:l=0:=by omega
  exact .un 3 w z x w1 w2 (Or.inl rfl) (IS lr x (by simp[aq]))
 ·obtain⟨x,rfl⟩:=zA gK
  obtain rfl:l=0:=by omega
  exact .un 4 w z x w1 w2 (Or.inr rfl) (IS lr x (by simp[aq]))
 ·obtain⟨b1,b2⟩:=I8 k.toNat (by omega) (by omega)
  rw[b1] at gK;rw[b2] at lr
  obtain⟨x,y,rfl⟩:=Lj gK
  obtain rfl:l=0:=by omega
  exact .bin k w z x y w1 w2 bT.1 bT.2 (IS lr x (by simp[aq])) (IS lr y (by simp[aq]))
 iterate 3
  ·obtain⟨x,y,rfl⟩:=Lj gK
   obtain rfl:l=0:=by omega
   obtain⟨h1,h2⟩:=aln lr
   simp only[bS] at h1
   subst h1
   exact .cmp _ z x y (by decide) (by decide) h2
 ·obtain⟨x,y,v,rfl⟩:=aoh gK
  obtain rfl:l=0:=by omega
  obtain⟨⟨h1,h2⟩,h3⟩:=alm lr
  exact .ite w z x y v w1 w2 h1 h2 h3
 ·obtain⟨x,y,rfl⟩:=Lj gK
  obtain rfl:l=0:=by omega
  obtain⟨⟨⟨h1,h2⟩,h3,h4⟩,h5⟩:=alk lr
  have h1:1≤x.width:=h1
  have h2:x.width≤64:=h2
  have h3:1≤y.width:=h3
  have h4:y.width≤64:=h4
  have h5:IntKind.i64.wrap (x.width+y.width)=w:=h5
  rw[wrap64 (by omega) (by omega)] at h5
  exact .cat w z x y w1 w2 h1 h3 h5
 ·obtain⟨x,rfl⟩:=zA gK
  obtain⟨⟨⟨h1,h2,h3⟩,h4⟩,h5⟩:=alj lr
  have h1:0≤l:=h1
  have h2:1≤x.width:=h2
  have h3:x.width≤64:=h3
  have h4:w≤x.width:=h4
  have h5:l≤IntKind.i64.wrap (x.width-w):=h5
  rw[wrap64 (by omega) (by omega)] at h5
  exact .ext w l z x w1 w2 h1 h2 h3 (by omega)
 ·obtain⟨x,rfl⟩:=zA gK
  obtain rfl:l=0:=by omega
  exact .wid 22 w z x w1 w2 (Or.inl rfl) (VM lr)
 ·obtain⟨x,rfl⟩:=zA gK
  obtain rfl:l=0:=by omega
  exact .wid 23 w z x w1 w2 (Or.inr rfl) (VM lr)
 ·obtain⟨x,rfl⟩:=zA gK
  obtain rfl:l=0:=by omega
  exact .ld w z x w1 w2 (ali lr)
theorem BV{t:Tr}(h:NC t)(hw:∀x∈t.sub,1≤x.width∧x.width≤64):eP t=true:=by
 have bp:=I8
 cases h with
 |con w b z h1 h2 h3=>simp[eP,cI,yT,ij,aZ,bS,aq,fG,g_,cr,h1,h2,h3]
 |var w n z h1 h2 h3=>simp[eP,cI,yT,ij,aZ,bS,aq,fG,g_,cr,h1,h2,h3]
 |un k w z x h1 h2 hk hx=>rcases hk with rfl|rfl<;>simp[eP,cI,kN,fH,ij,jt,aZ,bS,aq,fG,g_,cr,h1,h2,hx]
 |bin k w z x y h1 h2 k1 k2 hx hy=>
  obtain⟨b1,b2⟩:=bp k.toNat (by omega) (by omega)
  have k3:k≤24:=by omega
  simp[-List.getD_eq_getElem?_getD,eP,cI,kN,fH,b1,b2,aZ,bS,aq,fG,g_,cr,h1,h2,hx,hy,k3]
 |cmp k z x y k1 k2 hy=>
  have:k=16∨k=17∨k=18:=by omega
  rcases this with rfl|rfl|rfl<;>simp[eP,cI,kN,fH,ij,jt,aZ,bS,aq,fG,g_,cr,hy,cL,dC]
 |ite w z x y v h1 h2 hx hy hv=>simp[eP,cI,kN,fH,ij,jt,aZ,bS,aq,fG,g_,cr,hx,hy,hv,cL,dC,fE,h1,h2]
 |cat w z x y h1 h2 hx hy hs=>
  have e:IntKind.i64.wrap (x.width+y.width)=x.width+y.width:=wrap64 (by omega) (by omega)
  have x2:x.width≤64:=by omega
  have y2:y.width≤64:=by omega
  simp[eP,cI,kN,fH,ij,jt,aZ,bS,aq,fG,g_,cr,hx,hy,cL,dC,h1,h2,x2,y2,hs,e]
  show IntKind.i64.wrap w=w
  exact wrap64 (by omega) (by omega)
 |ext w l z x h1 h2 hl hx tt hs=>
  have e:IntKind.i64.wrap (x.width-w)=x.width-w:=wrap64 (by omega) (by omega)
  have a1:w≤x.width:=by omega
  have a2:l≤x.width-w:=by omega
  simp[eP,cI,kN,fH,ij,jt,aZ,bS,aq,fG,g_,cr,hx,tt,cL,h1,h2,hl,e,a1,a2]
 |wid k w z x h1 h2 hk hx=>rcases hk with rfl|rfl<;>simp[eP,cI,kN,fH,ij,jt,aZ,bS,aq,fG,g_,cr,h1,h2,hx,cL]<;>exact hx
 |ld w z x h1 h2 hx=>simp[eP,cI,kN,fH,ij,jt,aZ,bS,aq,fG,g_,cr,h1,h2,hx,cL]
mutual
def jl:Tr→Prop
 | .mk k w b n l z s=>NC (.mk k w b n l z s)∧0≤b∧Sm s
def Sm:List Tr→Prop
 |[]=>True
 |x::r=>jl x∧Sm r
end
theorem CU{l:List Tr}:Sm l↔∀x∈l,jl x:=by
 induction l with
 |nil=>simp[Sm]
 |cons x l ih=>simp[Sm,ih]
theorem iK(t:Tr):jl t↔NC t∧0≤t.bits∧∀x∈t.sub,jl x:=by
 cases t;simp only[jl,CU,fG,aq]
theorem NC.wide{t:Tr}(h:NC t):1≤t.width∧t.width≤64:=by
 cases h<;>simp only[bS]<;>omega
theorem NC.few{t:Tr}(h:NC t):t.sub.length≤3:=by
 cases h<;>simp[aq]
theorem NC.kind{t:Tr}(h:NC t):1≤t.kind∧t.kind≤24:=by
 cases h<;>simp only[aZ]<;>omega
theorem jl.nc{t:Tr}(h:jl t):NC t:=((iK t).1 h).1
theorem jl.sub{t:Tr}(h:jl t):∀x∈t.sub,jl x:=((iK t).1 h).2.2
theorem jl.wide{t:Tr}(h:jl t):1≤t.width∧t.width≤64:=h.nc.wide
mutual
theorem wF:∀t:Tr,jl t→Dp (eg t) t
 | .mk k w b n l z s,h=>by
  have h':=(iK _).1 h
  have:=h'.1.few
  rw[eT]
  refine⟨by simp only[aq] at this ⊢;omega,fun x hx=> ?_⟩
  simp only[aq] at hx ⊢
  exact(NG s (CU.2 h'.2.2) x hx).mono (Nat.le_refl _)
theorem NG:∀l:List Tr,Sm l→∀x∈l,Dp (dt l) x
 |[],_,x,hx=>by simp at hx
 |y::r,h,x,hx=>by
  simp only[Sm] at h
  simp only[dt]
  have i1:=wF y h.1
  have i2:=NG r h.2 x
  rcases List.mem_cons.1 hx with rfl|hx
  ·exact i1.mono (by omega)
  ·exact(i2 hx).mono (by omega)
end
theorem VN:∀(n:Nat) (t:Tr),Dp n t→jl t→K0 n t
 |0,t,h,_=>h.elim
 |n+1,t,h,hw=>⟨⟨by have:=hw.nc.kind;omega,h.1⟩,fun x hx=>VN n x (h.2 x hx) (hw.sub x hx)⟩
theorem alo{t:Tr}(h:jl t):KQ t:=⟨_,VN _ t (wF t h) h⟩
theorem dW(N:Nat)(hN:1≤N)(x:Tr)(hk:x.kind=1):R N 180 [.agg ((aC x).map .p),.p .nils,.p .nils] []=some (.p (.int .u64 x.bits),[]):=by
 have aa:rows 180=_:=qz.eq_1
 obtain⟨n,rfl⟩:=up N
 rw[aE 180 Tryz.func180 rfl rfl]
 simp -implicitDefEqProofs[aa,ae x,hk]
theorem ame(k:Nat)(hk:5≤k∧k≤18)(N:Nat)(hN:2001≤N)(w a b:Nat)(h1:1≤w)(hw:w≤64)(ha:a<2^w)(hb:b<2^w):R N 202 [.p (.int .u8 (k:Nat)),ai w,.p (.int .u64 a),.p (.int .u64 b)] []=some (.tup [.p (.int .u64 (bF k w a b)),ai 0],[]):=by
 have:k=5∨k=6∨k=7∨k=8∨k=9∨k=10∨k=11∨k=12∨k=13∨k=14∨k=15∨k=16∨k=17∨k=18:=by omega
 rcases this with rfl|rfl|rfl|rfl|rfl|rfl|rfl|rfl|rfl|rfl|rfl|rfl|rfl|rfl
 ·exact amj N hN w a b h1 hw ha hb
 ·exact ami N hN w a b h1 hw ha hb
 ·exact amh N hN w a b h1 hw ha hb
 ·exact amg N hN w a b h1 hw ha hb
 ·exact amf N hN w a b h1 hw ha hb
 ·exact abb N hN w a b h1 hw ha hb
 ·exact aba N hN w a b h1 hw ha hb
 ·exact aa9 N hN w a b h1 hw ha hb
 ·exact aa8 N hN w a b h1 hw ha hb
 ·exact aa7 N hN w a b h1 hw ha hb
 ·exact aa6 N hN w a b h1 hw ha hb
 ·exact aa5 N hN w a b h1 hw ha hb
 ·exact aa4 N hN w a b h1 hw ha hb
 ·exact aa3 N hN w a b h1 hw ha hb
theorem fy(k:Nat)(JB:5≤k∧k≤18)(N:Nat)(hN:2100≤N)(t x y:Tr)(w0 b0 b1:Nat)(hk:t.kind=(k:Nat))(hs:t.sub=[x,y])(lZ:x.kind=1)(jC:x.bits=(b0:Nat))(kV:y.kind=1)(nY:y.bits=(b1:Nat))(ur:x.width=(w0:Nat))(v1:1≤w0)(v2:w0≤64)(v3:b0<2^w0)(v4:b1<2^w0):R N 180 [.agg ((aC t).map .p),.p .nils,.p .nils] []=some (.p (.int .u64 (bF k w0 b0 b1:Nat)),[]):=by
 have aa:rows 180=_:=qz.eq_1
 obtain⟨n,rfl⟩:=up N
 rw[aE 180 Tryz.func180 rfl rfl]
 have g0:=dW n (by omega) x lZ
 rw[ae x,jC] at g0
 have g1:=dW n (by omega) y kV
 rw[ae y,nY] at g1
 have gc:=ame k JB n (by omega) w0 b0 b1 v1 v2 v3 v4
 generalize bF k w0 b0 b1=res at*
 simp -implicitDefEqProofs[aa] at g0 g1
 have hc:k=5∨k=6∨k=7∨k=8∨k=9∨k=10∨k=11∨k=12∨k=13∨k=14∨k=15∨k=16∨k=17∨k=18:=by omega
 rcases hc with rfl|rfl|rfl|rfl|rfl|rfl|rfl|rfl|rfl|rfl|rfl|rfl|rfl|rfl<;>
 (simp -implicitDefEqProofs[aa] at gc hk
  simp -implicitDefEqProofs[aa,ae t,hk,hs,bU]
  rw[av 2 (fun q=>⟨[(1,.p .nils),(2,.p .nils),(3,.ref 0 0),(9,.arr 1 q 0 q),(10,ai q)],[.box [.p (.int .u8 t.kind),ai t.width,.p (.int .u64 t.bits),.p (.str t.name),ai t.low,.p (.sl [aT x,aT y])],.arr q 1 false (([.int .u64 (b0:Nat),.int .u64 (b1:Nat)]:List PV).take q)]⟩) (.exit 0,⟨[(1,.p .nils),(2,.p .nils),(3,.ref 0 0),(9,.arr 1 2 0 2),(10,ai 2)],[.box [.p (.int .u8 t.kind),ai t.width,.p (.int .u64 t.bits),.p (.str t.name),ai t.low,.p (.sl [aT x,aT y])],.arr 2 1 false ([.int .u64 (b0:Nat),.int .u64 (b1:Nat)])]⟩) (by omega) (by simp -implicitDefEqProofs[aa,hk]) (by
   intro q h K
   have i0:IntKind.i64.wrap 1=1:=rfl
   have i1:IntKind.i64.wrap 2=2:=rfl
   have i2:IntKind.i64.wrap 3=3:=rfl
   rcases (show q=0∨q=1 by omega) with rfl|rfl<;>
   simp -implicitDefEqProofs[aa,hk,ae x,ae y,g0,g1,jC,nY,i0,i1,i2,bU,jz]) (by simp -implicitDefEqProofs[aa,hk,bU])]
  simp -implicitDefEqProofs[aa,hk,ae x,ae y,ur,gc,jz,bU])
theorem IX(k:Nat)(JB:k=3∨k=4)(N:Nat)(hN:2100≤N)(t x:Tr)(w0 b0:Nat)(hk:t.kind=(k:Nat))(hs:t.sub=[x])(lZ:x.kind=1)(jC:x.bits=(b0:Nat))(ur:x.width=(w0:Nat))(v1:1≤w0)(v2:w0≤64)(v3:b0<2^w0):R N 180 [.agg ((aC t).map .p),.p .nils,.p .nils] []=some (.p (.int .u64 (zu k w0 b0:Nat)),[]):=by
 have aa:rows 180=_:=qz.eq_1
 obtain⟨n,rfl⟩:=up N
 rw[aE 180 Tryz.func180 rfl rfl]
 have g0:=dW n (by omega) x lZ
 rw[ae x,jC] at g0
 have gc:R n 197 [.p (.int .u8 (k:Nat)),ai w0,.p (.int .u64 b0)] []=some (.tup [.p (.int .u64 (zu k w0 b0)),ai 0],[]):=by rcases JB with rfl|rfl;exact Tz n (by omega) w0 b0 v1 v2 v3;exact Ty n (by omega) w0 b0 v1 v2 v3
 generalize zu k w0 b0=res at*
 simp -implicitDefEqProofs[aa] at g0
 rcases JB with rfl|rfl<;>
 (simp -implicitDefEqProofs[aa] at gc hk
  simp -implicitDefEqProofs[aa,ae t,hk,hs,bU]
  rw[av 1 (fun q=>⟨[(1,.p .nils),(2,.p .nils),(3,.ref 0 0),(9,.arr 1 q 0 q),(10,ai q)],[.box [.p (.int .u8 t.kind),ai t.width,.p (.int .u64 t.bits),.p (.str t.name),ai t.low,.p (.sl [aT x])],.arr q 1 false (([.int .u64 (b0:Nat)]:List PV).take q)]⟩) (.exit 0,⟨[(1,.p .nils),(2,.p .nils),(3,.ref 0 0),(9,.arr 1 1 0 1),(10,ai 1)],[.box [.p (.int .u8 t.kind),ai t.width,.p (.int .u64 t.bits),.p (.str t.name),ai t.low,.p (.sl [aT x])],.arr 1 1 false ([.int .u64 (b0:Nat)])]⟩) (by omega) (by simp -implicitDefEqProofs[aa,hk]) (by
   intro q h K
   have i0:IntKind.i64.wrap 1=1:=rfl
   have i1:IntKind.i64.wrap 2=2:=rfl
   have i2:IntKind.i64.wrap 3=3:=rfl
   rcases (show q=0 by omega) with rfl<;>
   simp -implicitDefEqProofs[aa,hk,ae x,g0,jC,i0,i1,i2,bU,jz]) (by simp -implicitDefEqProofs[aa,hk,bU])]
  simp -implicitDefEqProofs[aa,hk,ae x,ur,gc,jz,bU])
theorem NV(N:Nat)(hN:2100≤N)(t x y:Tr)(w0 b0 b1:Nat)(hk:t.kind=20)(hs:t.sub=[x,y])(lZ:x.kind=1)(jC:x.bits=(b0:Nat))(kV:y.kind=1)(nY:y.bits=(b1:Nat))(ur:x.width=(w0:Nat))(w1:Nat)(WE:y.width=(w1:Nat))(v1:1≤w0)(v2:1≤w1)(v3:w0+w1≤64)(v4:b0<2^w0)(v5:b1<2^w1):R N 180 [.agg ((aC t).map .p),.p .nils,.p .nils] []=some (.p (.int .u64 (b0*2^w1+b1:Nat)),[]):=by
 have aa:rows 180=_:=qz.eq_1
 obtain⟨n,rfl⟩:=up N
 rw[aE 180 Tryz.func180 rfl rfl]
 have g0:=dW n (by omega) x lZ
 rw[ae x,jC] at g0
 have g1:=dW n (by omega) y kV
 rw[ae y,nY] at g1
 have gc:=Hu n (by omega) w0 w1 b0 b1 v1 v2 v3 v4 v5
 generalize b0*2^w1+b1=res at*
 simp -implicitDefEqProofs[aa] at g0 g1
 (simp -implicitDefEqProofs[aa,ae t,hk,hs,bU]
  rw[av 2 (fun q=>⟨[(1,.p .nils),(2,.p .nils),(3,.ref 0 0),(9,.arr 1 q 0 q),(10,ai q)],[.box [.p (.int .u8 t.kind),ai t.width,.p (.int .u64 t.bits),.p (.str t.name),ai t.low,.p (.sl [aT x,aT y])],.arr q 1 false (([.int .u64 (b0:Nat),.int .u64 (b1:Nat)]:List PV).take q)]⟩) (.exit 0,⟨[(1,.p .nils),(2,.p .nils),(3,.ref 0 0),(9,.arr 1 2 0 2),(10,ai 2)],[.box [.p (.int .u8 t.kind),ai t.width,.p (.int .u64 t.bits),.p (.str t.name),ai t.low,.p (.sl [aT x,aT y])],.arr 2 1 false ([.int .u64 (b0:Nat),.int .u64 (b1:Nat)])]⟩) (by omega) (by simp -implicitDefEqProofs[aa,hk]) (by
   intro q h K
   have i0:IntKind.i64.wrap 1=1:=rfl
   have i1:IntKind.i64.wrap 2=2:=rfl
   have i2:IntKind.i64.wrap 3=3:=rfl
   rcases (show q=0∨q=1 by omega) with rfl|rfl<;>
   simp -implicitDefEqProofs[aa,hk,ae x,ae y,g0,g1,jC,nY,i0,i1,i2,bU,jz]) (by simp -implicitDefEqProofs[aa,hk,bU])]
  simp -implicitDefEqProofs[aa,hk,ae x,ae y,ur,gc,jz,bU,WE])
theorem NU(N:Nat)(hN:2100≤N)(t x:Tr)(w0 b0:Nat)(hk:t.kind=21)(hs:t.sub=[x])(lZ:x.kind=1)(jC:x.bits=(b0:Nat))(ur:x.width=(w0:Nat))(low many:Nat)(acO:t.low=(low:Nat))(PR:t.width=(many:Nat))(v1:1≤w0)(v2:w0≤64)(v3:b0<2^w0)(v4:1≤many)(v5:low+many≤w0):R N 180 [.agg ((aC t).map .p),.p .nils,.p .nils] []=some (.p (.int .u64 (b0/2^low % 2^many:Nat)),[]):=by
 have aa:rows 180=_:=qz.eq_1
 obtain⟨n,rfl⟩:=up N
 rw[aE 180 Tryz.func180 rfl rfl]
 have g0:=dW n (by omega) x lZ
 rw[ae x,jC] at g0
 have gc:=DU n (by omega) w0 b0 low many v1 v2 v3 v4 v5
 generalize b0/2^low % 2^many=res at*
 simp -implicitDefEqProofs[aa] at g0
 (simp -implicitDefEqProofs[aa,ae t,hk,hs,bU]
  rw[av 1 (fun q=>⟨[(1,.p .nils),(2,.p .nils),(3,.ref 0 0),(9,.arr 1 q 0 q),(10,ai q)],[.box [.p (.int .u8 t.kind),ai t.width,.p (.int .u64 t.bits),.p (.str t.name),ai t.low,.p (.sl [aT x])],.arr q 1 false (([.int .u64 (b0:Nat)]:List PV).take q)]⟩) (.exit 0,⟨[(1,.p .nils),(2,.p .nils),(3,.ref 0 0),(9,.arr 1 1 0 1),(10,ai 1)],[.box [.p (.int .u8 t.kind),ai t.width,.p (.int .u64 t.bits),.p (.str t.name),ai t.low,.p (.sl [aT x])],.arr 1 1 false ([.int .u64 (b0:Nat)])]⟩) (by omega) (by simp -implicitDefEqProofs[aa,hk]) (by
   intro q h K
   have i0:IntKind.i64.wrap 1=1:=rfl
   have i1:IntKind.i64.wrap 2=2:=rfl
   have i2:IntKind.i64.wrap 3=3:=rfl
   rcases (show q=0 by omega) with rfl<;>
   simp -implicitDefEqProofs[aa,hk,ae x,g0,jC,i0,i1,i2,bU,jz]) (by simp -implicitDefEqProofs[aa,hk,bU])]
  simp -implicitDefEqProofs[aa,hk,ae x,ur,gc,jz,bU,acO,PR])
theorem IW(sg:Bool)(N:Nat)(hN:2100≤N)(t x:Tr)(w0 b0:Nat)(hk:t.kind=if sg=true then 23 else 22)(hs:t.sub=[x])(lZ:x.kind=1)(jC:x.bits=(b0:Nat))(ur:x.width=(w0:Nat))(to:Nat)(Vn:t.width=(to:Nat))(v1:1≤w0)(v2:w0≤to)(v3:to≤64)(v4:b0<2^w0):R N 180 [.agg ((aC t).map .p),.p .nils,.p .nils] []=some (.p (.int .u64 (vx w0 b0 to sg:Nat)),[]):=by
 have aa:rows 180=_:=qz.eq_1
 obtain⟨n,rfl⟩:=up N
 rw[aE 180 Tryz.func180 rfl rfl]
 have g0:=dW n (by omega) x lZ
 rw[ae x,jC] at g0
 have gc:=Ht n (by omega) w0 b0 to sg v1 v2 v3 v4
 generalize vx w0 b0 to sg=res at*
 simp -implicitDefEqProofs[aa] at g0
 cases sg<;>
 (simp -implicitDefEqProofs[aa] at gc hk
  simp -implicitDefEqProofs[aa,ae t,hk,hs,bU]
  rw[av 1 (fun q=>⟨[(1,.p .nils),(2,.p .nils),(3,.ref 0 0),(9,.arr 1 q 0 q),(10,ai q)],[.box [.p (.int .u8 t.kind),ai t.width,.p (.int .u64 t.bits),.p (.str t.name),ai t.low,.p (.sl [aT x])],.arr q 1 false (([.int .u64 (b0:Nat)]:List PV).take q)]⟩) (.exit 0,⟨[(1,.p .nils),(2,.p .nils),(3,.ref 0 0),(9,.arr 1 1 0 1),(10,ai 1)],[.box [.p (.int .u8 t.kind),ai t.width,.p (.int .u64 t.bits),.p (.str t.name),ai t.low,.p (.sl [aT x])],.arr 1 1 false ([.int .u64 (b0:Nat)])]⟩) (by omega) (by simp -implicitDefEqProofs[aa,hk]) (by
   intro q h K
   have i0:IntKind.i64.wrap 1=1:=rfl
   have i1:IntKind.i64.wrap 2=2:=rfl
   have i2:IntKind.i64.wrap 3=3:=rfl
   rcases (show q=0 by omega) with rfl<;>
   simp -implicitDefEqProofs[aa,hk,ae x,g0,jC,i0,i1,i2,bU,jz]) (by simp -implicitDefEqProofs[aa,hk,bU])]
  simp -implicitDefEqProofs[aa,hk,ae x,ur,gc,jz,bU,Vn])
theorem NW(N:Nat)(hN:2100≤N)(t x y z:Tr)(w0 b0 b1 b2:Nat)(hk:t.kind=19)(hs:t.sub=[x,y,z])(lZ:x.kind=1)(jC:x.bits=(b0:Nat))(kV:y.kind=1)(nY:y.bits=(b1:Nat))(tt:z.kind=1)(p9:z.bits=(b2:Nat))(ur:x.width=(w0:Nat))(v3:b0<2):R N 180 [.agg ((aC t).map .p),.p .nils,.p .nils] []=some (.p (.int .u64 (if b0=1 then b1 else b2:Nat)),[]):=by
 have aa:rows 180=_:=qz.eq_1
 obtain⟨n,rfl⟩:=up N
 rw[aE 180 Tryz.func180 rfl rfl]
 have g0:=dW n (by omega) x lZ
 rw[ae x,jC] at g0
 have g1:=dW n (by omega) y kV
 rw[ae y,nY] at g1
 have g2:=dW n (by omega) z tt
 rw[ae z,p9] at g2
 have gc:True:=trivial
 simp -implicitDefEqProofs[aa] at g0 g1 g2
 (simp -implicitDefEqProofs[aa,ae t,hk,hs,bU]
  rw[av 3 (fun q=>⟨[(1,.p .nils),(2,.p .nils),(3,.ref 0 0),(9,.arr 1 q 0 q),(10,ai q)],[.box [.p (.int .u8 t.kind),ai t.width,.p (.int .u64 t.bits),.p (.str t.name),ai t.low,.p (.sl [aT x,aT y,aT z])],.arr q 1 false (([.int .u64 (b0:Nat),.int .u64 (b1:Nat),.int .u64 (b2:Nat)]:List PV).take q)]⟩) (.exit 0,⟨[(1,.p .nils),(2,.p .nils),(3,.ref 0 0),(9,.arr 1 3 0 3),(10,ai 3)],[.box [.p (.int .u8 t.kind),ai t.width,.p (.int .u64 t.bits),.p (.str t.name),ai t.low,.p (.sl [aT x,aT y,aT z])],.arr 3 1 false ([.int .u64 (b0:Nat),.int .u64 (b1:Nat),.int .u64 (b2:Nat)])]⟩) (by omega) (by simp -implicitDefEqProofs[aa,hk]) (by
   intro q h K
   have i0:IntKind.i64.wrap 1=1:=rfl
   have i1:IntKind.i64.wrap 2=2:=rfl
   have i2:IntKind.i64.wrap 3=3:=rfl
   rcases (show q=0∨q=1∨q=2 by omega) with rfl|rfl|rfl<;>
   simp -implicitDefEqProofs[aa,hk,ae x,ae y,ae z,g0,g1,g2,jC,nY,p9,i0,i1,i2,bU,jz]) (by simp -implicitDefEqProofs[aa,hk,bU])]
  have i0:IntKind.u64.wrap 2=2:=rfl
  have i1:IntKind.u64.wrap 1=1:=rfl
  rcases (show b0=0∨b0=1 by omega) with rfl|rfl<;>simp -implicitDefEqProofs[aa,hk,i0,i1,jz,bU])
def bY(t:Tr):Nat:=
 let w0:=(nth t.sub 0).width.toNat
 let b0:=(nth t.sub 0).bits.toNat
 let b1:=(nth t.sub 1).bits.toNat
 if t.kind=3∨t.kind=4 then zu t.kind.toNat w0 b0
 else if t.kind≤18 then bF t.kind.toNat w0 b0 b1
 else if t.kind=19 then(if b0=1 then b1 else(nth t.sub 2).bits.toNat)
 else if t.kind=20 then b0*2^(nth t.sub 1).width.toNat+b1
 else if t.kind=21 then b0/2^t.low.toNat % 2^t.width.toNat
 else vx w0 b0 t.width.toNat (decide (t.kind=23))
def kP(w x:Int):Tr:=.mk 1 w x ⟨#[]⟩ 0 false []
def pick(t:Tr):List (Bool×Tr)→Tr
 |[]=>t
 |(c,o)::r=>if c=true then o else pick t r
def fp(t:Tr):List (Bool×Tr):=
 let x:=nth t.sub 0
 let y:=nth t.sub 1
 let v:=nth t.sub 2
 let w:=t.width
 let k:=t.kind
 if k=3∨k=4 then [(decide (x.kind=k),nth x.sub 0)]
 else if k=5 then [(bR x 0,y),(bR y 0,x)]
 else if k=6 then [(bR y 0,x),(aI x y,kP w 0)]
 else if k=7 then [(bR x 0,kP w 0),(bR y 0,kP w 0),(bR x 1,y),(bR y 1,x)]
 else if k=8 then [(bR x 0,kP w 0),(bR y 0,kP w 0),(bR x (br w),y),(bR y (br w),x),(aI x y,x)]
 else if k=9 then [(bR x (br w),kP w (br w)),(bR y (br w),kP w (br w)),(bR x 0,y),(bR y 0,x),(aI x y,x)]
 else if k=10 then [(bR x 0,y),(bR y 0,x),(aI x y,kP w 0)]
 else if k=11∨k=12 then [(bR y 0,x),(decide (y.kind=1)&&decide (w≤y.bits),kP w 0),(bR x 0,kP w 0)]
 else if k=13 then [(bR y 0,x),(bR x 0,kP w 0)]
 else if k=14 then [(bR y 1,x)]
 else if k=15 then [(bR y 1,kP w 0)]
 else if k=16 then [(aI x y,kP w 1)]
 else if k=17 then [(aI x y,kP w 0),(bR y 0,kP w 0)]
 else if k=18 then [(aI x y,kP w 0)]
 else if k=19 then [(bR x 1||(bR x 0||aI y v),if bR x 1=true then y else v)]
 else if k=20 then [(bR x 0,.mk 22 w 0 ⟨#[]⟩ 0 false [gF y])]
 else if k=21∨k=22∨k=23 then [(decide (x.width=w),x),(decide (x.kind=k),.mk k w 0 ⟨#[]⟩ (t.low+x.low) false x.sub)]
 else []
def ez(t:Tr):Bool:=decide (t.kind≠24)&&decide (t.sub≠[])&&t.sub.all fun x=>decide (x.kind=1)
def stepT(t:Tr):Tr:=if ez t=true then kP t.width (bY t) else pick t (fp t)
mutual
def lx:Tr→Tr
 | .mk k w b n l _ s=>stepT (.mk k w b n l false (Tt s))
def Tt:List Tr→List Tr
 |[]=>[]
 |x::r=>lx x::Tt r
end
theorem ON(l:List Tr):Tt l=l.map lx:=by
 induction l with
 |nil=>rfl
 |cons x r ih=>simp[Tt,ih]
theorem Ts(t:Tr):lx t=stepT (.mk t.kind t.width t.bits t.name t.low false (t.sub.map lx)):=by
 cases t;simp only[lx,ON,aZ,bS,fG,g_,cr,aq]
mutual
def zj:Tr→Prop
 | .mk _ _ _ _ _ z s=>z=false∧Zb s
def Zb:List Tr→Prop
 |[]=>True
 |x::r=>zj x∧Zb r
end
theorem VL{l:List Tr}:Zb l↔∀x∈l,zj x:=by
 induction l with
 |nil=>simp[Zb]
 |cons x l ih=>simp[Zb,ih]
theorem ll(t:Tr):zj t↔t.z=false∧∀x∈t.sub,zj x:=by
 cases t;simp only[zj,VL,Zg,aq]
theorem Oz:∀a b:Tr,zj a→zj b→aI a b=true→a=b:=by
 have main:∀n:Nat,(∀a b:Tr,aF a≤n→zj a→zj b→aI a b=true→a=b)∧(∀l q:List Tr,bM l≤n→Zb l→Zb q→iS l q=true→l=q):=by
  intro n
  induction n with
  |zero=>
   refine⟨fun a b h=> ?_,fun l q h hl hq hs=> ?_⟩
   ·rw[bz] at h;omega
   ·cases l with
    |nil=>cases q with
     |nil=>rfl
     |cons y q=>simp[iS] at hs
    |cons x l=>simp only[bM] at h;have:=bz x;omega
  |succ n ih=>
   have h1:∀a b:Tr,aF a≤n+1→zj a→zj b→aI a b=true→a=b:=by
    intro a b h ha hb hs
    obtain⟨k,w,b1,nm,lo,z,s⟩:=a
    obtain⟨k',w',b1',nm',lo',z',s'⟩:=b
    simp only[aI,ak,aK,Bool.and_eq_true,decide_eq_true_eq] at hs
    simp only[zj] at ha hb
    simp only[aF] at h
    obtain⟨⟨⟨⟨⟨e1,e2⟩,e3⟩,e4⟩,e5⟩,e6⟩:=hs
    have e7:=ih.2 s s' (by omega) ha.2 hb.2 e6
    subst e1;subst e2;subst e3;subst e5;subst e7
    rw[gS e4,ha.1,hb.1]
   refine⟨h1, ?_⟩
   intro l q h hl hq hs
   cases l with
   |nil=>cases q with
    |nil=>rfl
    |cons y q=>simp[iS] at hs
   |cons x l=>cases q with
    |nil=>simp[iS] at hs
    |cons y q=>
     simp only[iS,ak,aK,Bool.and_eq_true] at hs
     simp only[Zb] at hl hq
     simp only[bM] at h
     have:=bz x
     rw[h1 x y (by omega) hl.1 hq.1 hs.1,ih.2 l q (by omega) hl.2 hq.2 hs.2]
 exact fun a b=>(main (aF a)).1 a b (Nat.le_refl _)
theorem Mj(N d:Nat)(t:Tr)(v:Int)(hc:Gp t)(ht:Dp d t)(hq:KQ t)(hd:d≤1000)(hs:aF t≤1000000)(h0:cN t=0)(hN:d+2600≤N)
  (hv:∀n,200≤n→R n 244 [.agg ((aC t).map .p),.map 0,.p .nils] [.map []]=some (.p (.int .u64 v),[.map []])):
  R N 208 [.agg ((aC t).map .p),.p .nils,.p .nils] []=some (.tup [.p (.int .u64 v),ai 0],[]):=by
 have aa:rows 208=_:=ZJ.eq_1
 obtain⟨n,rfl⟩:=up N
 rw[aE 208 Tryz.func208 rfl rfl]
 have g1:=QQ n d t hc ht hq hd hs h0 (by omega)
 have hv:=hv n (by omega)
 obtain⟨m,rfl⟩:∃m,n=m+8:=⟨n-8,by omega⟩
 have g2:=ad1 m
 have g3:=adE m
 simp -implicitDefEqProofs[aa,g1,g2,g3]
 rw[av 0 (fun k=>⟨[(1,.p .nils),(2,.p .nils),(3,.ref 0 0),(6,.p (.int .u64 0)),(7,ai 0),(12,.map 1),(36,.p (.sl [])),(37,ai 0),(38,ai 0)],[.box ((aC t).map .p),.map []]⟩)
  (.exit 0,⟨[(1,.p .nils),(2,.p .nils),(3,.ref 0 0),(6,.p (.int .u64 0)),(7,ai 0),(12,.map 1),(36,.p (.sl [])),(37,ai 0),(38,ai 0)],[.box ((aC t).map .p),.map []]⟩) (by omega) (by simp -implicitDefEqProofs[aa]) (by intro k h;omega) (by
  intro K
  simp -implicitDefEqProofs[aa])]
 simp -implicitDefEqProofs[aa,hv]
theorem Fz(N d:Nat)(t:Tr)(v:Int)(hk:t.kind≠24)(fB:0<t.sub.length)(l6:∀x∈t.sub,x.kind=1)(hc:Gp t)(ht:Dp d t)(hq:KQ t)(hd:d≤1000)(hs:aF t≤1000000)(h0:cN t=0)(hN:d+2700≤N)
  (hv:∀n,200≤n→R n 244 [.agg ((aC t).map .p),.map 0,.p .nils] [.map []]=some (.p (.int .u64 v),[.map []])):
  R N 190 [.agg ((aC t).map .p)] []=some (.tup [.agg ((aC (bD t.width v)).map .p),ab true],[]):=by
 have aa:rows 190=_:=NJ.eq_1
 obtain⟨n,rfl⟩:=up N
 rw[aE 190 Tryz.func190 rfl rfl]
 have g1:=Mj n d t v hc ht hq hd hs h0 (by omega) hv
 have g2:=BF n (by omega) t.width v
 have hl:t.sub.length≤1000:=hq.here.2
 have PO:¬t.sub=[]:=fun h=>by rw[h] at fB;simp at fB
 simp -implicitDefEqProofs[aa,hk,PO]
 rw[aJ t.sub (fun x=> !decide (x.kind=1)) (fun k=>⟨[(1,.ref 0 0),(2,.ref 1 0),(3,ab false),(19,.p (fg t.z (t.sub.map aT))),(20,ai t.sub.length),(21,ai k)],[.box ((aC t).map .p),.box [.p (.int .u8 0),ai 0,.p (.int .u64 0),.p (.str ⟨#[]⟩),ai 0,.p .nils]]⟩) (fun k=>(.ret,⟨[(1,.ref 0 0),(2,.ref 1 0),(3,ab false),(19,.p (fg t.z (t.sub.map aT))),(20,ai t.sub.length),(21,ai k)],[.box ((aC t).map .p),.box ((aC t).map .p)]⟩)) (.exit 0,⟨[(1,.ref 0 0),(2,.ref 1 0),(3,ab false),(19,.p (fg t.z (t.sub.map aT))),(20,ai t.sub.length),(21,ai t.sub.length)],[.box ((aC t).map .p),.box [.p (.int .u8 0),ai 0,.p (.int .u64 0),.p (.str ⟨#[]⟩),ai 0,.p .nils]]⟩) (by omega) (by simp -implicitDefEqProofs[aa]) (by
  intro k x h hx _ hm K
  have w1:=aA h (by omega)
  by_cases q:x.kind=1
  ·simp -implicitDefEqProofs[aa,h,hx,bX t.z h,w1,q]
  ·simp -implicitDefEqProofs[aa,h,hx,bX t.z h,w1,q]) (by simp -implicitDefEqProofs[aa])]
 have hf:t.sub.findIdx? (fun x=> !decide (x.kind=1))=none:=by
  rw[List.findIdx?_eq_none_iff]
  intro x hx
  simp[l6 x hx]
 rw[hf]
 simp -implicitDefEqProofs[aa,g1,g2]
theorem Fy(N:Nat)(t:Tr)(hN:1200≤N)(hl:t.sub.length≤1000)(h:t.kind=24∨t.sub=[]∨∃x∈t.sub,x.kind≠1):R N 190 [.agg ((aC t).map .p)] []=some (.tup [.agg ((aC t).map .p),ab false],[]):=by
 have aa:rows 190=_:=NJ.eq_1
 obtain⟨n,rfl⟩:=up N
 rw[aE 190 Tryz.func190 rfl rfl]
 by_cases hk:t.kind=24
 ·simp -implicitDefEqProofs[aa,eq_true hk]
 ·by_cases PO:t.sub=[]
  ·simp -implicitDefEqProofs[aa,hk,PO]
  ·simp -implicitDefEqProofs[aa,hk,PO]
   rw[aJ t.sub (fun x=> !decide (x.kind=1)) (fun k=>⟨[(1,.ref 0 0),(2,.ref 1 0),(3,ab false),(19,.p (fg t.z (t.sub.map aT))),(20,ai t.sub.length),(21,ai k)],[.box ((aC t).map .p),.box [.p (.int .u8 0),ai 0,.p (.int .u64 0),.p (.str ⟨#[]⟩),ai 0,.p .nils]]⟩) (fun k=>(.ret,⟨[(1,.ref 0 0),(2,.ref 1 0),(3,ab false),(19,.p (fg t.z (t.sub.map aT))),(20,ai t.sub.length),(21,ai k)],[.box ((aC t).map .p),.box ((aC t).map .p)]⟩)) (.exit 0,⟨[(1,.ref 0 0),(2,.ref 1 0),(3,ab false),(19,.p (fg t.z (t.sub.map aT))),(20,ai t.sub.length),(21,ai t.sub.length)],[.box ((aC t).map .p),.box [.p (.int .u8 0),ai 0,.p (.int .u64 0),.p (.str ⟨#[]⟩),ai 0,.p .nils]]⟩) (by omega) (by simp -implicitDefEqProofs[aa]) (by
    intro k x h hx _ hm K
    have w1:=aA h (by omega)
    by_cases q:x.kind=1
    ·simp -implicitDefEqProofs[aa,h,hx,bX t.z h,w1,q]
    ·simp -implicitDefEqProofs[aa,h,hx,bX t.z h,w1,q]) (by simp -implicitDefEqProofs[aa])]
   have hex:∃x∈t.sub,x.kind≠1:=by
    rcases h with h|h|h
    ·exact absurd h hk
    ·exact absurd h PO
    ·exact h
   rcases ao (fun x:Tr=> !decide (x.kind=1)) t.sub with⟨e1,e2,_⟩|⟨i,e1,e2,_⟩
   ·rw[List.any_eq_false] at e2
    obtain⟨x,hx,kV⟩:=hex
    have:=e2 x hx
    simp at this
    exact absurd this kV
   ·rw[e1];simp -implicitDefEqProofs[aa]
theorem ba{x:Tr}(h:jl x)(hk:x.kind=1):∃w b:Nat,x.width=(w:Nat)∧x.bits=(b:Nat)∧1≤w∧w≤64∧b<2^w∧x.sub=[]∧x.low=0∧x.name=⟨#[]⟩:=by
 have hb:=((iK x).1 h).2.1
 have hn:=h.nc
 cases hn with
 |con w b z h1 h2 h3=>
  simp only[bS,fG] at hb ⊢
  obtain⟨w,rfl⟩:∃n:Nat,w=n:=⟨w.toNat,by omega⟩
  obtain⟨b,rfl⟩:∃n:Nat,b=n:=⟨b.toNat,by omega⟩
  rw[qi (by omega) (by omega)] at h3
  have:0<2^w:=Nat.pow_pos (by decide)
  exact⟨w,b,rfl,rfl,by omega,by omega,by omega,rfl,rfl,rfl⟩
 |var=>simp[aZ] at hk
 |un k w z x _ _ h=>simp only[aZ] at hk;omega
 |bin k=>simp only[aZ] at hk;omega
 |cmp k=>simp only[aZ] at hk;omega
 |ite=>simp[aZ] at hk
 |cat=>simp[aZ] at hk
 |ext=>simp[aZ] at hk
 |wid k w z x _ _ h=>simp only[aZ] at hk;omega
 |ld=>simp[aZ] at hk
theorem UW(k w a b:Nat)(h1:1≤w)(ha:a<2^w)(hb:b<2^w)(hk:5≤k)(XI:k≤15):bF k w a b<2^w:=by
 have p:0<2^w:=Nat.pow_pos (by decide)
 unfold bF
 have:k=5∨k=6∨k=7∨k=8∨k=9∨k=10∨k=11∨k=12∨k=13∨k=14∨k=15:=by omega
 rcases this with rfl|rfl|rfl|rfl|rfl|rfl|rfl|rfl|rfl|rfl|rfl<;>simp only[reduceIte,Nat.reduceEqDiff]
 ·exact Nat.mod_lt _ p
 ·exact Nat.mod_lt _ p
 ·exact Nat.mod_lt _ p
 ·exact Nat.lt_of_le_of_lt Nat.and_le_left ha
 ·exact Nat.or_lt_two_pow ha hb
 ·exact Nat.xor_lt_two_pow ha hb
 ·exact Nat.mod_lt _ p
 ·exact Nat.lt_of_le_of_lt (Nat.div_le_self _ _) ha
 ·have q:(0:Int)<2^w:=by exact_mod_cast p
  have h2:=Int.emod_lt_of_pos (oe w a/2^dy b) q
  have h3:=Int.emod_nonneg (oe w a/2^dy b) (Int.ne_of_gt q)
  generalize oe w a/2^dy b % 2^w=m at h2 h3
  have h4:((2^w:Nat):Int)=(2:Int)^w:=by norm_cast
  omega
 ·split
  ·omega
  ·exact Nat.lt_of_le_of_lt (Nat.div_le_self _ _) ha
 ·split
  ·exact ha
  ·exact Nat.lt_of_le_of_lt (Nat.mod_le _ _) ha
theorem QI(k w a b:Nat)(XI:16≤k):bF k w a b<2:=by
 have e:k≠5∧k≠6∧k≠7∧k≠8∧k≠9∧k≠10∧k≠11∧k≠12∧k≠13∧k≠14∧k≠15:=by omega
 unfold bF
 simp only[e,if_false]
 split
 ·split<;>omega
 ·split<;>(split<;>omega)
theorem aak(k w a:Nat)(ha:a<2^w):zu k w a<2^w:=by
 unfold zu
 have p:0<2^w:=Nat.pow_pos (by decide)
 split
 ·omega
 ·exact Nat.mod_lt _ p
theorem SG{t:Tr}(h:NC t)(hs:∀x∈t.sub,jl x)(hc:∀x∈t.sub,x.kind=1)(fB:t.sub≠[])(yf:t.kind≠24):bY t<2^t.width.toNat:=by
 cases h with
 |con=>simp[aq] at fB
 |var=>simp[aq] at fB
 |un k w z x h1 h2 hk hx=>
  obtain⟨w0,b0,e1,e2,e3,e4,e5,_⟩:=ba (hs x (by simp[aq])) (hc x (by simp[aq]))
  simp only[bY,aZ,aq,bS,cL,e1,e2,if_pos hk,Int.toNat_natCast]
  rw[←hx,e1,Int.toNat_natCast]
  exact aak _ _ _ e5
 |bin k w z x y h1 h2 k1 k2 hx hy=>
  obtain⟨w0,b0,e1,e2,e3,e4,e5,_⟩:=ba (hs x (by simp[aq])) (hc x (by simp[aq]))
  obtain⟨w1,b1,d1,d2,d3,d4,d5,_⟩:=ba (hs y (by simp[aq])) (hc y (by simp[aq]))
  have c1:¬(k=3∨k=4):=by omega
  have c2:k≤18:=by omega
  have:w1=w0:=by omega
  subst this
  simp only[bY,aZ,aq,bS,cL,dC,e1,e2,d1,d2,if_neg c1,if_pos c2,Int.toNat_natCast]
  rw[←hx,e1,Int.toNat_natCast]
  exact UW _ _ _ _ e3 e5 d5 (by omega) (by omega)
 |cmp k z x y k1 k2 hy=>
  have c1:¬(k=3∨k=4):=by omega
  have c2:k≤18:=by omega
  have e:bY (.mk k 1 0 ⟨#[]⟩ 0 z [x,y])=bF k.toNat x.width.toNat x.bits.toNat y.bits.toNat:=by
   have fY:¬((Tr.mk k 1 0 ⟨#[]⟩ 0 z [x,y]).kind=3∨(Tr.mk k 1 0 ⟨#[]⟩ 0 z [x,y]).kind=4):=c1
   have ma:(Tr.mk k 1 0 ⟨#[]⟩ 0 z [x,y]).kind≤18:=c2
   simp only[bY]
   rw[if_neg fY,if_pos ma]
   rfl
  rw[e]
  exact QI k.toNat _ _ _ (by omega)
 |ite w z x y v h1 h2 hx hy hv=>
  obtain⟨w0,b0,e1,e2,e3,e4,e5,_⟩:=ba (hs y (by simp[aq])) (hc y (by simp[aq]))
  obtain⟨w1,b1,d1,d2,d3,d4,d5,_⟩:=ba (hs v (by simp[aq])) (hc v (by simp[aq]))
  have c0:w.toNat=w0:=by omega
  have c1:w1=w0:=by omega
  subst c1
  simp only[bY,aZ,aq,bS,cL,dC,fE,e1,e2,d1,d2,Int.toNat_natCast,c0]
  simp only[show¬((19:Int)=3∨(19:Int)=4) by omega,show¬((19:Int)≤18) by omega,if_false,if_true]
  split<;>assumption
 |cat w z x y h1 h2 hx hy hw=>
  obtain⟨w0,b0,e1,e2,e3,e4,e5,_⟩:=ba (hs x (by simp[aq])) (hc x (by simp[aq]))
  obtain⟨w1,b1,d1,d2,d3,d4,d5,_⟩:=ba (hs y (by simp[aq])) (hc y (by simp[aq]))
  have c0:w.toNat=w0+w1:=by omega
  simp only[bY,aZ,aq,bS,cL,dC,fE,e1,e2,d1,d2,Int.toNat_natCast,c0]
  simp only[show¬((20:Int)=3∨(20:Int)=4) by omega,show¬((20:Int)≤18) by omega,show¬((20:Int)=19) by omega,if_false,if_true]
  rw[Nat.pow_add]
  calc b0*2^w1+b1<b0*2^w1+2^w1:=by omega
   _=(b0+1)*2^w1:=by rw[Nat.add_mul,Nat.one_mul]
   _≤2^w0*2^w1:=Nat.mul_le_mul_right _ e5
 |ext w l z x h1 h2 hl hx tt hw=>
  simp only[bY,aZ,aq,bS]
  simp only[show¬((21:Int)=3∨(21:Int)=4) by omega,show¬((21:Int)≤18) by omega,show¬((21:Int)=19) by omega,show¬((21:Int)=20) by omega,if_false,if_true]
  exact Nat.mod_lt _ (Nat.pow_pos (by decide))
 |wid k w z x h1 h2 hk hx=>
  obtain⟨w0,b0,e1,e2,e3,e4,e5,_⟩:=ba (hs x (by simp[aq])) (hc x (by simp[aq]))
  simp only[bY,aZ,aq,bS,cL,e1,e2,Int.toNat_natCast]
  simp only[show¬(k=3∨k=4) by omega,show¬(k≤18) by omega,show¬(k=19) by omega,show¬(k=20) by omega,show¬(k=21) by omega,if_false]
  exact Ih _ _ _ _ e5 (by omega)
 |ld=>exact absurd rfl yf
theorem NC.un_inv{x:Tr}(h:NC x)(hk:x.kind=3∨x.kind=4):∃y,x.sub=[y]∧y.width=x.width∧x.low=0:=by
 cases h with
 |un k w z y _ _ _ hy=>exact⟨y,rfl,hy,rfl⟩
 |_=>simp only[aZ] at hk;omega
theorem NC.wid_inv{x:Tr}(h:NC x)(hk:x.kind=22∨x.kind=23):∃y,x.sub=[y]∧y.width≤x.width∧x.low=0:=by
 cases h with
 |wid k w z y _ _ _ hy=>exact⟨y,rfl,hy,rfl⟩
 |_=>simp only[aZ] at hk;omega
theorem NC.ext_inv{x:Tr}(h:NC x)(hk:x.kind=21):∃y,x.sub=[y]∧0≤x.low∧1≤y.width∧y.width≤64∧x.low+x.width≤y.width:=by
 cases h with
 |ext w l z y _ _ h3 h4 h5 h6=>exact⟨y,rfl,h3,h4,h5,h6⟩
 |_=>simp only[aZ] at hk;omega
theorem one_sub{x y:Tr}(h:x.sub=[y]):aF x=aF y+1∧eg x=eg y+1:=by
 rw[bz,eT,h]
 simp only[bM,dt]
 omega
structure Good(t r:Tr):Prop where
 wf:jl r
 cz:zj r
 width:r.width=t.width
 size:aF r≤aF t
 dep:eg r≤eg t
theorem size_pos(t:Tr):1≤aF t:=by rw[bz];omega
theorem UJ(t:Tr):1≤eg t:=by rw[eT];omega
theorem sS{t:Tr}(h1:1≤t.width)(h2:t.width≤64){v:Int}(h0:0≤v)(hv:v≤br t.width):Good t (kP t.width v):=by
 refine⟨(iK _).2 ⟨.con _ _ _ h1 h2 hv,h0,by simp[kP,aq]⟩,(ll _).2 ⟨rfl,by simp[kP,aq]⟩,rfl,size_pos t,UJ t⟩
theorem ku{t x:Tr}(hx:x∈t.sub)(hw:jl x)(hz:zj x)(he:x.width=t.width):Good t x:=by
 have:=kG hx
 have:=UK hx
 have:=bz t
 have:=eT t
 exact⟨hw,hz,he,by omega,by omega⟩
theorem LH{t:Tr}(hn:NC t)(hb:0≤t.bits)(hz:t.z=false)(hs:∀x∈t.sub,jl x∧zj x):Good t t:=
 ⟨(iK _).2 ⟨hn,hb,fun x hx=>(hs x hx).1⟩,(ll _).2 ⟨hz,fun x hx=>(hs x hx).2⟩,rfl,Nat.le_refl _,Nat.le_refl _⟩
theorem gZ{t:Tr}(h0:Good t t):∀l:List (Bool×Tr),(∀p∈l,p.1=true→Good t p.2)→Good t (pick t l)
 |[],_=>h0
 |(c,o)::r,h=>by
  unfold pick
  by_cases hc:c=true
  ·rw[if_pos hc];exact h (c,o) (by simp) hc
  ·rw[if_neg hc];exact gZ h0 r fun p hp=>h p (by simp[hp])
theorem bV(t:Tr):ez t=true↔t.kind≠24∧t.sub≠[]∧∀x∈t.sub,x.kind=1:=by
 unfold ez
 simp[and_assoc]
theorem B0{w:Int}(h1:1≤w)(h2:w≤64):1≤br w:=by
 obtain⟨w,rfl⟩:∃n:Nat,w=n:=⟨w.toNat,by omega⟩
 rw[qi (by omega) (by omega)]
 have:2^1≤2^w:=Nat.pow_le_pow_right (by decide) (by omega)
 omega
theorem Kn{t:Tr}(hn:NC t)(hb:0≤t.bits)(hz:t.z=false)(hs:∀x∈t.sub,jl x∧zj x):Good t (stepT t):=by
 have hw:=hn.wide
 have gs:=LH hn hb hz hs
 have m1:=B0 hw.1 hw.2
 unfold stepT
 by_cases hc:ez t=true
 ·rw[if_pos hc]
  obtain⟨c1,c2,c3⟩:=(bV t).1 hc
  have:=SG hn (fun x hx=>(hs x hx).1) c3 c2 c1
  refine sS hw.1 hw.2 (by omega) ?_
  obtain⟨w,lr⟩:∃n:Nat,t.width=n:=⟨t.width.toNat,by omega⟩
  rw[lr] at this ⊢
  rw[qi (by omega) (by omega)]
  simp only[Int.toNat_natCast] at this
  omega
 rw[if_neg hc]
 have n0:=sS hw.1 hw.2 (t:=t) (v:=0) (by omega) (by omega)
 have n1:=sS hw.1 hw.2 (t:=t) (v:=1) (by omega) (by omega)
 have nm:=sS hw.1 hw.2 (t:=t) (v:=br t.width) (by omega) (by omega)
 cases hn with
 |con=>exact gs
 |var=>exact gs
 |un k w z x h1 h2 hk hx=>
  obtain⟨x1,x2⟩:=hs x (by simp[aq])
  refine gZ gs _ ?_
  have Vq:fp (.mk k w 0 ⟨#[]⟩ 0 z [x])=[(decide (x.kind=k),nth x.sub 0)]:=by rcases hk with rfl|rfl<;>rfl
  rw[Vq]
  simp only[List.mem_singleton]
  rintro p rfl hp
  have hp:x.kind=k:=of_decide_eq_true hp
  obtain⟨y,hy,hyw,_⟩:=x1.nc.un_inv (by omega)
  have y1:=x1.sub y (by rw[hy];simp)
  have y2:=((ll x).1 x2).2 y (by rw[hy];simp)
  obtain⟨e1,e2⟩:=one_sub hy
  rw[hy]
  refine⟨y1,y2,by show y.width=w;omega, ?_, ?_⟩
  ·show aF y≤_
   simp only[aF,bM];omega
  ·show eg y≤_
   simp only[eg,dt];omega
 |bin k w z x y h1 h2 k1 k2 hx hy=>
  have gx:=ku (t:=.mk k w 0 ⟨#[]⟩ 0 z [x,y]) (x:=x) (by simp[aq]) (hs x (by simp[aq])).1 (hs x (by simp[aq])).2 hx
  have gy:=ku (t:=.mk k w 0 ⟨#[]⟩ 0 z [x,y]) (x:=y) (by simp[aq]) (hs y (by simp[aq])).1 (hs y (by simp[aq])).2 hy
  refine gZ gs _ ?_
  have:k=5∨k=6∨k=7∨k=8∨k=9∨k=10∨k=11∨k=12∨k=13∨k=14∨k=15:=by omega
  simp only[bS] at n0 n1 nm
  rcases this with rfl|rfl|rfl|rfl|rfl|rfl|rfl|rfl|rfl|rfl|rfl<;>intro p hp _<;>
   simp only[fp,aZ,aq,bS,cr,cL,dC,reduceIte,Int.reduceEq,or_self,or_false,false_or,or_true,true_or,List.mem_cons,List.not_mem_nil] at hp<;>
   first
   |(rcases hp with rfl|rfl|rfl|rfl|rfl<;>assumption)
   |(rcases hp with rfl|rfl|rfl|rfl<;>assumption)
   |(rcases hp with rfl|rfl|rfl<;>assumption)
   |(rcases hp with rfl|rfl<;>assumption)
   |(subst hp;assumption)
 |cmp k z x y k1 k2 hy=>
  refine gZ gs _ ?_
  have:k=16∨k=17∨k=18:=by omega
  simp only[bS] at n0 n1 nm
  rcases this with rfl|rfl|rfl<;>intro p hp _<;>
   simp only[fp,aZ,aq,bS,cr,cL,dC,reduceIte,Int.reduceEq,or_self,or_false,false_or,or_true,true_or,List.mem_cons,List.not_mem_nil] at hp<;>
   first
   |(rcases hp with rfl|rfl<;>assumption)
   |(subst hp;assumption)
 |ite w z x y v h1 h2 hx hy hv=>
  have gy:=ku (t:=.mk 19 w 0 ⟨#[]⟩ 0 z [x,y,v]) (x:=y) (by simp[aq]) (hs y (by simp[aq])).1 (hs y (by simp[aq])).2 hy
  have gv:=ku (t:=.mk 19 w 0 ⟨#[]⟩ 0 z [x,y,v]) (x:=v) (by simp[aq]) (hs v (by simp[aq])).1 (hs v (by simp[aq])).2 hv
  refine gZ gs _ ?_
  simp only[fp,aZ,aq,bS,cr,cL,dC,fE,reduceIte,Int.reduceEq,or_self,or_false,false_or,or_true,true_or,List.mem_cons,List.not_mem_nil]
  rintro p rfl _
  show Good _ (if bR x 1=true then y else v)
  split<;>assumption
 |cat w z x y h1 h2 hx hy lr=>
  refine gZ gs _ ?_
  obtain⟨y1,y2⟩:=hs y (by simp[aq])
  simp only[fp,aZ,aq,bS,cr,cL,dC,fE,reduceIte,Int.reduceEq,or_self,or_false,false_or,or_true,true_or,List.mem_cons,List.not_mem_nil]
  rintro p rfl _
  have key:jl (gF y)∧zj (gF y)∧(gF y).width≤y.width∧aF (gF y)≤aF y∧eg (gF y)≤eg y:=by
   unfold gF
   split
   ·rename_i h22
    obtain⟨q,hq,hqw,_⟩:=y1.nc.wid_inv (Or.inl h22)
    obtain⟨e1,e2⟩:=one_sub hq
    rw[hq]
    refine⟨y1.sub q (by rw[hq];simp),((ll y).1 y2).2 q (by rw[hq];simp),hqw, ?_, ?_⟩<;>simp only[List.headD_cons]<;>omega
   ·exact⟨y1,y2,Int.le_refl _,Nat.le_refl _,Nat.le_refl _⟩
  obtain⟨j1,j2,j3,j4,j5⟩:=key
  refine⟨(iK _).2 ⟨.wid 22 w false _ h1 h2 (Or.inl rfl) (by omega),by simp[fG],by simpa [aq] using j1⟩,(ll _).2 ⟨rfl,by simpa [aq] using j2⟩,rfl, ?_, ?_⟩
  ·simp only[aF,bM];omega
  ·simp only[eg,dt];omega
 |ext w l z x h1 h2 hl hx tt lr=>
  refine gZ gs _ ?_
  obtain⟨x1,x2⟩:=hs x (by simp[aq])
  simp only[fp,aZ,aq,bS,cr,cL,dC,fE,reduceIte,Int.reduceEq,or_self,or_false,false_or,or_true,true_or,List.mem_cons,List.not_mem_nil]
  rintro p (rfl|rfl) hp
  ·exact ku (by simp[aq]) x1 x2 (of_decide_eq_true hp)
  ·have hp:x.kind=21:=of_decide_eq_true hp
   obtain⟨q,hq,h3,h4,h5,h6⟩:=x1.nc.ext_inv hp
   obtain⟨e1,e2⟩:=one_sub hq
   have q1:=x1.sub q (by rw[hq];simp)
   have q2:=((ll x).1 x2).2 q (by rw[hq];simp)
   rw[hq]
   refine⟨(iK _).2 ⟨.ext w (l+x.low) false q h1 h2 (by omega) h4 h5 (by omega),by simp[fG],by simpa [aq] using q1⟩,(ll _).2 ⟨rfl,by simpa [aq] using q2⟩,rfl, ?_, ?_⟩
   ·simp only[aF,bM];omega
   ·simp only[eg,dt];omega
 |wid k w z x h1 h2 hk hx=>
  refine gZ gs _ ?_
  obtain⟨x1,x2⟩:=hs x (by simp[aq])
  have Vq:fp (.mk k w 0 ⟨#[]⟩ 0 z [x])=[(decide (x.width=w),x),(decide (x.kind=k),.mk k w 0 ⟨#[]⟩ (0+x.low) false x.sub)]:=by
   rcases hk with rfl|rfl<;>rfl
  rw[Vq]
  simp only[List.mem_cons,List.not_mem_nil,or_false]
  rintro p (rfl|rfl) hp
  ·exact ku (by simp[aq]) x1 x2 (of_decide_eq_true hp)
  ·have hp:x.kind=k:=of_decide_eq_true hp
   obtain⟨q,hq,h3,h4⟩:=x1.nc.wid_inv (by omega)
   obtain⟨e1,e2⟩:=one_sub hq
   have q1:=x1.sub q (by rw[hq];simp)
   have q2:=((ll x).1 x2).2 q (by rw[hq];simp)
   have e0:(0:Int)+x.low=0:=by omega
   rw[hq,e0]
   refine⟨(iK _).2 ⟨.wid k w false q h1 h2 hk (by omega),by simp[fG],by simpa [aq] using q1⟩,(ll _).2 ⟨rfl,by simpa [aq] using q2⟩,rfl, ?_, ?_⟩
   ·simp only[aF,bM];omega
   ·simp only[eg,dt];omega
 |ld=>exact gs
theorem NC.map{t:Tr}(h:NC t)(z:Bool)(f:Tr→Tr)(hf:∀x∈t.sub,(f x).width=x.width):NC (.mk t.kind t.width t.bits t.name t.low z (t.sub.map f)):=by
 cases h with
 |con w b z' h1 h2 h3=>exact .con w b z h1 h2 h3
 |var w n z' h1 h2 h3=>exact .var w n z h1 h2 h3
 |un k w z' x h1 h2 h3 h4=>
  simp only[aq,List.mem_cons,List.not_mem_nil,or_false,forall_eq] at hf
  exact .un k w z (f x) h1 h2 h3 (by omega)
 |bin k w z' x y h1 h2 h3 h4 h5 h6=>
  simp only[aq,List.mem_cons,List.not_mem_nil,or_false,forall_eq_or_imp,forall_eq] at hf
  exact .bin k w z (f x) (f y) h1 h2 h3 h4 (by omega) (by omega)
 |cmp k z' x y h1 h2 h3=>
  simp only[aq,List.mem_cons,List.not_mem_nil,or_false,forall_eq_or_imp,forall_eq] at hf
  exact .cmp k z (f x) (f y) h1 h2 (by omega)
 |ite w z' x y v h1 h2 h3 h4 h5=>
  simp only[aq,List.mem_cons,List.not_mem_nil,or_false,forall_eq_or_imp,forall_eq] at hf
  exact .ite w z (f x) (f y) (f v) h1 h2 (by omega) (by omega) (by omega)
 |cat w z' x y h1 h2 h3 h4 h5=>
  simp only[aq,List.mem_cons,List.not_mem_nil,or_false,forall_eq_or_imp,forall_eq] at hf
  exact .cat w z (f x) (f y) h1 h2 (by omega) (by omega) (by omega)
 |ext w l z' x h1 h2 h3 h4 h5 h6=>
  simp only[aq,List.mem_cons,List.not_mem_nil,or_false,forall_eq] at hf
  exact .ext w l z (f x) h1 h2 h3 (by omega) (by omega) (by omega)
 |wid k w z' x h1 h2 h3 h4=>
  simp only[aq,List.mem_cons,List.not_mem_nil,or_false,forall_eq] at hf
  exact .wid k w z (f x) h1 h2 h3 (by omega)
 |ld w z' x h1 h2 h3=>exact .ld w z (f x) h1 h2 h3
theorem tO(f:Tr→Tr):∀l:List Tr,(∀x∈l,aF (f x)≤aF x)→bM (l.map f)≤bM l
 |[],_=>Nat.le_refl _
 |x::l,h=>by
  have h1:=h x (by simp)
  have h2:=tO f l fun y hy=>h y (by simp[hy])
  simp only[List.map_cons,bM];omega
theorem Fp(f:Tr→Tr):∀l:List Tr,(∀x∈l,eg (f x)≤eg x)→dt (l.map f)≤dt l
 |[],_=>Nat.le_refl _
 |x::l,h=>by
  have h1:=h x (by simp)
  have h2:=Fp f l fun y hy=>h y (by simp[hy])
  simp only[List.map_cons,dt];omega
def lV(t:Tr):Tr:=.mk t.kind t.width t.bits t.name t.low false (t.sub.map lx)
theorem xe(t:Tr):lx t=stepT (lV t):=Ts t
theorem O'{t:Tr}(h:jl t)(hg:∀x∈t.sub,Good x (lx x)):NC (lV t)∧0≤(lV t).bits∧(lV t).z=false∧(∀x∈(lV t).sub,jl x∧zj x)∧aF (lV t)≤aF t∧eg (lV t)≤eg t:=by
 have h':=(iK t).1 h
 refine⟨h'.1.map _ _ fun x hx=>(hg x hx).width,h'.2.1,by simp[lV,Zg,aq], ?_, ?_, ?_⟩
 ·intro x hx
  simp only[lV,aq,List.mem_map] at hx
  obtain⟨y,hy,rfl⟩:=hx
  exact⟨(hg y hy).wf,(hg y hy).cz⟩
 ·rw[bz,bz]
  have:=tO lx t.sub fun x hx=>(hg x hx).size
  simp only[lV,aq] at this ⊢;omega
 ·rw[eT,eT]
  have:=Fp lx t.sub fun x hx=>(hg x hx).dep
  simp only[lV,aq] at this ⊢;omega
theorem DP:∀(n:Nat) (t:Tr),aF t≤n→jl t→Good t (lx t)
 |0,t,h,_=>by have:=size_pos t;omega
 |n+1,t,h,hw=>by
  have hg:∀x∈t.sub,Good x (lx x):=fun x hx=>DP n x (by have:=kG hx;have:=bz t;omega) (hw.sub x hx)
  obtain⟨m1,m2,m3,m4,m5,m6⟩:=O' hw hg
  have:=Kn m1 m2 m3 m4
  rw[xe]
  exact⟨this.wf,this.cz,this.width,Nat.le_trans this.size m5,Nat.le_trans this.dep m6⟩
theorem Ag{t:Tr}(h:jl t):Good t (lx t):=DP _ t (Nat.le_refl _) h
theorem Wn{t:Tr}(h:jl t):NC (lV t)∧0≤(lV t).bits∧(lV t).z=false∧(∀x∈(lV t).sub,jl x∧zj x)∧aF (lV t)≤aF t∧eg (lV t)≤eg t:=O' h fun x hx=>Ag (h.sub x hx)
theorem SF(N:Nat)(hN:200≤N)(t:Tr)(h:NC t)(hs:∀x∈t.sub,jl x)(hc:∀x∈t.sub,x.kind=1)(fB:t.sub≠[])(yf:t.kind≠24):
  R N 244 [.agg ((aC t).map .p),.map 0,.p .nils] [.map []]=some (.p (.int .u64 (bY t:Nat)),[.map []]):=by
 cases h with
 |con=>simp[aq] at fB
 |var=>simp[aq] at fB
 |un k w z x h1 h2 hk hx=>
  obtain⟨w0,b0,e1,e2,e3,e4,e5,_⟩:=ba (hs x (by simp[aq])) (hc x (by simp[aq]))
  rcases hk with rfl|rfl
  ·have e:bY (.mk 3 w 0 ⟨#[]⟩ 0 z [x])=zu 3 x.width.toNat x.bits.toNat:=rfl
   rw[e,e1,e2,Int.toNat_natCast,Int.toNat_natCast]
   exact NY 3 (by decide) N hN _ x w0 b0 rfl rfl (hc x (by simp[aq])) e2 e1 e3 e4 e5
  ·have e:bY (.mk 4 w 0 ⟨#[]⟩ 0 z [x])=zu 4 x.width.toNat x.bits.toNat:=rfl
   rw[e,e1,e2,Int.toNat_natCast,Int.toNat_natCast]
   exact NY 4 (by decide) N hN _ x w0 b0 rfl rfl (hc x (by simp[aq])) e2 e1 e3 e4 e5
 |bin k w z x y h1 h2 k1 k2 hx hy=>
  obtain⟨w0,b0,e1,e2,e3,e4,e5,_⟩:=ba (hs x (by simp[aq])) (hc x (by simp[aq]))
  obtain⟨w1,b1,d1,d2,d3,d4,d5,_⟩:=ba (hs y (by simp[aq])) (hc y (by simp[aq]))
  obtain rfl:w1=w0:=by omega
  have:k=5∨k=6∨k=7∨k=8∨k=9∨k=10∨k=11∨k=12∨k=13∨k=14∨k=15:=by omega
  rcases this with rfl|rfl|rfl|rfl|rfl|rfl|rfl|rfl|rfl|rfl|rfl
  ·have e:bY (.mk 5 w 0 ⟨#[]⟩ 0 z [x,y])=bF 5 x.width.toNat x.bits.toNat y.bits.toNat:=rfl
   rw[e,e1,e2,d2,Int.toNat_natCast,Int.toNat_natCast,Int.toNat_natCast]
   exact ie 5 (by decide) N hN _ x y w1 b0 b1 rfl rfl (hc x (by simp[aq])) e2 (hc y (by simp[aq])) d2 e1 e3 e4 e5 d5
  ·have e:bY (.mk 6 w 0 ⟨#[]⟩ 0 z [x,y])=bF 6 x.width.toNat x.bits.toNat y.bits.toNat:=rfl
   rw[e,e1,e2,d2,Int.toNat_natCast,Int.toNat_natCast,Int.toNat_natCast]
   exact ie 6 (by decide) N hN _ x y w1 b0 b1 rfl rfl (hc x (by simp[aq])) e2 (hc y (by simp[aq])) d2 e1 e3 e4 e5 d5
  ·have e:bY (.mk 7 w 0 ⟨#[]⟩ 0 z [x,y])=bF 7 x.width.toNat x.bits.toNat y.bits.toNat:=rfl
   rw[e,e1,e2,d2,Int.toNat_natCast,Int.toNat_natCast,Int.toNat_natCast]
   exact ie 7 (by decide) N hN _ x y w1 b0 b1 rfl rfl (hc x (by simp[aq])) e2 (hc y (by simp[aq])) d2 e1 e3 e4 e5 d5
  ·have e:bY (.mk 8 w 0 ⟨#[]⟩ 0 z [x,y])=bF 8 x.width.toNat x.bits.toNat y.bits.toNat:=rfl
   rw[e,e1,e2,d2,Int.toNat_natCast,Int.toNat_natCast,Int.toNat_natCast]
   exact ie 8 (by decide) N hN _ x y w1 b0 b1 rfl rfl (hc x (by simp[aq])) e2 (hc y (by simp[aq])) d2 e1 e3 e4 e5 d5
  ·have e:bY (.mk 9 w 0 ⟨#[]⟩ 0 z [x,y])=bF 9 x.width.toNat x.bits.toNat y.bits.toNat:=rfl
   rw[e,e1,e2,d2,Int.toNat_natCast,Int.toNat_natCast,Int.toNat_natCast]
   exact ie 9 (by decide) N hN _ x y w1 b0 b1 rfl rfl (hc x (by simp[aq])) e2 (hc y (by simp[aq])) d2 e1 e3 e4 e5 d5
  ·have e:bY (.mk 10 w 0 ⟨#[]⟩ 0 z [x,y])=bF 10 x.width.toNat x.bits.toNat y.bits.toNat:=rfl
   rw[e,e1,e2,d2,Int.toNat_natCast,Int.toNat_natCast,Int.toNat_natCast]
   exact ie 10 (by decide) N hN _ x y w1 b0 b1 rfl rfl (hc x (by simp[aq])) e2 (hc y (by simp[aq])) d2 e1 e3 e4 e5 d5
  ·have e:bY (.mk 11 w 0 ⟨#[]⟩ 0 z [x,y])=bF 11 x.width.toNat x.bits.toNat y.bits.toNat:=rfl
   rw[e,e1,e2,d2,Int.toNat_natCast,Int.toNat_natCast,Int.toNat_natCast]
   exact ie 11 (by decide) N hN _ x y w1 b0 b1 rfl rfl (hc x (by simp[aq])) e2 (hc y (by simp[aq])) d2 e1 e3 e4 e5 d5
  ·have e:bY (.mk 12 w 0 ⟨#[]⟩ 0 z [x,y])=bF 12 x.width.toNat x.bits.toNat y.bits.toNat:=rfl
   rw[e,e1,e2,d2,Int.toNat_natCast,Int.toNat_natCast,Int.toNat_natCast]
   exact ie 12 (by decide) N hN _ x y w1 b0 b1 rfl rfl (hc x (by simp[aq])) e2 (hc y (by simp[aq])) d2 e1 e3 e4 e5 d5
  ·have e:bY (.mk 13 w 0 ⟨#[]⟩ 0 z [x,y])=bF 13 x.width.toNat x.bits.toNat y.bits.toNat:=rfl
   rw[e,e1,e2,d2,Int.toNat_natCast,Int.toNat_natCast,Int.toNat_natCast]
   exact ie 13 (by decide) N hN _ x y w1 b0 b1 rfl rfl (hc x (by simp[aq])) e2 (hc y (by simp[aq])) d2 e1 e3 e4 e5 d5
  ·have e:bY (.mk 14 w 0 ⟨#[]⟩ 0 z [x,y])=bF 14 x.width.toNat x.bits.toNat y.bits.toNat:=rfl
   rw[e,e1,e2,d2,Int.toNat_natCast,Int.toNat_natCast,Int.toNat_natCast]
   exact ie 14 (by decide) N hN _ x y w1 b0 b1 rfl rfl (hc x (by simp[aq])) e2 (hc y (by simp[aq])) d2 e1 e3 e4 e5 d5
  ·have e:bY (.mk 15 w 0 ⟨#[]⟩ 0 z [x,y])=bF 15 x.width.toNat x.bits.toNat y.bits.toNat:=rfl
   rw[e,e1,e2,d2,Int.toNat_natCast,Int.toNat_natCast,Int.toNat_natCast]
   exact ie 15 (by decide) N hN _ x y w1 b0 b1 rfl rfl (hc x (by simp[aq])) e2 (hc y (by simp[aq])) d2 e1 e3 e4 e5 d5
 |cmp k z x y k1 k2 hy=>
  obtain⟨w0,b0,e1,e2,e3,e4,e5,_⟩:=ba (hs x (by simp[aq])) (hc x (by simp[aq]))
  obtain⟨w1,b1,d1,d2,d3,d4,d5,_⟩:=ba (hs y (by simp[aq])) (hc y (by simp[aq]))
  obtain rfl:w1=w0:=by omega
  have:k=16∨k=17∨k=18:=by omega
  rcases this with rfl|rfl|rfl
  ·have e:bY (.mk 16 1 0 ⟨#[]⟩ 0 z [x,y])=bF 16 x.width.toNat x.bits.toNat y.bits.toNat:=rfl
   rw[e,e1,e2,d2,Int.toNat_natCast,Int.toNat_natCast,Int.toNat_natCast]
   exact ie 16 (by decide) N hN _ x y w1 b0 b1 rfl rfl (hc x (by simp[aq])) e2 (hc y (by simp[aq])) d2 e1 e3 e4 e5 d5
  ·have e:bY (.mk 17 1 0 ⟨#[]⟩ 0 z [x,y])=bF 17 x.width.toNat x.bits.toNat y.bits.toNat:=rfl
   rw[e,e1,e2,d2,Int.toNat_natCast,Int.toNat_natCast,Int.toNat_natCast]
   exact ie 17 (by decide) N hN _ x y w1 b0 b1 rfl rfl (hc x (by simp[aq])) e2 (hc y (by simp[aq])) d2 e1 e3 e4 e5 d5
  ·have e:bY (.mk 18 1 0 ⟨#[]⟩ 0 z [x,y])=bF 18 x.width.toNat x.bits.toNat y.bits.toNat:=rfl
   rw[e,e1,e2,d2,Int.toNat_natCast,Int.toNat_natCast,Int.toNat_natCast]
   exact ie 18 (by decide) N hN _ x y w1 b0 b1 rfl rfl (hc x (by simp[aq])) e2 (hc y (by simp[aq])) d2 e1 e3 e4 e5 d5
 |ite w z x y v h1 h2 hx hy hv=>
  obtain⟨w0,b0,e1,e2,e3,e4,e5,_⟩:=ba (hs x (by simp[aq])) (hc x (by simp[aq]))
  obtain⟨w1,b1,d1,d2,d3,d4,d5,_⟩:=ba (hs y (by simp[aq])) (hc y (by simp[aq]))
  obtain⟨w2,b2,f1,f2,f3,f4,f5,_⟩:=ba (hs v (by simp[aq])) (hc v (by simp[aq]))
  obtain rfl:w0=1:=by omega
  have e:bY (.mk 19 w 0 ⟨#[]⟩ 0 z [x,y,v])=if x.bits.toNat=1 then y.bits.toNat else v.bits.toNat:=rfl
  rw[e,e2,d2,f2,Int.toNat_natCast,Int.toNat_natCast,Int.toNat_natCast]
  exact SE N hN _ x y v 1 b0 b1 b2 rfl rfl (hc x (by simp[aq])) e2 (hc y (by simp[aq])) d2 (hc v (by simp[aq])) f2 e1 (by omega)
 |cat w z x y h1 h2 hx hy hw=>
  obtain⟨w0,b0,e1,e2,e3,e4,e5,_⟩:=ba (hs x (by simp[aq])) (hc x (by simp[aq]))
  obtain⟨w1,b1,d1,d2,d3,d4,d5,_⟩:=ba (hs y (by simp[aq])) (hc y (by simp[aq]))
  have e:bY (.mk 20 w 0 ⟨#[]⟩ 0 z [x,y])=x.bits.toNat*2^y.width.toNat+y.bits.toNat:=rfl
  rw[e,e2,d1,d2,Int.toNat_natCast,Int.toNat_natCast,Int.toNat_natCast]
  exact SD N hN _ x y w0 b0 b1 rfl rfl (hc x (by simp[aq])) e2 (hc y (by simp[aq])) d2 e1 w1 d1 e3 d3 (by omega) e5 d5
 |ext w l z x h1 h2 hl hx tt hw=>
  obtain⟨w0,b0,e1,e2,e3,e4,e5,_⟩:=ba (hs x (by simp[aq])) (hc x (by simp[aq]))
  obtain⟨w,rfl⟩:∃n:Nat,w=n:=⟨w.toNat,by omega⟩
  obtain⟨l,rfl⟩:∃n:Nat,l=n:=⟨l.toNat,by omega⟩
  have e:bY (.mk 21 w 0 ⟨#[]⟩ l z [x])=x.bits.toNat/2^(l:Int).toNat % 2^(w:Int).toNat:=rfl
  rw[e,e2,Int.toNat_natCast,Int.toNat_natCast,Int.toNat_natCast]
  exact SC N hN _ x w0 b0 rfl rfl (hc x (by simp[aq])) e2 e1 l w rfl rfl e3 e4 e5 (by omega) (by omega)
 |wid k w z x h1 h2 hk hx=>
  obtain⟨w0,b0,e1,e2,e3,e4,e5,_⟩:=ba (hs x (by simp[aq])) (hc x (by simp[aq]))
  obtain⟨w,rfl⟩:∃n:Nat,w=n:=⟨w.toNat,by omega⟩
  rcases hk with rfl|rfl
  ·have e:bY (.mk 22 w 0 ⟨#[]⟩ 0 z [x])=vx x.width.toNat x.bits.toNat (w:Int).toNat false:=rfl
   rw[e,e1,e2,Int.toNat_natCast,Int.toNat_natCast,Int.toNat_natCast]
   exact NX false N hN _ x w0 b0 rfl rfl (hc x (by simp[aq])) e2 e1 w rfl e3 (by omega) (by omega) e5
  ·have e:bY (.mk 23 w 0 ⟨#[]⟩ 0 z [x])=vx x.width.toNat x.bits.toNat (w:Int).toNat true:=rfl
   rw[e,e1,e2,Int.toNat_natCast,Int.toNat_natCast,Int.toNat_natCast]
   exact NX true N hN _ x w0 b0 rfl rfl (hc x (by simp[aq])) e2 e1 w rfl e3 (by omega) (by omega) e5
 |ld=>exact absurd rfl yf
theorem vZ(N:Nat)(hN:2100≤N)(t:Tr)(h:NC t)(hs:∀x∈t.sub,jl x)(hc:∀x∈t.sub,x.kind=1)(fB:t.sub≠[])(yf:t.kind≠24):
  R N 180 [.agg ((aC t).map .p),.p .nils,.p .nils] []=some (.p (.int .u64 (bY t:Nat)),[]):=by
 cases h with
 |con=>simp[aq] at fB
 |var=>simp[aq] at fB
 |un k w z x h1 h2 hk hx=>
  obtain⟨w0,b0,e1,e2,e3,e4,e5,_⟩:=ba (hs x (by simp[aq])) (hc x (by simp[aq]))
  rcases hk with rfl|rfl
  ·have e:bY (.mk 3 w 0 ⟨#[]⟩ 0 z [x])=zu 3 x.width.toNat x.bits.toNat:=rfl
   rw[e,e1,e2,Int.toNat_natCast,Int.toNat_natCast]
   exact IX 3 (by decide) N hN _ x w0 b0 rfl rfl (hc x (by simp[aq])) e2 e1 e3 e4 e5
  ·have e:bY (.mk 4 w 0 ⟨#[]⟩ 0 z [x])=zu 4 x.width.toNat x.bits.toNat:=rfl
   rw[e,e1,e2,Int.toNat_natCast,Int.toNat_natCast]
   exact IX 4 (by decide) N hN _ x w0 b0 rfl rfl (hc x (by simp[aq])) e2 e1 e3 e4 e5
 |bin k w z x y h1 h2 k1 k2 hx hy=>
  obtain⟨w0,b0,e1,e2,e3,e4,e5,_⟩:=ba (hs x (by simp[aq])) (hc x (by simp[aq]))
  obtain⟨w1,b1,d1,d2,d3,d4,d5,_⟩:=ba (hs y (by simp[aq])) (hc y (by simp[aq]))
  obtain rfl:w1=w0:=by omega
  have:k=5∨k=6∨k=7∨k=8∨k=9∨k=10∨k=11∨k=12∨k=13∨k=14∨k=15:=by omega
  rcases this with rfl|rfl|rfl|rfl|rfl|rfl|rfl|rfl|rfl|rfl|rfl
  ·have e:bY (.mk 5 w 0 ⟨#[]⟩ 0 z [x,y])=bF 5 x.width.toNat x.bits.toNat y.bits.toNat:=rfl
   rw[e,e1,e2,d2,Int.toNat_natCast,Int.toNat_natCast,Int.toNat_natCast]
   exact fy 5 (by decide) N hN _ x y w1 b0 b1 rfl rfl (hc x (by simp[aq])) e2 (hc y (by simp[aq])) d2 e1 e3 e4 e5 d5
  ·have e:bY (.mk 6 w 0 ⟨#[]⟩ 0 z [x,y])=bF 6 x.width.toNat x.bits.toNat y.bits.toNat:=rfl
   rw[e,e1,e2,d2,Int.toNat_natCast,Int.toNat_natCast,Int.toNat_natCast]
   exact fy 6 (by decide) N hN _ x y w1 b0 b1 rfl rfl (hc x (by simp[aq])) e2 (hc y (by simp[aq])) d2 e1 e3 e4 e5 d5
  ·have e:bY (.mk 7 w 0 ⟨#[]⟩ 0 z [x,y])=bF 7 x.width.toNat x.bits.toNat y.bits.toNat:=rfl
   rw[e,e1,e2,d2,Int.toNat_natCast,Int.toNat_natCast,Int.toNat_natCast]
   exact fy 7 (by decide) N hN _ x y w1 b0 b1 rfl rfl (hc x (by simp[aq])) e2 (hc y (by simp[aq])) d2 e1 e3 e4 e5 d5
  ·have e:bY (.mk 8 w 0 ⟨#[]⟩ 0 z [x,y])=bF 8 x.width.toNat x.bits.toNat y.bits.toNat:=rfl
   rw[e,e1,e2,d2,Int.toNat_natCast,Int.toNat_natCast,Int.toNat_natCast]
   exact fy 8 (by decide) N hN _ x y w1 b0 b1 rfl rfl (hc x (by simp[aq])) e2 (hc y (by simp[aq])) d2 e1 e3 e4 e5 d5
  ·have e:bY (.mk 9 w 0 ⟨#[]⟩ 0 z [x,y])=bF 9 x.width.toNat x.bits.toNat y.bits.toNat:=rfl
   rw[e,e1,e2,d2,Int.toNat_natCast,Int.toNat_natCast,Int.toNat_natCast]
   exact fy 9 (by decide) N hN _ x y w1 b0 b1 rfl rfl (hc x (by simp[aq])) e2 (hc y (by simp[aq])) d2 e1 e3 e4 e5 d5
  ·have e:bY (.mk 10 w 0 ⟨#[]⟩ 0 z [x,y])=bF 10 x.width.toNat x.bits.toNat y.bits.toNat:=rfl
   rw[e,e1,e2,d2,Int.toNat_natCast,Int.toNat_natCast,Int.toNat_natCast]
   exact fy 10 (by decide) N hN _ x y w1 b0 b1 rfl rfl (hc x (by simp[aq])) e2 (hc y (by simp[aq])) d2 e1 e3 e4 e5 d5
  ·have e:bY (.mk 11 w 0 ⟨#[]⟩ 0 z [x,y])=bF 11 x.width.toNat x.bits.toNat y.bits.toNat:=rfl
   rw[e,e1,e2,d2,Int.toNat_natCast,Int.toNat_natCast,Int.toNat_natCast]
   exact fy 11 (by decide) N hN _ x y w1 b0 b1 rfl rfl (hc x (by simp[aq])) e2 (hc y (by simp[aq])) d2 e1 e3 e4 e5 d5
  ·have e:bY (.mk 12 w 0 ⟨#[]⟩ 0 z [x,y])=bF 12 x.width.toNat x.bits.toNat y.bits.toNat:=rfl
   rw[e,e1,e2,d2,Int.toNat_natCast,Int.toNat_natCast,Int.toNat_natCast]
   exact fy 12 (by decide) N hN _ x y w1 b0 b1 rfl rfl (hc x (by simp[aq])) e2 (hc y (by simp[aq])) d2 e1 e3 e4 e5 d5
  ·have e:bY (.mk 13 w 0 ⟨#[]⟩ 0 z [x,y])=bF 13 x.width.toNat x.bits.toNat y.bits.toNat:=rfl
   rw[e,e1,e2,d2,Int.toNat_natCast,Int.toNat_natCast,Int.toNat_natCast]
   exact fy 13 (by decide) N hN _ x y w1 b0 b1 rfl rfl (hc x (by simp[aq])) e2 (hc y (by simp[aq])) d2 e1 e3 e4 e5 d5
  ·have e:bY (.mk 14 w 0 ⟨#[]⟩ 0 z [x,y])=bF 14 x.width.toNat x.bits.toNat y.bits.toNat:=rfl
   rw[e,e1,e2,d2,Int.toNat_natCast,Int.toNat_natCast,Int.toNat_natCast]
   exact fy 14 (by decide) N hN _ x y w1 b0 b1 rfl rfl (hc x (by simp[aq])) e2 (hc y (by simp[aq])) d2 e1 e3 e4 e5 d5
  ·have e:bY (.mk 15 w 0 ⟨#[]⟩ 0 z [x,y])=bF 15 x.width.toNat x.bits.toNat y.bits.toNat:=rfl
   rw[e,e1,e2,d2,Int.toNat_natCast,Int.toNat_natCast,Int.toNat_natCast]
   exact fy 15 (by decide) N hN _ x y w1 b0 b1 rfl rfl (hc x (by simp[aq])) e2 (hc y (by simp[aq])) d2 e1 e3 e4 e5 d5
 |cmp k z x y k1 k2 hy=>
  obtain⟨w0,b0,e1,e2,e3,e4,e5,_⟩:=ba (hs x (by simp[aq])) (hc x (by simp[aq]))
  obtain⟨w1,b1,d1,d2,d3,d4,d5,_⟩:=ba (hs y (by simp[aq])) (hc y (by simp[aq]))
  obtain rfl:w1=w0:=by omega
  have:k=16∨k=17∨k=18:=by omega
  rcases this with rfl|rfl|rfl
  ·have e:bY (.mk 16 1 0 ⟨#[]⟩ 0 z [x,y])=bF 16 x.width.toNat x.bits.toNat y.bits.toNat:=rfl
   rw[e,e1,e2,d2,Int.toNat_natCast,Int.toNat_natCast,Int.toNat_natCast]
   exact fy 16 (by decide) N hN _ x y w1 b0 b1 rfl rfl (hc x (by simp[aq])) e2 (hc y (by simp[aq])) d2 e1 e3 e4 e5 d5
  ·have e:bY (.mk 17 1 0 ⟨#[]⟩ 0 z [x,y])=bF 17 x.width.toNat x.bits.toNat y.bits.toNat:=rfl
   rw[e,e1,e2,d2,Int.toNat_natCast,Int.toNat_natCast,Int.toNat_natCast]
   exact fy 17 (by decide) N hN _ x y w1 b0 b1 rfl rfl (hc x (by simp[aq])) e2 (hc y (by simp[aq])) d2 e1 e3 e4 e5 d5
  ·have e:bY (.mk 18 1 0 ⟨#[]⟩ 0 z [x,y])=bF 18 x.width.toNat x.bits.toNat y.bits.toNat:=rfl
   rw[e,e1,e2,d2,Int.toNat_natCast,Int.toNat_natCast,Int.toNat_natCast]
   exact fy 18 (by decide) N hN _ x y w1 b0 b1 rfl rfl (hc x (by simp[aq])) e2 (hc y (by simp[aq])) d2 e1 e3 e4 e5 d5
 |ite w z x y v h1 h2 hx hy hv=>
  obtain⟨w0,b0,e1,e2,e3,e4,e5,_⟩:=ba (hs x (by simp[aq])) (hc x (by simp[aq]))
  obtain⟨w1,b1,d1,d2,d3,d4,d5,_⟩:=ba (hs y (by simp[aq])) (hc y (by simp[aq]))
  obtain⟨w2,b2,f1,f2,f3,f4,f5,_⟩:=ba (hs v (by simp[aq])) (hc v (by simp[aq]))
  obtain rfl:w0=1:=by omega
  have e:bY (.mk 19 w 0 ⟨#[]⟩ 0 z [x,y,v])=if x.bits.toNat=1 then y.bits.toNat else v.bits.toNat:=rfl
  rw[e,e2,d2,f2,Int.toNat_natCast,Int.toNat_natCast,Int.toNat_natCast]
  exact NW N hN _ x y v 1 b0 b1 b2 rfl rfl (hc x (by simp[aq])) e2 (hc y (by simp[aq])) d2 (hc v (by simp[aq])) f2 e1 (by omega)
 |cat w z x y h1 h2 hx hy hw=>
  obtain⟨w0,b0,e1,e2,e3,e4,e5,_⟩:=ba (hs x (by simp[aq])) (hc x (by simp[aq]))
  obtain⟨w1,b1,d1,d2,d3,d4,d5,_⟩:=ba (hs y (by simp[aq])) (hc y (by simp[aq]))
  have e:bY (.mk 20 w 0 ⟨#[]⟩ 0 z [x,y])=x.bits.toNat*2^y.width.toNat+y.bits.toNat:=rfl
  rw[e,e2,d1,d2,Int.toNat_natCast,Int.toNat_natCast,Int.toNat_natCast]
  exact NV N hN _ x y w0 b0 b1 rfl rfl (hc x (by simp[aq])) e2 (hc y (by simp[aq])) d2 e1 w1 d1 e3 d3 (by omega) e5 d5
 |ext w l z x h1 h2 hl hx tt hw=>
  obtain⟨w0,b0,e1,e2,e3,e4,e5,_⟩:=ba (hs x (by simp[aq])) (hc x (by simp[aq]))
  obtain⟨w,rfl⟩:∃n:Nat,w=n:=⟨w.toNat,by omega⟩
  obtain⟨l,rfl⟩:∃n:Nat,l=n:=⟨l.toNat,by omega⟩
  have e:bY (.mk 21 w 0 ⟨#[]⟩ l z [x])=x.bits.toNat/2^(l:Int).toNat % 2^(w:Int).toNat:=rfl
  rw[e,e2,Int.toNat_natCast,Int.toNat_natCast,Int.toNat_natCast]
  exact NU N hN _ x w0 b0 rfl rfl (hc x (by simp[aq])) e2 e1 l w rfl rfl e3 e4 e5 (by omega) (by omega)
 |wid k w z x h1 h2 hk hx=>
  obtain⟨w0,b0,e1,e2,e3,e4,e5,_⟩:=ba (hs x (by simp[aq])) (hc x (by simp[aq]))
  obtain⟨w,rfl⟩:∃n:Nat,w=n:=⟨w.toNat,by omega⟩
  rcases hk with rfl|rfl
  ·have e:bY (.mk 22 w 0 ⟨#[]⟩ 0 z [x])=vx x.width.toNat x.bits.toNat (w:Int).toNat false:=rfl
   rw[e,e1,e2,Int.toNat_natCast,Int.toNat_natCast,Int.toNat_natCast]
   exact IW false N hN _ x w0 b0 rfl rfl (hc x (by simp[aq])) e2 e1 w rfl e3 (by omega) (by omega) e5
  ·have e:bY (.mk 23 w 0 ⟨#[]⟩ 0 z [x])=vx x.width.toNat x.bits.toNat (w:Int).toNat true:=rfl
   rw[e,e1,e2,Int.toNat_natCast,Int.toNat_natCast,Int.toNat_natCast]
   exact IW true N hN _ x w0 b0 rfl rfl (hc x (by simp[aq])) e2 e1 w rfl e3 (by omega) (by omega) e5
 |ld=>exact absurd rfl yf
theorem aM(t:Tr):(bh t).kind=t.kind:=by cases t;rfl
theorem aL(t:Tr):(bh t).width=t.width:=by cases t;rfl
theorem bH(t:Tr):(bh t).bits=t.bits:=by cases t;rfl
theorem bZ(t:Tr):(bh t).low=t.low:=by cases t;rfl
theorem SK(t:Tr):(bh t).name=t.name:=by cases t;rfl
theorem fo(t:Tr):(bh t).sub=t.sub.map bh:=by rw[jI];rfl
theorem N2(l:List Tr)(i:Int):(nth (l.map bh) i).width=(nth l i).width∧(nth (l.map bh) i).bits=(nth l i).bits∧(nth (l.map bh) i).kind=(nth l i).kind∧(nth (l.map bh) i).low=(nth l i).low:=by
 unfold nth
 by_cases h:i.toNat<l.length
 ·simp[h,aL,bH,aM,bZ]
 ·simp[h]
theorem rU(t:Tr):bY (bh t)=bY t:=by
 unfold bY
 simp only[aM,fo,aL,bZ,(N2 _ _).1,(N2 _ _).2.1]
theorem cd(t:Tr)(x:Int):bR (bh t) x=bR t x:=by unfold bR;rw[aM,bH]
theorem VQ:∀t:Tr,zj (bh t):=by
 have main:∀n:Nat,∀t:Tr,aF t≤n→zj (bh t):=by
  intro n
  induction n with
  |zero=>intro t h;have:=bz t;omega
  |succ n ih=>
   intro t h
   rw[ll,fo]
   refine⟨by rw[jI];rfl,fun x hx=> ?_⟩
   obtain⟨y,hy,rfl⟩:=List.mem_map.1 hx
   exact ih y (by have:=kG hy;have:=bz t;omega)
 exact fun t=>main _ t (Nat.le_refl _)
theorem bL:∀a b:Tr,aI (bh a) (bh b)=aI a b:=by
 have main:∀n:Nat,∀a b:Tr,aF a≤n→aI (bh a) (bh b)=aI a b:=by
  intro n
  induction n with
  |zero=>intro a b h;have:=bz a;omega
  |succ n ih=>
   intro a b h
   rw[oh,oh]
   have e1:mr (bh a) (bh b)=mr a b:=by unfold mr;simp only[aM,aL,bH,SK,bZ]
   rw[e1,fo,fo]
   congr 1
   have hs:bM a.sub≤n:=by have:=bz a;omega
   generalize a.sub=l at hs
   generalize b.sub=q
   induction l generalizing q with
   |nil=>cases q<;>simp[iS]
   |cons x l il=>
    cases q with
    |nil=>simp[iS]
    |cons y q=>
     simp only[bM] at hs
     simp only[List.map_cons,iS]
     rw[ih x y (by omega),il (by omega) q]
 exact fun a b=>main _ a b (Nat.le_refl _)
theorem SJ:∀t:Tr,aF (bh t)=aF t∧eg (bh t)=eg t:=by
 have main:∀n:Nat,∀t:Tr,aF t≤n→aF (bh t)=aF t∧eg (bh t)=eg t:=by
  intro n
  induction n with
  |zero=>intro t h;have:=bz t;omega
  |succ n ih=>
   intro t h
   rw[bz (bh t),bz t,eT (bh t),eT t,fo]
   have hs:bM t.sub≤n:=by have:=bz t;omega
   have:∀l:List Tr,bM l≤n→bM (l.map bh)=bM l∧dt (l.map bh)=dt l:=by
    intro l
    induction l with
    |nil=>intro _;exact⟨rfl,rfl⟩
    |cons x l il=>
     intro hl
     simp only[bM] at hl
     simp only[List.map_cons,bM,dt]
     have h1:=ih x (by omega)
     have h2:=il (by omega)
     omega
   have:=this _ hs
   omega
 exact fun t=>main _ t (Nat.le_refl _)
theorem NC.z(k w b n l z s)(z':Bool)(h:NC (.mk k w b n l z s)):NC (.mk k w b n l z' s):=by
 cases h with
 |con _ _ _ h1 h2 h3=>exact .con _ _ _ h1 h2 h3
 |var _ _ _ h1 h2 h3=>exact .var _ _ _ h1 h2 h3
 |un _ _ _ _ h1 h2 h3 h4=>exact .un _ _ _ _ h1 h2 h3 h4
 |bin _ _ _ _ _ h1 h2 h3 h4 h5 h6=>exact .bin _ _ _ _ _ h1 h2 h3 h4 h5 h6
 |cmp _ _ _ _ h1 h2 h3=>exact .cmp _ _ _ _ h1 h2 h3
 |ite _ _ _ _ _ h1 h2 h3 h4 h5=>exact .ite _ _ _ _ _ h1 h2 h3 h4 h5
 |cat _ _ _ _ h1 h2 h3 h4 h5=>exact .cat _ _ _ _ h1 h2 h3 h4 h5
 |ext _ _ _ _ h1 h2 h3 h4 h5 h6=>exact .ext _ _ _ _ h1 h2 h3 h4 h5 h6
 |wid _ _ _ _ h1 h2 h3 h4=>exact .wid _ _ _ _ h1 h2 h3 h4
 |ld _ _ _ h1 h2 h3=>exact .ld _ _ _ h1 h2 h3
theorem sH{f:Tr→Tr}{l:List Tr}{x:Tr}(h:l.map f=[x]):∃a,l=[a]∧f a=x:=by
 match l,h with
 |[a],h=>simp at h;exact⟨a,rfl,h⟩
 |[],h=>simp at h
 |_::_::_,h=>simp at h
theorem NC.of_map{k w b n l z s}(f:Tr→Tr)(hf:∀x∈s,(f x).width=Tr.width x)(h:NC (.mk k w b n l z (s.map f))):NC (.mk k w b n l z s):=by
 generalize hq:s.map f=q at h
 cases h with
 |con _ _ _ h1 h2 h3=>have:=List.map_eq_nil_iff.1 hq;subst this;exact .con _ _ _ h1 h2 h3
 |var _ _ _ h1 h2 h3=>have:=List.map_eq_nil_iff.1 hq;subst this;exact .var _ _ _ h1 h2 h3
 |un _ _ _ _ h1 h2 h3 h4=>
  obtain⟨a,rfl,rfl⟩:=sH hq
  exact .un _ _ _ _ h1 h2 h3 (by rw[←hf a (by simp)];exact h4)
 |bin _ _ _ _ _ h1 h2 h3 h4 h5 h6=>
  match s,hq,hf with
  |[a,b],hq,hf=>
   simp only[List.map_cons,List.map_nil,List.cons.injEq,and_true] at hq
   obtain⟨rfl,rfl⟩:=hq
   exact .bin _ _ _ _ _ h1 h2 h3 h4 (by rw[←hf a (by simp)];exact h5) (by rw[←hf b (by simp)];exact h6)
 |cmp _ _ _ _ h1 h2 h3=>
  match s,hq,hf with
  |[a,b],hq,hf=>
   simp only[List.map_cons,List.map_nil,List.cons.injEq,and_true] at hq
   obtain⟨rfl,rfl⟩:=hq
   exact .cmp _ _ _ _ h1 h2 (by rw[←hf a (by simp),←hf b (by simp)];exact h3)
 |ite _ _ _ _ _ h1 h2 h3 h4 h5=>
  match s,hq,hf with
  |[a,b,c],hq,hf=>
   simp only[List.map_cons,List.map_nil,List.cons.injEq,and_true] at hq
   obtain⟨rfl,rfl,rfl⟩:=hq
   exact .ite _ _ _ _ _ h1 h2 (by rw[←hf a (by simp)];exact h3) (by rw[←hf b (by simp)];exact h4) (by rw[←hf c (by simp)];exact h5)
 |cat _ _ _ _ h1 h2 h3 h4 h5=>
  match s,hq,hf with
  |[a,b],hq,hf=>
   simp only[List.map_cons,List.map_nil,List.cons.injEq,and_true] at hq
   obtain⟨rfl,rfl⟩:=hq
   exact .cat _ _ _ _ h1 h2 (by rw[←hf a (by simp)];exact h3) (by rw[←hf b (by simp)];exact h4) (by rw[←hf a (by simp),←hf b (by simp)];exact h5)
 |ext _ _ _ _ h1 h2 h3 h4 h5 h6=>
  obtain⟨a,rfl,rfl⟩:=sH hq
  have:=hf a (by simp)
  exact .ext _ _ _ _ h1 h2 h3 (by omega) (by omega) (by omega)
 |wid _ _ _ _ h1 h2 h3 h4=>
  obtain⟨a,rfl,rfl⟩:=sH hq
  exact .wid _ _ _ _ h1 h2 h3 (by rw[←hf a (by simp)];exact h4)
 |ld _ _ _ h1 h2 h3=>
  obtain⟨a,rfl,rfl⟩:=sH hq
  exact .ld _ _ _ h1 h2 h3
theorem N3{t:Tr}(h:NC (bh t)):NC t:=by
 rw[jI] at h
 obtain⟨k,w,b,n,l,z,s⟩:=t
 simp only[aZ,bS,fG,g_,cr,aq] at h
 exact(NC.of_map bh (fun x _=>aL x) h).z _ _ _ _ _ _ _ z
theorem VP:∀t:Tr,jl (bh t)→jl t:=by
 have main:∀n:Nat,∀t:Tr,aF t≤n→jl (bh t)→jl t:=by
  intro n
  induction n with
  |zero=>intro t h;have:=bz t;omega
  |succ n ih=>
   intro t h hw
   have lr:=(iK _).1 hw
   rw[bH,fo] at lr
   refine(iK t).2 ⟨N3 lr.1,lr.2.1,fun x hx=>ih x (by have:=kG hx;have:=bz t;omega) (lr.2.2 _ (List.mem_map.2 ⟨x,hx,rfl⟩))⟩
 exact fun t=>main _ t (Nat.le_refl _)
theorem skolem{α:Type}[Inhabited α](l:List α)(P:α→α→Prop)(h:∀x∈l,∃y,P x y):∃f:α→α,∀x∈l,P x (f x):=by
 classical
 refine⟨fun x=>if h:∃y,P x y then h.choose else x,fun x hx=> ?_⟩
 have hy:=h x hx
 simp only[hy,dif_pos]
 exact hy.choose_spec
def lu:List (Bool×Tr)→List (Bool×Tr)→Prop
 |[],[]=>True
 |a::l,b::m=>(a.1=b.1∧(a.1=true→bh a.2=b.2))∧lu l m
 |_,_=>False
theorem cD{t t':Tr}(ht:bh t'=t):∀l m:List (Bool×Tr),lu l m→bh (pick t' l)=pick t m
 |[],[],_=>ht
 |(c,o)::l,(c',o')::m,h=>by
  simp only[lu] at h
  obtain⟨⟨h1,h2⟩,h3⟩:=h
  subst h1
  unfold pick
  by_cases hc:c=true
  ·rw[if_pos hc,if_pos hc];exact h2 hc
  ·rw[if_neg hc,if_neg hc];exact cD ht l m h3
 |[],_::_,h=>h.elim
 |_::_,[],h=>h.elim
def dv(n:Nat)(t:Tr)(c:PV)(o:Bool×Tr):Prop:=
 ∃f bx,c=.fn f bx∧T.muts f=false∧(bx=[]∨(∃a,bx=[.ptr a 0])∨(∃a b,bx=[.ptr a 0,.ptr b 0]))∧
  R n f (.agg ((aC t).map .p)::bx.map .p) []=some (.tup [.agg ((aC o.2).map .p),ab o.1],[])
def az(t:Tr)(f:Tr→Tr):Tr:=.mk t.kind t.width t.bits t.name t.low false (t.sub.map f)
theorem Tq(N:Nat)(hN:2000≤N)(t:Tr)(f:Tr→Tr)(v:Int)(hl:t.sub.length≤1000)
  (hf:∀x∈t.sub,R (N-1) 172 [.agg ((aC x).map .p)] []=some (.agg ((aC (f x)).map .p),[]))
  (key:R (N-1) 190 [.agg ((aC (az t f)).map .p)] []=some (.tup [.agg ((aC (bD t.width v)).map .p),ab true],[])):
  R N 172 [.agg ((aC t).map .p)] []=some (.agg ((aC (bD t.width v)).map .p),[]):=by
  have aa:rows 172=_:=GH.eq_1
  obtain⟨n,rfl⟩:=up N
  rw[aE 172 Tryz.func172 rfl rfl]
  simp only[Nat.add_sub_cancel] at*
  unfold az at key
  have en:aC (bD t.width v)=[.int .u8 1,.int .i64 t.width,.int .u64 v,.str ⟨#[]⟩,.int .i64 0,.nils]:=by
   unfold bD;rw[bA];rfl
  rw[bA,en] at key
  rw[en]
  simp -implicitDefEqProofs[aa] at key
  simp -implicitDefEqProofs[aa]
  rw[av t.sub.length (fun k=>⟨[(1,.ref 0 0),(2,.ref 1 0),(3,.arr 2 k 0 k),(13,.p (fg t.z (t.sub.map aT))),(14,ai t.sub.length),(15,ai k)],
     [.box ((aC t).map .p),.box [.p (.int .u8 0),ai 0,.p (.int .u64 0),.p (.str ⟨#[]⟩),ai 0,.p .nils],.arr k 6 false (((t.sub.take k).map f).map aT)]⟩)
   (.exit 0,⟨[(1,.ref 0 0),(2,.ref 1 0),(3,.arr 2 t.sub.length 0 t.sub.length),(13,.p (fg t.z (t.sub.map aT))),(14,ai t.sub.length),(15,ai t.sub.length)],
     [.box ((aC t).map .p),.box [.p (.int .u8 0),ai 0,.p (.int .u64 0),.p (.str ⟨#[]⟩),ai 0,.p .nils],.arr t.sub.length 6 false ((t.sub.map f).map aT)]⟩) (by omega) (by simp -implicitDefEqProofs[aa]) (by
     intro k h K
     have w1:=aA h (by omega)
     obtain⟨x,hx,_,hm⟩:=ay h
     have bI:=hf x hm
     have b1:(k+1)*72≤1099511627776:=by omega
     have b2:k+1≤1099511627776:=by omega
     have e:(t.sub.take (k+1)).map f=(t.sub.take k).map f++[f x]:=by
      rw[List.take_succ_eq_append_getElem h,hx h];simp
     rw[e]
     have hlen:((t.sub.take k).map f).length=k:=by simp;omega
     generalize (t.sub.take k).map f=A at*
     simp -implicitDefEqProofs[aa,h,hx,bX t.z h,bI,w1,b1,b2,hlen]
     try rfl) (by simp -implicitDefEqProofs[aa])]
  simp -implicitDefEqProofs[aa,ae t,key]
theorem LN(t:Tr)(La:List (Bool×Tr)):(La.findIdx? (fun o=>o.1)=none∧pick t La=t)∨∃i:Nat,La.findIdx? (fun o=>o.1)=some i∧pick t La=(nth La (i:Int)).2:=by
 induction La with
 |nil=>exact Or.inl ⟨rfl,rfl⟩
 |cons a l ih=>
  obtain⟨c,o⟩:=a
  cases c with
  |true=>exact Or.inr ⟨0,rfl,rfl⟩
  |false=>
   rcases ih with⟨e1,e2⟩|⟨i,e1,e2⟩
   ·exact Or.inl ⟨by simpa using e1,by simpa [pick] using e2⟩
   ·refine Or.inr ⟨i+1,by simp[List.findIdx?_cons,e1], ?_⟩
    simp only[pick]
    simp[e2,nth]
theorem P'(f:Nat)(c:List PV):(PV.fn f c).cells=[PV.fn f c]:=rfl
theorem Tp(N:Nat)(hN:2000≤N)(t:Tr)(f:Tr→Tr)(C:List PV)(La:List (Bool×Tr))(hl:t.sub.length≤1000)(hLa:La.length≤10)(hC:C.length=La.length)
  (hf:∀x∈t.sub,R (N-1) 172 [.agg ((aC x).map .p)] []=some (.agg ((aC (f x)).map .p),[]))
  (key:R (N-1) 190 [.agg ((aC (az t f)).map .p)] []=some (.tup [.agg ((aC (az t f)).map .p),ab false],[]))
  (hr:R (N-1) 191 [.p (.int .u8 t.kind)] []=some (.p (.sl C),[]))
  (yc:∀k (h:k<C.length),∃o,nth La (k:Int)=o∧dv (N-1) (az t f) C[k] o):
  R N 172 [.agg ((aC t).map .p)] []=some (.agg ((aC (pick (az t f) La)).map .p),[]):=by
  have aa:rows 172=_:=GH.eq_1
  obtain⟨n,rfl⟩:=up N
  rw[aE 172 Tryz.func172 rfl rfl]
  simp only[Nat.add_sub_cancel] at*
  have e0:(aC (az t f)).map AV.p=[.p (.int .u8 t.kind),ai t.width,.p (.int .u64 t.bits),.p (.str t.name),ai t.low,.p (.sl ((t.sub.map f).map aT))]:=by
   unfold az;rw[bA];rfl
  unfold dv at yc
  rw[e0] at key yc
  simp -implicitDefEqProofs[aa] at key
  simp -implicitDefEqProofs[aa]
  rw[av t.sub.length (fun k=>⟨[(1,.ref 0 0),(2,.ref 1 0),(3,.arr 2 k 0 k),(13,.p (fg t.z (t.sub.map aT))),(14,ai t.sub.length),(15,ai k)],
     [.box ((aC t).map .p),.box [.p (.int .u8 0),ai 0,.p (.int .u64 0),.p (.str ⟨#[]⟩),ai 0,.p .nils],.arr k 6 false (((t.sub.take k).map f).map aT)]⟩)
   (.exit 0,⟨[(1,.ref 0 0),(2,.ref 1 0),(3,.arr 2 t.sub.length 0 t.sub.length),(13,.p (fg t.z (t.sub.map aT))),(14,ai t.sub.length),(15,ai t.sub.length)],
     [.box ((aC t).map .p),.box [.p (.int .u8 0),ai 0,.p (.int .u64 0),.p (.str ⟨#[]⟩),ai 0,.p .nils],.arr t.sub.length 6 false ((t.sub.map f).map aT)]⟩) (by omega) (by simp -implicitDefEqProofs[aa]) (by
     intro k h K
     have w1:=aA h (by omega)
     obtain⟨x,hx,_,hm⟩:=ay h
     have bI:=hf x hm
     have b1:(k+1)*72≤1099511627776:=by omega
     have b2:k+1≤1099511627776:=by omega
     have e:(t.sub.take (k+1)).map f=(t.sub.take k).map f++[f x]:=by
      rw[List.take_succ_eq_append_getElem h,hx h];simp
     rw[e]
     have hlen:((t.sub.take k).map f).length=k:=by simp;omega
     generalize (t.sub.take k).map f=A at*
     simp -implicitDefEqProofs[aa,h,hx,bX t.z h,bI,w1,b1,b2,hlen]
     try rfl) (by simp -implicitDefEqProofs[aa])]
  simp -implicitDefEqProofs[aa,ae t,key,hr]
  rw[aJ La (fun o=>o.1) (fun k=>⟨[(1,.ref 0 0),(2,.ref 1 0),(36,.p (.sl C)),(37,ai C.length),(38,ai k)],[.box [.p (.int .u8 t.kind),ai t.width,.p (.int .u64 t.bits),.p (.str t.name),ai t.low,.arr 2 t.sub.length 0 t.sub.length],.box [.p (.int .u8 0),ai 0,.p (.int .u64 0),.p (.str ⟨#[]⟩),ai 0,.p .nils],.arr t.sub.length 6 true (t.sub.map (aT∘f)),.box [.p (.int .u8 t.kind),ai t.width,.p (.int .u64 t.bits),.p (.str t.name),ai t.low,.p (.sl (t.sub.map (aT∘f)))]]⟩)
   (fun k=>(.ret,⟨[(1,.ref 0 0),(2,.ref 1 0),(36,.p (.sl C)),(37,ai C.length),(38,ai k)],[.box [.p (.int .u8 t.kind),ai t.width,.p (.int .u64 t.bits),.p (.str t.name),ai t.low,.arr 2 t.sub.length 0 t.sub.length],.box ((aC (nth La (k:Int)).2).map .p),.arr t.sub.length 6 true (t.sub.map (aT∘f)),.box [.p (.int .u8 t.kind),ai t.width,.p (.int .u64 t.bits),.p (.str t.name),ai t.low,.p (.sl (t.sub.map (aT∘f)))]]⟩))
   (.exit 2,⟨[(1,.ref 0 0),(2,.ref 1 0),(36,.p (.sl C)),(37,ai C.length),(38,ai La.length)],[.box [.p (.int .u8 t.kind),ai t.width,.p (.int .u64 t.bits),.p (.str t.name),ai t.low,.arr 2 t.sub.length 0 t.sub.length],.box [.p (.int .u8 0),ai 0,.p (.int .u64 0),.p (.str ⟨#[]⟩),ai 0,.p .nils],.arr t.sub.length 6 true (t.sub.map (aT∘f)),.box [.p (.int .u8 t.kind),ai t.width,.p (.int .u64 t.bits),.p (.str t.name),ai t.low,.p (.sl (t.sub.map (aT∘f)))]]⟩) (by omega) (by simp -implicitDefEqProofs[aa]) (by
     intro k x h hx tt _ K
     have h':k<C.length:=by omega
     have w1:=aA h (by omega)
     obtain⟨o,ho,fn,bx,c1,c2,c3,c4⟩:=yc k h'
     simp at c2
     rw[tt] at ho
     subst ho
     rw[tt]
     obtain⟨x1,x2⟩:=x
     simp only at c4
     rw[ae x2] at c4 ⊢
     rcases c3 with rfl|⟨a,rfl⟩|⟨a,b,rfl⟩<;>cases x1<;>
     simp -implicitDefEqProofs[aa,h,h',hC,w1,c1,c2,P'] at c4 ⊢<;>simp -implicitDefEqProofs[aa,c4,w1]) (by simp -implicitDefEqProofs[aa,hC])]
  rcases LN (az t f) La with⟨e1,e2⟩|⟨i,e1,e2⟩
  ·rw[e1,e2]
   simp -implicitDefEqProofs[aa,e0]
  ·rw[e1,e2]
   have e3:=ae (nth La (i:Int)).2
   rw[e3]
   simp -implicitDefEqProofs[aa,e3]
theorem To(N:Nat)(hN:2000≤N)(t:Tr)(f:Tr→Tr)(hl:t.sub.length≤1000)
  (hf:∀x∈t.sub,R (N-1) 172 [.agg ((aC x).map .p)] []=some (.agg ((aC (f x)).map .p),[]))
  (key:R (N-1) 190 [.agg ((aC (az t f)).map .p)] []=some (.tup [.agg ((aC (az t f)).map .p),ab false],[]))
  (hr:R (N-1) 191 [.p (.int .u8 t.kind)] []=some (.p .nils,[])):
  R N 172 [.agg ((aC t).map .p)] []=some (.agg ((aC (az t f)).map .p),[]):=by
  have aa:rows 172=_:=GH.eq_1
  obtain⟨n,rfl⟩:=up N
  rw[aE 172 Tryz.func172 rfl rfl]
  simp only[Nat.add_sub_cancel] at*
  have e0:(aC (az t f)).map AV.p=[.p (.int .u8 t.kind),ai t.width,.p (.int .u64 t.bits),.p (.str t.name),ai t.low,.p (.sl ((t.sub.map f).map aT))]:=by
   unfold az;rw[bA];rfl
  rw[e0] at key
  simp -implicitDefEqProofs[aa] at key
  simp -implicitDefEqProofs[aa]
  rw[av t.sub.length (fun k=>⟨[(1,.ref 0 0),(2,.ref 1 0),(3,.arr 2 k 0 k),(13,.p (fg t.z (t.sub.map aT))),(14,ai t.sub.length),(15,ai k)],
     [.box ((aC t).map .p),.box [.p (.int .u8 0),ai 0,.p (.int .u64 0),.p (.str ⟨#[]⟩),ai 0,.p .nils],.arr k 6 false (((t.sub.take k).map f).map aT)]⟩)
   (.exit 0,⟨[(1,.ref 0 0),(2,.ref 1 0),(3,.arr 2 t.sub.length 0 t.sub.length),(13,.p (fg t.z (t.sub.map aT))),(14,ai t.sub.length),(15,ai t.sub.length)],
     [.box ((aC t).map .p),.box [.p (.int .u8 0),ai 0,.p (.int .u64 0),.p (.str ⟨#[]⟩),ai 0,.p .nils],.arr t.sub.length 6 false ((t.sub.map f).map aT)]⟩) (by omega) (by simp -implicitDefEqProofs[aa]) (by
     intro k h K
     have w1:=aA h (by omega)
     obtain⟨x,hx,_,hm⟩:=ay h
     have bI:=hf x hm
     have b1:(k+1)*72≤1099511627776:=by omega
     have b2:k+1≤1099511627776:=by omega
     have e:(t.sub.take (k+1)).map f=(t.sub.take k).map f++[f x]:=by
      rw[List.take_succ_eq_append_getElem h,hx h];simp
     rw[e]
     have hlen:((t.sub.take k).map f).length=k:=by simp;omega
     generalize (t.sub.take k).map f=A at*
     simp -implicitDefEqProofs[aa,h,hx,bX t.z h,bI,w1,b1,b2,hlen]
     try rfl) (by simp -implicitDefEqProofs[aa])]
  simp -implicitDefEqProofs[aa,ae t,key,hr]
  rw[av 0 (fun k=>⟨[(1,.ref 0 0),(2,.ref 1 0),(36,.p .nils),(37,ai 0),(38,ai 0)],[.box [.p (.int .u8 t.kind),ai t.width,.p (.int .u64 t.bits),.p (.str t.name),ai t.low,.arr 2 t.sub.length 0 t.sub.length],.box [.p (.int .u8 0),ai 0,.p (.int .u64 0),.p (.str ⟨#[]⟩),ai 0,.p .nils],.arr t.sub.length 6 true (t.sub.map (aT∘f)),.box [.p (.int .u8 t.kind),ai t.width,.p (.int .u64 t.bits),.p (.str t.name),ai t.low,.p (.sl (t.sub.map (aT∘f)))]]⟩)
   (.exit 2,⟨[(1,.ref 0 0),(2,.ref 1 0),(36,.p .nils),(37,ai 0),(38,ai 0)],[.box [.p (.int .u8 t.kind),ai t.width,.p (.int .u64 t.bits),.p (.str t.name),ai t.low,.arr 2 t.sub.length 0 t.sub.length],.box [.p (.int .u8 0),ai 0,.p (.int .u64 0),.p (.str ⟨#[]⟩),ai 0,.p .nils],.arr t.sub.length 6 true (t.sub.map (aT∘f)),.box [.p (.int .u8 t.kind),ai t.width,.p (.int .u64 t.bits),.p (.str t.name),ai t.low,.p (.sl (t.sub.map (aT∘f)))]]⟩) (by omega) (by simp -implicitDefEqProofs[aa]) (by intro k h;omega) (by
  intro K
  simp -implicitDefEqProofs[aa])]
  simp -implicitDefEqProofs[aa,e0]
end Go.En.V
namespace Go.En.V
open Go.Proofs
inductive Rows(n:Nat)(t:Tr):List PV→List (Bool×Tr)→Prop
 |nil:Rows n t [] []
 |cons {c o C L}:dv n t c o→Rows n t C L→Rows n t (c::C) (o::L)
theorem OD{n:Nat}{t:Tr}{C:List PV}{L:List (Bool×Tr)}(h:Rows n t C L):C.length=L.length:=by
 induction h with
 |nil=>rfl
 |cons _ _ ih=>simp[ih]
theorem OE{n:Nat}{t:Tr}{C:List PV}{L:List (Bool×Tr)}(hr:Rows n t C L):∀k (h:k<C.length),∃o,nth L (k:Int)=o∧dv n t C[k] o:=by
 induction hr with
 |nil=>intro k h;simp at h
 | @cons c o C L hc hr ih=>
  intro k h
  cases k with
  |zero=>exact⟨o,rfl,hc⟩
  |succ k=>
   obtain⟨o',h1,h2⟩:=ih k (by simpa using h)
   exact⟨o',by rw[←h1];rfl,h2⟩
section
variable {m:Nat} {t a b:Tr} {d:Nat}
theorem mM(hs:t.sub=[a,b])(w:Int):dv (m+10) t (.fn 245 [.ptr [.fn 213 []] 0,.ptr [.int .u64 w] 0]) (bR a (nU a.width w),b):=
 ⟨_,_,rfl,rfl,Or.inr (Or.inr ⟨_,_,rfl⟩),Eo (m+9) (by omega) _ [] (Or.inl rfl) rfl t b a b w hs (Kr _ (by omega) t a b hs)⟩
theorem uJ(hs:t.sub=[a,b])(w v:Int):dv (m+10) t (.fn 245 [.ptr [.fn 250 [.ptr [.int .u64 v] 0]] 0,.ptr [.int .u64 w] 0]) (bR a (nU a.width w),bD t.width (nU t.width v)):=
 ⟨_,_,rfl,rfl,Or.inr (Or.inr ⟨_,_,rfl⟩),Eo (m+9) (by omega) _ _ (Or.inr ⟨v,rfl⟩) rfl t _ a b w hs (qO _ (by omega) t v)⟩
theorem gH(hs:t.sub=[a,b])(w:Int):dv (m+10) t (.fn 248 [.ptr [.fn 215 []] 0,.ptr [.int .u64 w] 0]) (bR b (nU b.width w),a):=
 ⟨_,_,rfl,rfl,Or.inr (Or.inr ⟨_,_,rfl⟩),Ae (m+9) (by omega) _ [] (Or.inl rfl) rfl t a a b w hs (Fc _ (by omega) t a [b] hs)⟩
theorem yH(hs:t.sub=[a,b])(w v:Int):dv (m+10) t (.fn 248 [.ptr [.fn 250 [.ptr [.int .u64 v] 0]] 0,.ptr [.int .u64 w] 0]) (bR b (nU b.width w),bD t.width (nU t.width v)):=
 ⟨_,_,rfl,rfl,Or.inr (Or.inr ⟨_,_,rfl⟩),Ae (m+9) (by omega) _ _ (Or.inr ⟨v,rfl⟩) rfl t _ a b w hs (qO _ (by omega) t v)⟩
theorem Fw(hs:t.sub=[a,b])(hd:Dp d a)(hm:2*d+1004≤m):dv (m+10) t (.fn 249 [.ptr [.fn 215 []] 0]) (aI a b,a):=
 ⟨_,_,rfl,rfl,Or.inr (Or.inl ⟨_,rfl⟩),DG (m+9) (by omega) _ [] (Or.inl rfl) rfl t a a b d hs hd (by omega) (Fc _ (by omega) t a [b] hs)⟩
theorem yG(hs:t.sub=[a,b])(hd:Dp d a)(hm:2*d+1004≤m)(v:Int):dv (m+10) t (.fn 249 [.ptr [.fn 250 [.ptr [.int .u64 v] 0]] 0]) (aI a b,bD t.width (nU t.width v)):=
 ⟨_,_,rfl,rfl,Or.inr (Or.inl ⟨_,rfl⟩),DG (m+9) (by omega) _ _ (Or.inr ⟨v,rfl⟩) rfl t _ a b d hs hd (by omega) (qO _ (by omega) t v)⟩
theorem UO(hs:t.sub=[a])(c:Tr)(r:List Tr)(ha:a.kind=t.kind→a.sub=c::r):dv (m+10) t (.fn 211 []) (decide (a.kind=t.kind),if a.kind=t.kind then c else t):=
 ⟨_,_,rfl,rfl,Or.inl rfl,N1 _ (by omega) t a c r hs ha⟩
theorem Xi(hs:t.sub=[a,b])(hw:0≤t.width∧t.width≤64):dv (m+10) t (.fn 218 []) (decide (b.kind=1)&&decide (t.width≤b.bits),bD t.width 0):=
 ⟨_,_,rfl,rfl,Or.inl rfl,adm _ (by omega) t a b hs hw⟩
theorem QD{c:Tr}(hs:t.sub=[a,b,c])(hd:Dp d b)(hm:2*d+1004≤m):dv (m+10) t (.fn 219 []) (bR a 1||(bR a 0||aI b c),if bR a 1=true then b else c):=
 ⟨_,_,rfl,rfl,Or.inl rfl,LW d _ (by omega) t a b c hs hd⟩
theorem QC(hs:t.sub=[a,b])(hb:b.kind=22→∃x r,b.sub=x::r):dv (m+10) t (.fn 220 []) (bR a 0,.mk 22 t.width 0 ⟨#[]⟩ 0 false [gF b]):=
 ⟨_,_,rfl,rfl,Or.inl rfl,Ln _ (by omega) t a b hs hb⟩
theorem JR(hs:t.sub=[a]):dv (m+10) t (.fn 221 []) (decide (a.width=t.width),a):=
 ⟨_,_,rfl,rfl,Or.inl rfl,NF _ (by omega) t a hs⟩
theorem JS(hs:t.sub=[a])(hl:a.kind=t.kind→IntKind.i64.wrap (t.low+a.low)=t.low+a.low):dv (m+10) t (.fn 222 []) (decide (a.kind=t.kind),if a.kind=t.kind then .mk t.kind t.width t.bits t.name (t.low+a.low) a.z a.sub else t):=
 ⟨_,_,rfl,rfl,Or.inl rfl,Px _ (by omega) t a hs hl⟩
end
theorem cx{w:Int}(h1:1≤w)(h2:w≤64):nU w 0=0:=by
 have:=B0 h1 h2
 unfold nU;rw[if_neg (by omega)]
theorem cw{w:Int}(h1:1≤w)(h2:w≤64):nU w 1=1:=by
 have:=B0 h1 h2
 unfold nU;rw[if_neg (by omega)]
theorem TQ{w:Int}(h1:1≤w)(h2:w≤64):br w≤18446744073709551615:=by
 obtain⟨w,rfl⟩:∃n:Nat,w=n:=⟨w.toNat,by omega⟩
 rw[qi (by omega) (by omega)]
 have:2^w≤2^64:=Nat.pow_le_pow_right (by decide) (by omega)
 omega
theorem cu{w:Int}(h1:1≤w)(h2:w≤64):nU w 18446744073709551615=br w:=by
 have:=TQ h1 h2
 unfold nU;split<;>omega
theorem cP(w v:Int):bh (bD w v)=kP w v:=rfl
theorem IY{b:Tr}(hb:b.kind=22→∃x r,b.sub=x::r):gF (bh b)=bh (gF b):=by
 unfold gF
 rw[aM,fo]
 split
 ·rename_i h
  obtain⟨x,r,e⟩:=hb h
  rw[e];rfl
 ·rfl
def iL(n:Nat)(t:Tr):Prop:=(R n 191 [.p (.int .u8 t.kind)] []=some (.p .nils,[])∧fp (bh t)=[])∨
 ∃C La,R n 191 [.p (.int .u8 t.kind)] []=some (.p (.sl C),[])∧La.length≤10∧Rows n t C La∧lu La (fp (bh t))
theorem Ac(m d:Nat)(k w:Int)(z:Bool)(x y:Tr)(w1:1≤w)(w2:w≤64)(x1:1≤x.width)(x2:x.width≤64)(y1:1≤y.width)(y2:y.width≤64)(k1:5≤k)(k2:k≤18)(hd:Dp d x)(hm:2*d+1004≤m)(Rt:k≤15→x.width=w∧y.width=w):iL (m+10) (.mk k w 0 ⟨#[]⟩ 0 z [x,y]):=by
 have hk:k=5∨k=6∨k=7∨k=8∨k=9∨k=10∨k=11∨k=12∨k=13∨k=14∨k=15∨k=16∨k=17∨k=18:=by omega
 have hw:0≤w∧w≤64:=⟨by omega,w2⟩
 rcases hk with rfl|rfl|rfl|rfl|rfl|rfl|rfl|rfl|rfl|rfl|rfl|rfl|rfl|rfl
 ·have hs:Tr.sub (.mk 5 w 0 ⟨#[]⟩ 0 z [x,y])=[x,y]:=rfl
  refine Or.inr ⟨_,_,Ky (m+5), ?_,.cons (mM hs 0) (.cons (gH hs 0) (.nil)), ?_⟩
  ·simp
  ·simp only[lu,fp,aM,aL,bH,bZ,cd,bL,cP,bh,qc,aZ,bS,aq,cr,cL,dC,fE,cx w1 w2,cw w1 w2,cu w1 w2,cx x1 x2,cw x1 x2,cu x1 x2,cx y1 y2,cw y1 y2,cu y1 y2,reduceIte,Int.reduceEq,or_self,or_false,false_or,or_true,true_or,and_self,and_true,true_and,implies_true]
 ·have hs:Tr.sub (.mk 6 w 0 ⟨#[]⟩ 0 z [x,y])=[x,y]:=rfl
  refine Or.inr ⟨_,_,Kx (m+5), ?_,.cons (gH hs 0) (.cons (yG hs hd hm 0) (.nil)), ?_⟩
  ·simp
  ·simp only[lu,fp,aM,aL,bH,bZ,cd,bL,cP,bh,qc,aZ,bS,aq,cr,cL,dC,fE,cx w1 w2,cw w1 w2,cu w1 w2,cx x1 x2,cw x1 x2,cu x1 x2,cx y1 y2,cw y1 y2,cu y1 y2,reduceIte,Int.reduceEq,or_self,or_false,false_or,or_true,true_or,and_self,and_true,true_and,implies_true]
 ·have hs:Tr.sub (.mk 7 w 0 ⟨#[]⟩ 0 z [x,y])=[x,y]:=rfl
  refine Or.inr ⟨_,_,Kw (m+5), ?_,.cons (uJ hs 0 0) (.cons (yH hs 0 0) (.cons (mM hs 1) (.cons (gH hs 1) (.nil)))), ?_⟩
  ·simp
  ·simp only[lu,fp,aM,aL,bH,bZ,cd,bL,cP,bh,qc,aZ,bS,aq,cr,cL,dC,fE,cx w1 w2,cw w1 w2,cu w1 w2,cx x1 x2,cw x1 x2,cu x1 x2,cx y1 y2,cw y1 y2,cu y1 y2,reduceIte,Int.reduceEq,or_self,or_false,false_or,or_true,true_or,and_self,and_true,true_and,implies_true]
 ·have hs:Tr.sub (.mk 8 w 0 ⟨#[]⟩ 0 z [x,y])=[x,y]:=rfl
  refine Or.inr ⟨_,_,Kv (m+5), ?_,.cons (uJ hs 0 0) (.cons (yH hs 0 0) (.cons (mM hs 18446744073709551615) (.cons (gH hs 18446744073709551615) (.cons (Fw hs hd hm) (.nil))))), ?_⟩
  ·simp
  ·simp only[lu,fp,aM,aL,bH,bZ,cd,bL,cP,bh,qc,aZ,bS,aq,cr,cL,dC,fE,cx w1 w2,cw w1 w2,cu w1 w2,cx x1 x2,cw x1 x2,cu x1 x2,cx y1 y2,cw y1 y2,cu y1 y2,reduceIte,Int.reduceEq,or_self,or_false,false_or,or_true,true_or,and_self,and_true,true_and,implies_true]
   rw[(Rt (by decide)).1,(Rt (by decide)).2];exact⟨rfl,rfl⟩
 ·have hs:Tr.sub (.mk 9 w 0 ⟨#[]⟩ 0 z [x,y])=[x,y]:=rfl
  refine Or.inr ⟨_,_,Ku (m+5), ?_,.cons (uJ hs 18446744073709551615 18446744073709551615) (.cons (yH hs 18446744073709551615 18446744073709551615) (.cons (mM hs 0) (.cons (gH hs 0) (.cons (Fw hs hd hm) (.nil))))), ?_⟩
  ·simp
  ·simp only[lu,fp,aM,aL,bH,bZ,cd,bL,cP,bh,qc,aZ,bS,aq,cr,cL,dC,fE,cx w1 w2,cw w1 w2,cu w1 w2,cx x1 x2,cw x1 x2,cu x1 x2,cx y1 y2,cw y1 y2,cu y1 y2,reduceIte,Int.reduceEq,or_self,or_false,false_or,or_true,true_or,and_self,and_true,true_and,implies_true]
   rw[(Rt (by decide)).1,(Rt (by decide)).2];exact⟨rfl,rfl⟩
 ·have hs:Tr.sub (.mk 10 w 0 ⟨#[]⟩ 0 z [x,y])=[x,y]:=rfl
  refine Or.inr ⟨_,_,Hg (m+5), ?_,.cons (mM hs 0) (.cons (gH hs 0) (.cons (yG hs hd hm 0) (.nil))), ?_⟩
  ·simp
  ·simp only[lu,fp,aM,aL,bH,bZ,cd,bL,cP,bh,qc,aZ,bS,aq,cr,cL,dC,fE,cx w1 w2,cw w1 w2,cu w1 w2,cx x1 x2,cw x1 x2,cu x1 x2,cx y1 y2,cw y1 y2,cu y1 y2,reduceIte,Int.reduceEq,or_self,or_false,false_or,or_true,true_or,and_self,and_true,true_and,implies_true]
 ·have hs:Tr.sub (.mk 11 w 0 ⟨#[]⟩ 0 z [x,y])=[x,y]:=rfl
  refine Or.inr ⟨_,_,Hf (m+5), ?_,.cons (gH hs 0) (.cons (Xi hs hw) (.cons (uJ hs 0 0) (.nil))), ?_⟩
  ·simp
  ·simp only[lu,fp,aM,aL,bH,bZ,cd,bL,cP,bh,qc,aZ,bS,aq,cr,cL,dC,fE,cx w1 w2,cw w1 w2,cu w1 w2,cx x1 x2,cw x1 x2,cu x1 x2,cx y1 y2,cw y1 y2,cu y1 y2,reduceIte,Int.reduceEq,or_self,or_false,false_or,or_true,true_or,and_self,and_true,true_and,implies_true]
   rfl
 ·have hs:Tr.sub (.mk 12 w 0 ⟨#[]⟩ 0 z [x,y])=[x,y]:=rfl
  refine Or.inr ⟨_,_,He (m+5), ?_,.cons (gH hs 0) (.cons (Xi hs hw) (.cons (uJ hs 0 0) (.nil))), ?_⟩
  ·simp
  ·simp only[lu,fp,aM,aL,bH,bZ,cd,bL,cP,bh,qc,aZ,bS,aq,cr,cL,dC,fE,cx w1 w2,cw w1 w2,cu w1 w2,cx x1 x2,cw x1 x2,cu x1 x2,cx y1 y2,cw y1 y2,cu y1 y2,reduceIte,Int.reduceEq,or_self,or_false,false_or,or_true,true_or,and_self,and_true,true_and,implies_true]
   rfl
 ·have hs:Tr.sub (.mk 13 w 0 ⟨#[]⟩ 0 z [x,y])=[x,y]:=rfl
  refine Or.inr ⟨_,_,Hd (m+5), ?_,.cons (gH hs 0) (.cons (uJ hs 0 0) (.nil)), ?_⟩
  ·simp
  ·simp only[lu,fp,aM,aL,bH,bZ,cd,bL,cP,bh,qc,aZ,bS,aq,cr,cL,dC,fE,cx w1 w2,cw w1 w2,cu w1 w2,cx x1 x2,cw x1 x2,cu x1 x2,cx y1 y2,cw y1 y2,cu y1 y2,reduceIte,Int.reduceEq,or_self,or_false,false_or,or_true,true_or,and_self,and_true,true_and,implies_true]
 ·have hs:Tr.sub (.mk 14 w 0 ⟨#[]⟩ 0 z [x,y])=[x,y]:=rfl
  refine Or.inr ⟨_,_,Hc (m+5), ?_,.cons (gH hs 1) (.nil), ?_⟩
  ·simp
  ·simp only[lu,fp,aM,aL,bH,bZ,cd,bL,cP,bh,qc,aZ,bS,aq,cr,cL,dC,fE,cx w1 w2,cw w1 w2,cu w1 w2,cx x1 x2,cw x1 x2,cu x1 x2,cx y1 y2,cw y1 y2,cu y1 y2,reduceIte,Int.reduceEq,or_self,or_false,false_or,or_true,true_or,and_self,and_true,true_and,implies_true]
 ·have hs:Tr.sub (.mk 15 w 0 ⟨#[]⟩ 0 z [x,y])=[x,y]:=rfl
  refine Or.inr ⟨_,_,Hb (m+5), ?_,.cons (yH hs 1 0) (.nil), ?_⟩
  ·simp
  ·simp only[lu,fp,aM,aL,bH,bZ,cd,bL,cP,bh,qc,aZ,bS,aq,cr,cL,dC,fE,cx w1 w2,cw w1 w2,cu w1 w2,cx x1 x2,cw x1 x2,cu x1 x2,cx y1 y2,cw y1 y2,cu y1 y2,reduceIte,Int.reduceEq,or_self,or_false,false_or,or_true,true_or,and_self,and_true,true_and,implies_true]
 ·have hs:Tr.sub (.mk 16 w 0 ⟨#[]⟩ 0 z [x,y])=[x,y]:=rfl
  refine Or.inr ⟨_,_,Ha (m+5), ?_,.cons (yG hs hd hm 1) (.nil), ?_⟩
  ·simp
  ·simp only[lu,fp,aM,aL,bH,bZ,cd,bL,cP,bh,qc,aZ,bS,aq,cr,cL,dC,fE,cx w1 w2,cw w1 w2,cu w1 w2,cx x1 x2,cw x1 x2,cu x1 x2,cx y1 y2,cw y1 y2,cu y1 y2,reduceIte,Int.reduceEq,or_self,or_false,false_or,or_true,true_or,and_self,and_true,true_and,implies_true]
 ·have hs:Tr.sub (.mk 17 w 0 ⟨#[]⟩ 0 z [x,y])=[x,y]:=rfl
  refine Or.inr ⟨_,_,G' (m+5), ?_,.cons (yG hs hd hm 0) (.cons (yH hs 0 0) (.nil)), ?_⟩
  ·simp
  ·simp only[lu,fp,aM,aL,bH,bZ,cd,bL,cP,bh,qc,aZ,bS,aq,cr,cL,dC,fE,cx w1 w2,cw w1 w2,cu w1 w2,cx x1 x2,cw x1 x2,cu x1 x2,cx y1 y2,cw y1 y2,cu y1 y2,reduceIte,Int.reduceEq,or_self,or_false,false_or,or_true,true_or,and_self,and_true,true_and,implies_true]
 ·have hs:Tr.sub (.mk 18 w 0 ⟨#[]⟩ 0 z [x,y])=[x,y]:=rfl
  refine Or.inr ⟨_,_,G_ (m+5), ?_,.cons (yG hs hd hm 0) (.nil), ?_⟩
  ·simp
  ·simp only[lu,fp,aM,aL,bH,bZ,cd,bL,cP,bh,qc,aZ,bS,aq,cr,cL,dC,fE,cx w1 w2,cw w1 w2,cu w1 w2,cx x1 x2,cw x1 x2,cu x1 x2,cx y1 y2,cw y1 y2,cu y1 y2,reduceIte,Int.reduceEq,or_self,or_false,false_or,or_true,true_or,and_self,and_true,true_and,implies_true]
theorem OC(m d:Nat)(t:Tr)(hn:NC t)(hs:∀x∈t.sub,jl x)(hd:∀x∈t.sub,Dp d x)(hm:2*d+1004≤m):iL (m+10) t:=by
 have e0:t.sub.map bh=(bh t).sub:=(fo t).symm
 cases hn with
 |con=>exact Or.inl ⟨KC (m+5),rfl⟩
 |var=>exact Or.inl ⟨KB (m+5),rfl⟩
 |un k w z x h1 h2 hk hx=>
  have x1:=hs x (by simp[aq])
  have ex:∃c r,x.kind=k→x.sub=c::r:=by
   by_cases h:x.kind=k
   ·obtain⟨c,hc,_⟩:=x1.nc.un_inv (by omega)
    exact⟨c,[],fun _=>hc⟩
   ·exact⟨default,[],fun h'=>absurd h' h⟩
  obtain⟨c,r,hc⟩:=ex
  have ec:x.kind=k→(nth (x.sub.map bh) 0)=bh c:=fun h=>by rw[hc h];rfl
  have PH:fp (bh (.mk k w 0 ⟨#[]⟩ 0 z [x]))=[(decide (x.kind=k),nth (x.sub.map bh) 0)]:=by
   rcases hk with rfl|rfl<;>(rw[←fo,←aM x];rfl)
  have hg:R (m+10) 191 [.p (.int .u8 k)] []=some (.p (.sl [.fn 211 []]),[]):=by
   rcases hk with rfl|rfl
   ·exact KA (m+5)
   ·exact Kz (m+5)
  refine Or.inr ⟨_,_,hg, ?_,.cons (UO (t:=.mk k w 0 ⟨#[]⟩ 0 z [x]) rfl c r hc) .nil, ?_⟩
  ·simp
  ·rw[PH]
   refine⟨⟨rfl,fun h=> ?_⟩,trivial⟩
   have h:x.kind=k:=of_decide_eq_true h
   show bh (if x.kind=k then c else _)=nth (x.sub.map bh) 0
   rw[if_pos h,ec h]
 |bin k w z x y h1 h2 k1 k2 hx hy=>
  have x1:=(hs x (by simp[aq])).wide
  have y1:=(hs y (by simp[aq])).wide
  exact Ac m d k w z x y h1 h2 x1.1 x1.2 y1.1 y1.2 k1 (by omega) (hd x (by simp[aq])) hm (fun _=>⟨hx,hy⟩)
 |cmp k z x y k1 k2 hy=>
  have x1:=(hs x (by simp[aq])).wide
  have y1:=(hs y (by simp[aq])).wide
  exact Ac m d k 1 z x y (by omega) (by omega) x1.1 x1.2 y1.1 y1.2 (by omega) k2 (hd x (by simp[aq])) hm (fun h=>by omega)
 |ite w z x y v h1 h2 hx hy hv=>
  refine Or.inr ⟨_,_,G9 (m+5), ?_,.cons (QD (t:=.mk 19 w 0 ⟨#[]⟩ 0 z [x,y,v]) rfl (hd y (by simp[aq])) hm) .nil, ?_⟩
  ·simp
  ·have e:fp (bh (.mk 19 w 0 ⟨#[]⟩ 0 z [x,y,v]))=[(bR (bh x) 1||(bR (bh x) 0||aI (bh y) (bh v)),if bR (bh x) 1=true then bh y else bh v)]:=rfl
   rw[e,cd,cd,bL]
   refine⟨⟨rfl,fun _=> ?_⟩,trivial⟩
   show bh (if bR x 1=true then y else v)=_
   split<;>rfl
 |cat w z x y h1 h2 hx hy hw=>
  have y1:=hs y (by simp[aq])
  have hb:y.kind=22→∃x r,y.sub=x::r:=fun h=>by
   obtain⟨c,hc,_⟩:=y1.nc.wid_inv (Or.inl h)
   exact⟨c,[],hc⟩
  refine Or.inr ⟨_,_,G8 (m+5), ?_,.cons (QC (t:=.mk 20 w 0 ⟨#[]⟩ 0 z [x,y]) rfl hb) .nil, ?_⟩
  ·simp
  ·have e:fp (bh (.mk 20 w 0 ⟨#[]⟩ 0 z [x,y]))=[(bR (bh x) 0,.mk 22 w 0 ⟨#[]⟩ 0 false [gF (bh y)])]:=rfl
   rw[e,IY hb,cd]
   exact⟨⟨rfl,fun _=>rfl⟩,trivial⟩
 |ext w l z x h1 h2 hl hx tt hw=>
  have x1:=hs x (by simp[aq])
  have wo:x.kind=21→IntKind.i64.wrap (l+x.low)=l+x.low:=fun h=>by
   obtain⟨q,hq,h3,h4,h5,h6⟩:=x1.nc.ext_inv h
   have:=x1.wide
   exact wrap64 (by omega) (by omega)
  refine Or.inr ⟨_,_,G7 (m+5), ?_,.cons (JR (t:=.mk 21 w 0 ⟨#[]⟩ l z [x]) rfl) (.cons (JS rfl wo) .nil), ?_⟩
  ·simp
  ·have e:fp (bh (.mk 21 w 0 ⟨#[]⟩ l z [x]))=[(decide ((bh x).width=w),bh x),(decide ((bh x).kind=21),.mk 21 w 0 ⟨#[]⟩ (l+(bh x).low) false (bh x).sub)]:=rfl
   rw[e,aL,aM,bZ,fo]
   refine⟨⟨rfl,fun _=>rfl⟩,⟨rfl,fun h=> ?_⟩,trivial⟩
   have h:x.kind=21:=of_decide_eq_true h
   show bh (if x.kind=21 then _ else _)=_
   rw[if_pos h,jI]
   rfl
 |wid k w z x h1 h2 hk hx=>
  have x1:=hs x (by simp[aq])
  have wo:x.kind=k→IntKind.i64.wrap (0+x.low)=0+x.low:=fun h=>by
   obtain⟨q,hq,h3,h4⟩:=x1.nc.wid_inv (by omega)
   rw[h4];rfl
  have hg:R (m+10) 191 [.p (.int .u8 k)] []=some (.p (.sl [.fn 221 [],.fn 222 []]),[]):=by
   rcases hk with rfl|rfl
   ·exact G6 (m+5)
   ·exact G5 (m+5)
  refine Or.inr ⟨_,_,hg, ?_,.cons (JR (t:=.mk k w 0 ⟨#[]⟩ 0 z [x]) rfl) (.cons (JS rfl wo) .nil), ?_⟩
  ·simp
  ·have e:fp (bh (.mk k w 0 ⟨#[]⟩ 0 z [x]))=[(decide ((bh x).width=w),bh x),(decide ((bh x).kind=k),.mk k w 0 ⟨#[]⟩ (0+(bh x).low) false (bh x).sub)]:=by
    rcases hk with rfl|rfl<;>rfl
   rw[e,aL,aM,bZ,fo]
   refine⟨⟨rfl,fun _=>rfl⟩,⟨rfl,fun h=> ?_⟩,trivial⟩
   have h:x.kind=k:=of_decide_eq_true h
   show bh (if x.kind=k then _ else _)=_
   rw[if_pos h,jI]
   rfl
 |ld=>exact Or.inl ⟨G4 (m+5),rfl⟩
theorem Fo:∀(d:Nat) (t:Tr),Dp d (bh t)→Dp d t
 |0,t,h=>h.elim
 |d+1,t,h=>by
  obtain⟨h1,h2⟩:=h
  rw[fo] at h1 h2
  exact⟨by simpa using h1,fun x hx=>Fo d x (h2 _ (List.mem_map.2 ⟨x,hx,rfl⟩))⟩
theorem eh{t:Tr}(h:ez t=false):stepT t=pick t (fp t):=by unfold stepT;rw[h];rfl
theorem DA{t:Tr}(h:ez t=true):stepT t=kP t.width (bY t):=by unfold stepT;rw[if_pos h]
theorem LX{t:Tr}(hn:NC t)(hc:Gp t)(hs:∀x∈t.sub,jl x):cN t=0:=by
 have hl:=hn.few
 have e1:bM t.sub≤t.sub.length∧dt t.sub≤1:=by
  have h2:=hc.2
  generalize t.sub=l at h2
  induction l with
  |nil=>simp[bM,dt]
  |cons x l ih=>
   have i:=ih fun y hy=>h2 y (by simp[hy])
   have hx:=(h2 x (by simp)).2
   have a:=bz x
   have b:=eT x
   rw[hx] at a b
   simp only[bM,dt] at a b
   simp only[bM,dt,List.length_cons]
   omega
 have hb:yS t=false:=by
  unfold yS
  have a:=bz t
  have b:=eT t
  have c1:¬((400:Int)<aF t):=by omega
  have c2:¬((60:Int)<eg t):=by omega
  simp[c1,c2]
 have Ch:qP t=true:=by
  unfold qP
  have w:∀x∈t.sub,1≤x.width∧x.width≤64:=fun x hx=>(hs x hx).wide
  have h:jH gi true t=(true,true):=by
   apply IU
   ·unfold gi;rw[if_pos (BV hn w)]
   ·intro x hx
    have kV:=hs x hx
    have tt:=(hc.2 x hx).2
    refine⟨?_,tt⟩
    unfold gi
    rw[if_pos (BV kV.nc (by rw[tt];simp))]
  rw[h]
 unfold cN
 rw[hb,Ch,Qv hc]
 rfl
theorem KK:∀(d N:Nat) (t:Tr),jl t→Dp d t→d≤1000→aF t≤1000000→2*d+6000≤N→∃r,R N 172 [.agg ((aC t).map .p)] []=some (.agg ((aC r).map .p),[])∧bh r=lx t:=by
 intro d
 induction d with
 |zero=>intro N t _ h;exact h.elim
 |succ d ih=>
  intro N t hw ht hd gK hN
  have hl:=ht.1
  have Sb:=hw.nc.few
  obtain⟨f,hf⟩:=skolem t.sub (fun x y=>R (N-1) 172 [.agg ((aC x).map .p)] []=some (.agg ((aC y).map .p),[])∧bh y=lx x) (fun x hx=>ih (N-1) x (hw.sub x hx) (ht.2 x hx) (by omega) (by have:=kG hx;have:=bz t;omega) (by omega))
  obtain⟨m1,m2,m3,m4,m5,m6⟩:=Wn hw
  have MF:bh (az t f)=lV t:=by
   unfold az lV
   rw[jI]
   simp only[aZ,bS,fG,g_,cr,aq,List.map_map]
   congr 1
   apply List.map_congr_left
   intro x hx
   exact(hf x hx).2
  have hn:NC (az t f):=N3 (by rw[MF];exact m1)
  have dZ:∀x∈(az t f).sub,jl x∧Dp d x:=by
   intro y hy
   obtain⟨x,hx,rfl⟩:=List.mem_map.1 (show y∈t.sub.map f from hy)
   have g:=Ag (hw.sub x hx)
   rw[←(hf x hx).2] at g
   refine⟨VP _ g.wf,Fo d _ ?_⟩
   have q:=wF _ g.wf
   have hdx:eg x≤d:=(ht.2 x hx).dep
   exact q.mono (by have:=g.dep;omega)
  have ayf:aF (az t f)≤1000000:=by rw[←(SJ (az t f)).1,MF];omega
  have Co:Dp (d+1) (az t f):=⟨by have:=hn.few;omega,fun x hx=>(dZ x hx).2⟩
  have Vk:jl (az t f):=(iK _).2 ⟨hn,((iK t).1 hw).2.1,fun x hx=>(dZ x hx).1⟩
  have ho:=OC (N-1-10) d (az t f) hn (fun x hx=>(dZ x hx).1) (fun x hx=>(dZ x hx).2) (by omega)
  rw[show N-1-10+10=N-1 by omega] at ho
  rw[xe,←MF]
  cases hc:ez (az t f) with
  |true=>
   obtain⟨c1,c2,c3⟩:=(bV _).1 hc
   have d_:Gp (az t f):=⟨fun h=>by
    have:NC (az t f):=hn
    generalize az t f=u at*
    cases this with
    |var=>exact c2 rfl
    |un=>simp only[aZ] at h;omega
    |bin=>simp only[aZ] at h;omega
    |cmp=>simp only[aZ] at h;omega
    |wid=>simp only[aZ] at h;omega
    |con=>simp[aZ] at h
    |ite=>simp[aZ] at h
    |cat=>simp[aZ] at h
    |ext=>simp[aZ] at h
    |ld=>simp[aZ] at h,fun x hx=>by
    obtain⟨w0,b0,_,_,_,_,_,e,_⟩:=ba (dZ x hx).1 (c3 x hx)
    exact⟨c3 x hx,e⟩⟩
   have key:=Fz (N-1) (d+1) (az t f) (bY (az t f)) c1 (by have:=List.length_pos_iff.2 c2;exact this) c3 d_ Co (alo Vk) (by omega) ayf (LX hn d_ fun x hx=>(dZ x hx).1) (by omega) (fun n Nk=>SF n Nk (az t f) hn (fun x hx=>(dZ x hx).1) c3 c2 c1)
   refine⟨_,Tq N (by omega) t f _ (by omega) (fun x hx=>(hf x hx).1) key, ?_⟩
   have uy:ez (bh (az t f))=true:=by
    rw[bV,aM,fo]
    refine⟨c1,by simpa using c2,fun y hy=> ?_⟩
    obtain⟨x,hx,rfl⟩:=List.mem_map.1 hy
    rw[aM];exact c3 x hx
   rw[DA uy,rU,aL]
   rfl
  |false=>
   have Ch:(az t f).kind=24∨(az t f).sub=[]∨∃x∈(az t f).sub,x.kind≠1:=by
    by_cases q1:(az t f).kind=24
    ·exact Or.inl q1
    ·by_cases q2:(az t f).sub=[]
     ·exact Or.inr (Or.inl q2)
     ·refine Or.inr (Or.inr ?_)
      apply Classical.byContradiction
      intro h
      have:ez (az t f)=true:=(bV _).2 ⟨q1,q2,fun x hx=>Classical.byContradiction fun hk=>h ⟨x,hx,hk⟩⟩
      rw[hc] at this;exact absurd this (by simp)
   have key:=Fy (N-1) (az t f) (by omega) (by have:=hn.few;omega) Ch
   have uy:ez (bh (az t f))=false:=by
    cases h:ez (bh (az t f)) with
    |false=>rfl
    |true=>
     obtain⟨c1,c2,c3⟩:=(bV _).1 h
     rw[aM] at c1
     rw[fo] at c2 c3
     have:ez (az t f)=true:=(bV _).2 ⟨c1,by simpa using c2,fun x hx=>by rw[←aM];exact c3 _ (List.mem_map.2 ⟨x,hx,rfl⟩)⟩
     rw[hc] at this;exact absurd this (by simp)
   rw[eh uy]
   rcases ho with⟨r1,r2⟩|⟨C,La,r1,r2,r3,r4⟩
   ·refine⟨_,To N (by omega) t f (by omega) (fun x hx=>(hf x hx).1) key r1, ?_⟩
    rw[r2];rfl
   ·refine⟨_,Tp N (by omega) t f C La (by omega) (by omega) (OD r3) (fun x hx=>(hf x hx).1) key r1 (OE r3), ?_⟩
    exact cD rfl _ _ r4
end Go.En.V
namespace Go.En.V
open Go.Proofs
theorem eA(N:Nat)(hN:1≤N)(w x:Int):R N 179 [ai w,.p (.int .u64 x)] []=some (.agg ((aC (bD w x)).map .p),[]):=by
 have aa:rows 179={}:=rfl
 obtain⟨n,rfl⟩:=up N
 rw[aE 179 Tryz.func179 rfl rfl]
 simp -implicitDefEqProofs[aa,bD,bA]
theorem jK(N:Nat)(hN:1≤N)(t:Tr)(x:Int):R N 181 [.agg ((aC t).map .p),.p (.int .u64 x)] []=some (ab (bR t x),[]):=by
 have aa:rows 181={}:=rfl
 obtain⟨n,rfl⟩:=up N
 rw[aE 181 Tryz.func181 rfl rfl]
 unfold bR
 by_cases h:t.kind=1
 ·simp -implicitDefEqProofs[aa,ae t,eq_true h]
 ·simp -implicitDefEqProofs[aa,ae t,h]
theorem OS(N:Nat)(hN:1100≤N)(w:Nat)(h1:1≤w)(h2:w≤64):R N 203 [ai w] []=some (.p (.int .u64 (br w)),[]):=by
 have aa:rows 203={}:=rfl
 obtain⟨n,rfl⟩:=up N
 rw[aE 203 Tryz.func203 rfl rfl]
 have g1:=kC n (by omega) w h1 h2
 have g2:=tp n ((w:Int)-1) (by omega) (by omega)
 have e2:IntKind.i64.wrap ((w:Int)-1)=(w:Int)-1:=wrap64 (by omega) (by omega)
 have e3:((w:Int)-1).toNat=w-1:=by omega
 have hp:2^(w-1)≤2^63:=Nat.pow_le_pow_right (by decide) (by omega)
 have RA:0<2^(w-1):=Nat.pow_pos (by decide)
 have e4:(2:Int)^(w-1)=((2^(w-1):Nat):Int):=by norm_cast
 have e5:2^w=2*2^(w-1):=by rw[←Nat.pow_succ'];congr 1;omega
 rw[e3,e4] at g2
 rw[qi h1 h2,e5]
 generalize 2^(w-1)=p at*
 rw[show((p:Int) % 18446744073709551616)=p by omega] at g2
 have e6:IntKind.u64.wrap ((p:Int)-1)=(p:Int)-1:=f_ (by omega) (by omega)
 have e7:IntKind.u64.wrap ((p:Int)-1+p)=((2*p-1:Nat):Int):=by rw[f_ (by omega) (by omega)];omega
 simp -implicitDefEqProofs[aa,g1,g2,e2,e6,e7]
theorem jv(N:Nat)(hN:1200≤N)(t:Tr)(h1:1≤t.width)(h2:t.width≤64):R N 182 [.agg ((aC t).map .p)] []=some (ab (bR t (br t.width)),[]):=by
 have aa:rows 182=_:=ZN.eq_1
 obtain⟨n,rfl⟩:=up N
 rw[aE 182 Tryz.func182 rfl rfl]
 obtain⟨w,hw⟩:∃w:Nat,t.width=w:=⟨t.width.toNat,by omega⟩
 have g1:=OS n (by omega) w (by omega) (by omega)
 have g2:=jK n (by omega) t (br w)
 rw[ae t,hw] at g2
 rw[hw]
 simp -implicitDefEqProofs[aa] at g2
 simp -implicitDefEqProofs[aa,ae t,hw,g1,g2]
theorem eD(t:Tr):ez (bh t)=ez t:=by
 rw[Bool.eq_iff_iff,bV,bV,aM,fo]
 simp only[List.mem_map,forall_exists_index,and_imp,forall_apply_eq_imp_iff₂,aM,ne_eq,List.map_eq_nil_iff]
theorem B_{x:Tr}(h:jl x){v:Int}(hi:bR x v=true):bh x=kP x.width v:=by
 unfold bR at hi
 simp only[Bool.and_eq_true,decide_eq_true_eq] at hi
 obtain⟨w0,b0,e1,e2,e3,e4,e5,e6,e7,e8⟩:=ba h hi.1
 rw[jI,e6,e7,e8,hi.1,hi.2]
 rfl
theorem ru5(w:Int)(z:Bool)(x y:Tr):lu [(bR x 0,y),(bR y 0,x)] (fp (bh (.mk 5 w 0 ⟨#[]⟩ 0 z [x,y]))):=by
 simp only[lu,fp,aM,aL,bH,bZ,cd,bL,cP,bh,qc,aZ,bS,aq,cr,cL,dC,fE,reduceIte,Int.reduceEq,or_self,or_false,false_or,or_true,true_or,and_self,and_true,true_and,implies_true]
theorem ru6(w:Int)(z:Bool)(x y:Tr):lu [(bR y 0,x),(aI x y,bD w 0)] (fp (bh (.mk 6 w 0 ⟨#[]⟩ 0 z [x,y]))):=by
 simp only[lu,fp,aM,aL,bH,bZ,cd,bL,cP,bh,qc,aZ,bS,aq,cr,cL,dC,fE,reduceIte,Int.reduceEq,or_self,or_false,false_or,or_true,true_or,and_self,and_true,true_and,implies_true]
theorem ru7(w:Int)(z:Bool)(x y:Tr):lu [(bR x 0,bD w 0),(bR y 0,bD w 0),(bR x 1,y),(bR y 1,x)] (fp (bh (.mk 7 w 0 ⟨#[]⟩ 0 z [x,y]))):=by
 simp only[lu,fp,aM,aL,bH,bZ,cd,bL,cP,bh,qc,aZ,bS,aq,cr,cL,dC,fE,reduceIte,Int.reduceEq,or_self,or_false,false_or,or_true,true_or,and_self,and_true,true_and,implies_true]
theorem ru8(w:Int)(z:Bool)(x y:Tr):lu [(bR x 0,bD w 0),(bR y 0,bD w 0),(bR x (br w),y),(bR y (br w),x),(aI x y,x)] (fp (bh (.mk 8 w 0 ⟨#[]⟩ 0 z [x,y]))):=by
 simp only[lu,fp,aM,aL,bH,bZ,cd,bL,cP,bh,qc,aZ,bS,aq,cr,cL,dC,fE,reduceIte,Int.reduceEq,or_self,or_false,false_or,or_true,true_or,and_self,and_true,true_and,implies_true]
theorem ru9(w:Int)(z:Bool)(x y:Tr)(hx:jl x)(hy:jl y)(ex:x.width=w)(ey:y.width=w):lu [(bR x (br w),x),(bR y (br w),y),(bR x 0,y),(bR y 0,x),(aI x y,x)] (fp (bh (.mk 9 w 0 ⟨#[]⟩ 0 z [x,y]))):=by
 simp only[lu,fp,aM,aL,bH,bZ,cd,bL,cP,bh,qc,aZ,bS,aq,cr,cL,dC,fE,reduceIte,Int.reduceEq,or_self,or_false,false_or,or_true,true_or,and_self,and_true,true_and,implies_true]
 exact⟨fun h=>by rw[B_ hx h,ex],fun h=>by rw[B_ hy h,ey]⟩
theorem axz(w:Int)(z:Bool)(x y:Tr):lu [(bR x 0,y),(bR y 0,x),(aI x y,bD w 0)] (fp (bh (.mk 10 w 0 ⟨#[]⟩ 0 z [x,y]))):=by
 simp only[lu,fp,aM,aL,bH,bZ,cd,bL,cP,bh,qc,aZ,bS,aq,cr,cL,dC,fE,reduceIte,Int.reduceEq,or_self,or_false,false_or,or_true,true_or,and_self,and_true,true_and,implies_true]
theorem axy(w:Int)(z:Bool)(x y:Tr):lu [(bR y 0,x),(decide (y.kind=1)&&decide (w≤y.bits),bD w 0),(bR x 0,bD w 0)] (fp (bh (.mk 11 w 0 ⟨#[]⟩ 0 z [x,y]))):=by
 simp only[lu,fp,aM,aL,bH,bZ,cd,bL,cP,bh,qc,aZ,bS,aq,cr,cL,dC,fE,reduceIte,Int.reduceEq,or_self,or_false,false_or,or_true,true_or,and_self,and_true,true_and,implies_true]
theorem axx(w:Int)(z:Bool)(x y:Tr):lu [(bR y 0,x),(decide (y.kind=1)&&decide (w≤y.bits),bD w 0),(bR x 0,bD w 0)] (fp (bh (.mk 12 w 0 ⟨#[]⟩ 0 z [x,y]))):=by
 simp only[lu,fp,aM,aL,bH,bZ,cd,bL,cP,bh,qc,aZ,bS,aq,cr,cL,dC,fE,reduceIte,Int.reduceEq,or_self,or_false,false_or,or_true,true_or,and_self,and_true,true_and,implies_true]
theorem axw(w:Int)(z:Bool)(x y:Tr)(hx:jl x)(hy:jl y)(ex:x.width=w)(ey:y.width=w):lu [(bR y 0,x),(bR x 0,x)] (fp (bh (.mk 13 w 0 ⟨#[]⟩ 0 z [x,y]))):=by
 simp only[lu,fp,aM,aL,bH,bZ,cd,bL,cP,bh,qc,aZ,bS,aq,cr,cL,dC,fE,reduceIte,Int.reduceEq,or_self,or_false,false_or,or_true,true_or,and_self,and_true,true_and,implies_true]
 exact fun h=>by rw[B_ hx h,ex]
theorem axv(w:Int)(z:Bool)(x y:Tr):lu [(bR y 1,x)] (fp (bh (.mk 14 w 0 ⟨#[]⟩ 0 z [x,y]))):=by
 simp only[lu,fp,aM,aL,bH,bZ,cd,bL,cP,bh,qc,aZ,bS,aq,cr,cL,dC,fE,reduceIte,Int.reduceEq,or_self,or_false,false_or,or_true,true_or,and_self,and_true,true_and,implies_true]
theorem axu(w:Int)(z:Bool)(x y:Tr):lu [(bR y 1,bD w 0)] (fp (bh (.mk 15 w 0 ⟨#[]⟩ 0 z [x,y]))):=by
 simp only[lu,fp,aM,aL,bH,bZ,cd,bL,cP,bh,qc,aZ,bS,aq,cr,cL,dC,fE,reduceIte,Int.reduceEq,or_self,or_false,false_or,or_true,true_or,and_self,and_true,true_and,implies_true]
theorem axt(w:Int)(z:Bool)(x y:Tr):lu [(aI x y,bD w 1)] (fp (bh (.mk 16 w 0 ⟨#[]⟩ 0 z [x,y]))):=by
 simp only[lu,fp,aM,aL,bH,bZ,cd,bL,cP,bh,qc,aZ,bS,aq,cr,cL,dC,fE,reduceIte,Int.reduceEq,or_self,or_false,false_or,or_true,true_or,and_self,and_true,true_and,implies_true]
theorem axs(w:Int)(z:Bool)(x y:Tr):lu [(aI x y,bD w 0),(bR y 0,bD w 0)] (fp (bh (.mk 17 w 0 ⟨#[]⟩ 0 z [x,y]))):=by
 simp only[lu,fp,aM,aL,bH,bZ,cd,bL,cP,bh,qc,aZ,bS,aq,cr,cL,dC,fE,reduceIte,Int.reduceEq,or_self,or_false,false_or,or_true,true_or,and_self,and_true,true_and,implies_true]
theorem axr(w:Int)(z:Bool)(x y:Tr):lu [(aI x y,bD w 0)] (fp (bh (.mk 18 w 0 ⟨#[]⟩ 0 z [x,y]))):=by
 simp only[lu,fp,aM,aL,bH,bZ,cd,bL,cP,bh,qc,aZ,bS,aq,cr,cL,dC,fE,reduceIte,Int.reduceEq,or_self,or_false,false_or,or_true,true_or,and_self,and_true,true_and,implies_true]
def dA(t:Tr)(f:Tr→Tr)(k:Nat):Bool:= !decide (t.kind=24)&&((t.sub.take k).map f).all fun x=>decide (x.kind=1)
theorem IE(d N:Nat)(hN:2*d+6000≤N)(t:Tr)(f:Tr→Tr)(hl:t.sub.length≤1000)(hn:NC (az t f))(hs:∀x∈(az t f).sub,jl x∧Dp d x)
  (hf:∀x∈t.sub,R (N-1) 163 [.agg ((aC x).map .p)] []=some (.agg ((aC (f x)).map .p),[]))
  (jG:t.kind<5∨18<t.kind):
  ∃r,R N 163 [.agg ((aC t).map .p)] []=some (.agg ((aC r).map .p),[])∧bh r=stepT (bh (az t f)):=by
 have aa:rows 163=_:=Bl.eq_1
 obtain⟨n,rfl⟩:=up N
 rw[aE 163 Tryz.func163 rfl rfl]
 simp only[Nat.add_sub_cancel] at*
 simp -implicitDefEqProofs[aa]
 simp -implicitDefEqProofs[aa,qo,nw]
 rw[av t.sub.length (fun k=>⟨[(1,.ref 0 0),(2,.ref 1 0),(3,.ref 2 0),(4,ab (dA t f k)),(5,ai k)],
     [.box ((aC t).map .p),.box [.p (.int .u8 0),ai 0,.p (.int .u64 0),.p (.str ⟨#[]⟩),ai 0,.p .nils],.box [.p (.int .u8 t.kind),ai t.width,.p (.int .u64 t.bits),.p (.str t.name),ai t.low,.arr 3 k 0 k],.arr k 6 false (((t.sub.take k).map f).map aT)]⟩)
    (.exit 0,⟨[(1,.ref 0 0),(2,.ref 1 0),(3,.ref 2 0),(4,ab (dA t f t.sub.length)),(5,ai t.sub.length)],
      [.box ((aC t).map .p),.box [.p (.int .u8 0),ai 0,.p (.int .u64 0),.p (.str ⟨#[]⟩),ai 0,.p .nils],.box [.p (.int .u8 t.kind),ai t.width,.p (.int .u64 t.bits),.p (.str t.name),ai t.low,.arr 3 t.sub.length 0 t.sub.length],.arr t.sub.length 6 false ((t.sub.map f).map aT)]⟩) (by omega) (by simp -implicitDefEqProofs[aa,dA]) (by
      intro k h K
      have w1:=aA h (by omega)
      obtain⟨x,hx,_,hm⟩:=ay h
      have bI:=hf x hm
      have b1:(k+1)*72≤1099511627776:=by omega
      have b2:k+1≤1099511627776:=by omega
      have e:(t.sub.take (k+1)).map f=(t.sub.take k).map f++[f x]:=by
       rw[List.take_succ_eq_append_getElem h,hx h];simp
      have e2:dA t f (k+1)=aj (dA t f k) (decide ((f x).kind=1)):=by
       unfold dA
       rw[e,List.all_append,ak,Bool.and_assoc]
       simp
      rw[e,e2]
      have hlen:((t.sub.take k).map f).length=k:=by simp;omega
      generalize (t.sub.take k).map f=A at*
      have ya:aT (f x)=.agg [.int .u8 (f x).kind,.int .i64 (f x).width,.int .u64 (f x).bits,.str (f x).name,.int .i64 (f x).low,fg (f x).z ((f x).sub.map aT)]:=by
       rw[show aT (f x)=.agg (aC (f x)) from rfl,ae (f x)]
      have bW:((k:Int)<(k:Int)+1)=True:=by simp;omega
      cases dA t f k<;>
      simp -implicitDefEqProofs[aa,h,hx,bX t.z h,bI,w1,b1,b2,hlen,ae (f x),ya,bW]) (by simp -implicitDefEqProofs[aa])]
 have hq:(az t f).sub=t.sub.map f:=rfl
 have x8:dA t f t.sub.length=(!decide (t.kind=24)&&(t.sub.map f).all fun x=>decide (x.kind=1)):=by unfold dA;rw[List.take_length]
 by_cases h0:t.kind=24∨t.sub=[]
 ·refine⟨az t f, ?_, ?_⟩
  ·have e0:(aC (az t f)).map AV.p=[.p (.int .u8 t.kind),ai t.width,.p (.int .u64 t.bits),.p (.str t.name),ai t.low,.p (.sl ((t.sub.map f).map aT))]:=by
    unfold az;rw[bA];rfl
   rw[e0]
   rcases h0 with h0|h0
   ·by_cases h1:t.sub=[]
    ·simp -implicitDefEqProofs[aa,ae t,eq_true h0,h1]
    ·simp -implicitDefEqProofs[aa,ae t,eq_true h0,h1]
   ·simp -implicitDefEqProofs[aa,ae t,h0]
  ·rcases h0 with h0|h0
   ·have hc:ez (az t f)=false:=by
     cases h:ez (az t f) with
     |false=>rfl
     |true=>exact absurd h0 ((bV _).1 h).1
    rw[eh (by rw[eD];exact hc)]
    have e:fp (bh (az t f))=[]:=by
     unfold fp
     rw[aM,show(az t f).kind=24 from h0]
     rfl
    rw[e];rfl
   ·have hc:ez (az t f)=false:=by
     cases h:ez (az t f) with
     |false=>rfl
     |true=>exact absurd (by rw[hq,h0];rfl) ((bV _).1 h).2.1
    rw[eh (by rw[eD];exact hc)]
    have e:fp (bh (az t f))=[]:=by
     have dZ:(az t f).sub=[]:=by rw[hq,h0];rfl
     generalize az t f=u at hn dZ
     cases hn<;>first|(simp[aq] at dZ;done)|rfl
    rw[e];rfl
 have mH:¬t.kind=24:=fun h=>h0 (Or.inl h)
 have fB:¬t.sub=[]:=fun h=>h0 (Or.inr h)
 cases hc:ez (az t f) with
 |true=>
  obtain⟨c1,c2,c3⟩:=(bV _).1 hc
  have dz:dA t f t.sub.length=true:=by
   rw[x8]
   simp only[mH,decide_false,Bool.not_false,Bool.true_and,List.all_eq_true,decide_eq_true_eq]
   exact c3
  have gv:=vZ n (by omega) (az t f) hn (fun x hx=>(hs x hx).1) c3 c2 c1
  have gc:=eA n (by omega) t.width (bY (az t f):Nat)
  refine⟨bD t.width (bY (az t f):Nat), ?_, ?_⟩
  ·generalize (bY (az t f):Nat)=V at*
   have e0:(aC (az t f)).map AV.p=[.p (.int .u8 t.kind),ai t.width,.p (.int .u64 t.bits),.p (.str t.name),ai t.low,.p (.sl ((t.sub.map f).map aT))]:=by
    unfold az;rw[bA];rfl
   have en:(aC (bD t.width V)).map AV.p=[.p (.int .u8 1),ai t.width,.p (.int .u64 V),.p (.str ⟨#[]⟩),ai 0,.p .nils]:=by
    unfold bD;rw[bA];rfl
   rw[e0] at gv
   rw[en] at gc ⊢
   simp -implicitDefEqProofs[aa] at gv gc
   simp -implicitDefEqProofs[aa,ae t,mH,fB,dz,gv,gc]
  ·rw[DA (by rw[eD];exact hc),rU,aL]
   rfl
 |false=>
  have dz:dA t f t.sub.length=false:=by
   cases h:dA t f t.sub.length with
   |false=>rfl
   |true=>
    rw[x8] at h
    simp only[mH,decide_false,Bool.not_false,Bool.true_and,List.all_eq_true,decide_eq_true_eq] at h
    have:ez (az t f)=true:=(bV _).2 ⟨mH,by rw[hq];simpa using fB,h⟩
    rw[hc] at this;exact absurd this (by simp)
  have e0:(aC (az t f)).map AV.p=[.p (.int .u8 t.kind),ai t.width,.p (.int .u64 t.bits),.p (.str t.name),ai t.low,.p (.sl ((t.sub.map f).map aT))]:=by
    unfold az;rw[bA];rfl
  have vo:ez (bh (az t f))=false:=by rw[eD];exact hc
  have EL:=hn
  generalize hu:az t f=u at EL
  cases EL with
  |con w b z=>
   simp only[az,Tr.mk.injEq] at hu
   exact absurd (List.map_eq_nil_iff.1 hu.2.2.2.2.2.2) fB
  |var w n z=>
   simp only[az,Tr.mk.injEq] at hu
   exact absurd (List.map_eq_nil_iff.1 hu.2.2.2.2.2.2) fB
  |ld w z x=>
   simp only[az,Tr.mk.injEq] at hu
   exact absurd hu.1 mH
  |bin=>
   have:=congrArg Tr.kind hu
   simp only[az,aZ] at this
   omega
  |cmp=>
   have:=congrArg Tr.kind hu
   simp only[az,aZ] at this
   omega
  |un k w z x h1 h2 hk hx=>
   have nW:=hu
   simp only[az,Tr.mk.injEq] at nW
   obtain⟨tk,tw,tb,tn,tl,tz,ts⟩:=nW
   subst tk;subst tw
   have bC:t.sub.length=1:=by rw[←List.length_map (f:=f),ts];rfl
   rw[ts] at e0
   rw[bC] at dz
   have m9:x∈(az t f).sub:=by rw[hq,ts];simp
   have xw:=(hs x m9).1
   have ex:∃c r,x.kind=t.kind→x.sub=c::r:=by
    by_cases h:x.kind=t.kind
    ·obtain⟨c,hc,_⟩:=xw.nc.un_inv (by omega)
     exact⟨c,[],fun _=>hc⟩
    ·exact⟨default,[],fun h'=>absurd h' h⟩
   obtain⟨c,r,hc⟩:=ex
   refine⟨pick (az t f) [(decide (x.kind=t.kind),c)], ?_, ?_⟩
   ·rw[ts]
    by_cases M_:x.kind=t.kind
    ·have hc:=hc M_
     rcases hk with tk|tk<;>(rw[tk] at M_;simp -implicitDefEqProofs[aa,pick,ae t,tk,dz,bC,e0,ae x,eq_true M_,hc,bU])
    ·rcases hk with tk|tk<;>(rw[tk] at M_;simp -implicitDefEqProofs[aa,pick,ae t,tk,dz,bC,e0,ae x,M_])
   ·rw[←hu,eh vo]
    refine cD rfl _ _ ?_
    have PH:fp (bh (.mk t.kind t.width 0 ⟨#[]⟩ 0 z [x]))=[(decide (x.kind=t.kind),nth (x.sub.map bh) 0)]:=by
     rcases hk with h|h<;>(rw[h,←fo,←aM x];rfl)
    rw[hu,PH]
    refine⟨⟨rfl,fun h=> ?_⟩,trivial⟩
    rw[hc (of_decide_eq_true h)];rfl
  |ite w z x y v h1 h2 hx hy hv=>
   have nW:=hu
   simp only[az,Tr.mk.injEq] at nW
   obtain⟨tk,tw,tb,tn,tl,tz,ts⟩:=nW
   subst tw
   have bC:t.sub.length=3:=by rw[←List.length_map (f:=f),ts];rfl
   rw[ts] at e0
   rw[bC] at dz
   have m9:x∈(az t f).sub:=by rw[hq,ts];simp
   have xw:=(hs x m9).1
   have uq:y∈(az t f).sub:=by rw[hq,ts];simp
   have yw:=(hs y uq).1
   have hvm:v∈(az t f).sub:=by rw[hq,ts];simp
   have vw:=(hs v hvm).1
   have d_:=c_ d n x y (hs x m9).2 (by omega)
   have WT:=c_ d n y v (hs y uq).2 (by omega)
   have r0:=jK n (by omega) x 1
   have r1:=jK n (by omega) x 0
   rw[ae x,ae y] at d_
   rw[ae y,ae v] at WT
   rw[ae x] at r0 r1
   simp -implicitDefEqProofs[aa] at d_ WT r0 r1
   refine⟨pick (az t f) [(bR x 1,y),(bR x 0,v),(aI y v,y)], ?_, ?_⟩
   ·rw[ts]
    cases c0:bR x 1
    ·cases c1:bR x 0
     ·cases c2:aI y v<;>rw[c0] at r0<;>rw[c1] at r1<;>rw[c2] at WT<;>simp -implicitDefEqProofs[aa,pick,ae t,tk,dz,bC,e0,ae x,ae y,ae v,d_,WT,r0,r1]
     ·rw[c0] at r0
      rw[c1] at r1
      simp -implicitDefEqProofs[aa,pick,ae t,tk,dz,bC,e0,ae x,ae y,ae v,d_,r0,r1]
    ·rw[c0] at r0
     simp -implicitDefEqProofs[aa,pick,ae t,tk,dz,bC,e0,ae x,ae y,ae v,d_,r0]
   ·rw[←hu,eh vo,hu]
    have PH:fp (bh (.mk 19 t.width 0 ⟨#[]⟩ 0 z [x,y,v]))=[(bR (bh x) 1||(bR (bh x) 0||aI (bh y) (bh v)),if bR (bh x) 1=true then bh y else bh v)]:=rfl
    rw[PH,cd,cd,bL]
    cases c0:bR x 1
    ·cases c1:bR x 0
     ·cases c2:aI y v
      ·simp[pick]
      ·have e:=Oz (bh y) (bh v) (VQ y) (VQ v) (by rw[bL];exact c2)
       simp[pick,e]
     ·simp[pick]
    ·simp[pick]
  |cat w z x y h1 h2 hx hy hw=>
   have nW:=hu
   simp only[az,Tr.mk.injEq] at nW
   obtain⟨tk,tw,tb,tn,tl,tz,ts⟩:=nW
   subst tw
   have bC:t.sub.length=2:=by rw[←List.length_map (f:=f),ts];rfl
   rw[ts] at e0
   rw[bC] at dz
   have m9:x∈(az t f).sub:=by rw[hq,ts];simp
   have xw:=(hs x m9).1
   have uq:y∈(az t f).sub:=by rw[hq,ts];simp
   have yw:=(hs y uq).1
   have d_:=c_ d n x y (hs x m9).2 (by omega)
   have r1:=jK n (by omega) x 0
   rw[ae x,ae y] at d_
   rw[ae x] at r1
   simp -implicitDefEqProofs[aa] at d_ r1
   have hb:y.kind=22→∃x,y.sub=[x]:=fun h=>by
    obtain⟨c,hc,_⟩:=yw.nc.wid_inv (Or.inl h)
    exact⟨c,hc⟩
   have ej:∀v,(aC (.mk 22 t.width 0 ⟨#[]⟩ 0 false [v])).map AV.p=[.p (.int .u8 22),ai t.width,.p (.int .u64 0),.p (.str ⟨#[]⟩),ai 0,.p (.sl [aT v])]:=by
    intro v;rw[bA];rfl
   refine⟨pick (az t f) [(bR x 0,.mk 22 t.width 0 ⟨#[]⟩ 0 false [gF y])], ?_, ?_⟩
   ·rw[ts]
    cases c1:bR x 0<;>rw[c1] at r1
    ·simp -implicitDefEqProofs[aa,pick,ae t,tk,dz,bC,e0,ae x,ae y,d_,r1]
    ·by_cases hk:y.kind=22
     ·obtain⟨q,Ud⟩:=hb hk
      have XJ:gF y=q:=by unfold gF;rw[if_pos hk,Ud];rfl
      have RV:aT q=.agg [.int .u8 q.kind,.int .i64 q.width,.int .u64 q.bits,.str q.name,.int .i64 q.low,fg q.z (q.sub.map aT)]:=by
       rw[show aT q=.agg (aC q) from rfl,ae q]
      simp[Ud,bU,RV] at d_
      simp -implicitDefEqProofs[aa,pick,ae t,tk,dz,bC,e0,ae x,ae y,d_,r1,eq_true hk,Ud,XJ,bU,ej,RV,ae q]
     ·have XJ:gF y=y:=by unfold gF;rw[if_neg hk]
      have RV:aT y=.agg [.int .u8 y.kind,.int .i64 y.width,.int .u64 y.bits,.str y.name,.int .i64 y.low,fg y.z (y.sub.map aT)]:=by
       rw[show aT y=.agg (aC y) from rfl,ae y]
      simp -implicitDefEqProofs[aa,pick,ae t,tk,dz,bC,e0,ae x,ae y,d_,r1,hk,XJ,ej,RV]
   ·rw[←hu,eh vo,hu]
    have PH:fp (bh (.mk 20 t.width 0 ⟨#[]⟩ 0 z [x,y]))=[(bR (bh x) 0,.mk 22 t.width 0 ⟨#[]⟩ 0 false [gF (bh y)])]:=rfl
    rw[←hu]
    refine cD rfl _ _ ?_
    rw[hu,PH,IY (fun h=>by obtain⟨c,hc⟩:=hb h;exact⟨c,[],hc⟩),cd]
    exact⟨⟨rfl,fun _=>rfl⟩,trivial⟩
  |ext w l z x h1 h2 hl hx tt hw=>
   have nW:=hu
   simp only[az,Tr.mk.injEq] at nW
   obtain⟨tk,tw,tb,tn,tl,tz,ts⟩:=nW
   subst tw;subst tl
   have bC:t.sub.length=1:=by rw[←List.length_map (f:=f),ts];rfl
   rw[ts] at e0
   rw[bC] at dz
   have m9:x∈(az t f).sub:=by rw[hq,ts];simp
   have xw:=(hs x m9).1
   have wo:x.kind=21→IntKind.i64.wrap (t.low+x.low)=t.low+x.low:=fun h=>by
    obtain⟨q,Ud,h3,h4,h5,h6⟩:=xw.nc.ext_inv h
    have:=xw.wide
    exact wrap64 (by omega) (by omega)
   have ej:∀l,(aC (.mk 21 t.width 0 ⟨#[]⟩ l x.z x.sub)).map AV.p=[.p (.int .u8 21),ai t.width,.p (.int .u64 0),.p (.str ⟨#[]⟩),ai l,.p (fg x.z (x.sub.map aT))]:=by
    intro l;rw[bA];rfl
   refine⟨pick (az t f) [(decide (x.width=t.width),x),(decide (x.kind=21),.mk 21 t.width 0 ⟨#[]⟩ (t.low+x.low) x.z x.sub)], ?_, ?_⟩
   ·rw[ts]
    by_cases c0:x.width=t.width
    ·simp -implicitDefEqProofs[aa,pick,ae t,tk,dz,bC,e0,ae x,ej,eq_true c0]
    ·by_cases c1:x.kind=21
     ·have wo:=wo c1
      simp -implicitDefEqProofs[aa,pick,ae t,tk,dz,bC,e0,ae x,ej,c0,eq_true c1,wo]
     ·simp -implicitDefEqProofs[aa,pick,ae t,tk,dz,bC,e0,ae x,ej,c0,c1]
   ·rw[←hu,eh vo]
    refine cD rfl _ _ ?_
    have PH:fp (bh (.mk 21 t.width 0 ⟨#[]⟩ t.low z [x]))=[(decide ((bh x).width=t.width),bh x),(decide ((bh x).kind=21),.mk 21 t.width 0 ⟨#[]⟩ (t.low+(bh x).low) false (bh x).sub)]:=by
     rfl
    rw[hu,PH,aL,aM,bZ,fo]
    refine⟨⟨rfl,fun _=>rfl⟩,⟨rfl,fun h=> ?_⟩,trivial⟩
    rw[jI];rfl
  |wid k w z x h1 h2 hk hx=>
   have nW:=hu
   simp only[az,Tr.mk.injEq] at nW
   obtain⟨tk,tw,tb,tn,tl,tz,ts⟩:=nW
   subst tk;subst tw
   have bC:t.sub.length=1:=by rw[←List.length_map (f:=f),ts];rfl
   rw[ts] at e0
   rw[bC] at dz
   have m9:x∈(az t f).sub:=by rw[hq,ts];simp
   have xw:=(hs x m9).1
   have wo:x.kind=t.kind→IntKind.i64.wrap (0+x.low)=0+x.low:=fun h=>by
    obtain⟨q,Ud,h3,h4⟩:=xw.nc.wid_inv (by omega)
    have:=xw.wide
    exact wrap64 (by omega) (by omega)
   have ej:∀l,(aC (.mk t.kind t.width 0 ⟨#[]⟩ l x.z x.sub)).map AV.p=[.p (.int .u8 t.kind),ai t.width,.p (.int .u64 0),.p (.str ⟨#[]⟩),ai l,.p (fg x.z (x.sub.map aT))]:=by
    intro l;rw[bA];rfl
   refine⟨pick (az t f) [(decide (x.width=t.width),x),(decide (x.kind=t.kind),.mk t.kind t.width 0 ⟨#[]⟩ (0+x.low) x.z x.sub)], ?_, ?_⟩
   ·rw[ts]
    by_cases c0:x.width=t.width
    ·rcases hk with tk|tk<;>simp -implicitDefEqProofs[aa,pick,ae t,tk,dz,bC,e0,ae x,ej,eq_true c0]
    ·by_cases c1:x.kind=t.kind
     ·have wo:=wo c1
      rcases hk with tk|tk<;>(rw[tk] at c1;simp -implicitDefEqProofs[aa,pick,ae t,tk,dz,bC,e0,ae x,ej,tl,c0,eq_true c1];simp at wo;simp[wo,bA])
     ·rcases hk with tk|tk<;>(rw[tk] at c1;simp -implicitDefEqProofs[aa,pick,ae t,tk,dz,bC,e0,ae x,ej,c0,c1])
   ·rw[←hu,eh vo]
    refine cD rfl _ _ ?_
    have PH:fp (bh (.mk t.kind t.width 0 ⟨#[]⟩ 0 z [x]))=[(decide ((bh x).width=t.width),bh x),(decide ((bh x).kind=t.kind),.mk t.kind t.width 0 ⟨#[]⟩ (0+(bh x).low) false (bh x).sub)]:=by
     rcases hk with h|h<;>(rw[h];rfl)
    rw[hu,PH,aL,aM,bZ,fo]
    refine⟨⟨rfl,fun _=>rfl⟩,⟨rfl,fun h=> ?_⟩,trivial⟩
    rw[jI];rfl
end Go.En.V
