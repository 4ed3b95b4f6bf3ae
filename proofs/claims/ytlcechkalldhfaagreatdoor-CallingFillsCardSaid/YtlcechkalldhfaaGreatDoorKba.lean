/- Part of the proof of CallingFills: engine, contracts or law, joined by a program from the texts X82 X83 X97 X101. -/
import Derived.Test.YtlcechkalldhfaaGreatDoorKan
import Derived.Test.YtlcechkalldhfaaGreatDoorKat
import Derived.Test.YtlcechkalldhfaaGreatDoorKau
import Derived.Test.YtlcechkalldhfaaGreatDoorKax
set_option linter.all false
set_option maxRecDepth 100000
set_option maxHeartbeats 8000000
namespace Go.En.V
open Go.Proofs
theorem yu(a b:ByteArray):cc a b=cc b a:=by
 rw[Bool.eq_iff_iff];unfold cc;simp only[beq_iff_eq];exact eq_comm
def PU(s:dh)(t:Tr):Option Nat:=s.opds.findIdx? fun o=>decide (t.kind=2)&&(!decide (o.kind=1)&&cc o.name t.name)
mutual
def fX(m:aw)(s:dh)(args:List Int):Tr→Tr
 | .mk k w b n l z p=>match PU s (.mk k w b n l z p) with
  |some i=>eR m (nth args i)
  |none=>.mk k w b n l false (UC m s args p)
def UC(m:aw)(s:dh)(args:List Int):List Tr→List Tr
 |[]=>[]
 |x::r=>fX m s args x::UC m s args r
end
theorem Qb(m:aw)(s:dh)(args:List Int)(l:List Tr):UC m s args l=l.map (fX m s args):=by
 induction l with
 |nil=>rfl
 |cons x r ih=>simp[UC,ih]
theorem Cz(m:aw)(s:dh)(args:List Int)(t:Tr):fX m s args t=match PU s t with
  |some i=>eR m (nth args i)
  |none=>.mk t.kind t.width t.bits t.name t.low false (t.sub.map (fX m s args)):=by
 cases t;simp only[fX,Qb,Tr.kind,Tr.width,Tr.bits,Tr.name,Tr.low,Tr.sub]
theorem Qa:∀(d N:Nat) (v:View) (t:Tr),v.args.length=v.ins.opds.length→v.args.length≤100→(v.p.m.address=16∨v.p.m.address=32)→Dp d t→d+1100≤N→R N 147 [ag (aB v),ag (aC t)] []=some (ag (aC (fX v.p.m v.ins v.args t)),[]):=by
 intro d
 induction d with
 |zero=>intro N v t _ _ _ h _;exact h.elim
 |succ d ih=>
  intro N v t vN Vm ha ht hN
  have hl:=ht.1
  have aa:rows 147=_:=Z3.eq_1
  obtain⟨n,rfl⟩:=up N
  rw[aE 147 Tryz.func147 rfl rfl]
  have eM:=fun c=>BT n (by omega) v c ha
  simp[aa]
  have hz:∀i,i<v.ins.opds.length→∃c,v.args[i]? =some c∧(∀h:i<v.args.length,v.args[i]=c)∧nth v.args (i:Int)=c:=by
   intro i hi
   have Cj:i<v.args.length:=by omega
   obtain⟨c,h1,h2,_⟩:=ay Cj
   exact⟨c,by rw[List.getElem?_eq_getElem Cj,h1 Cj],h1,h2⟩
  rw[abD v.ins.opds (fun o=>decide (t.kind=2)&&(!decide (o.kind=1)&&cc o.name t.name))
   (fun k=>⟨[(2,.ref 0 0),(3,.ref 1 0),(4,.ref 2 0),(12,.p (.sl (v.ins.opds.map l_))),(13,ai v.ins.opds.length),(14,ai k)],
     [bx (aB v),bx (aC t),.box [.p (.int .u8 0),ai 0,.p (.int .u64 0),.p (.str ⟨#[]⟩),ai 0,.p .nils]]⟩)
   (fun k=>(.ret,⟨[(2,.ref 0 0),(3,.ref 1 0),(4,.ref 2 0),(12,.p (.sl (v.ins.opds.map l_))),(13,ai v.ins.opds.length),(14,ai k)],
     [bx (aB v),bx (aC t),.box ((aC (eR v.p.m (nth v.args k))).map .p)]⟩)) (by omega) (by simp[aa]) (by
     intro k o h hx _ hm K
     have w1:=aA h (by omega)
     obtain⟨c,c1,c2,c3⟩:=hz k h
     have hnc:=eM c
     rw[show bD v.p.m.address (c % 2^v.p.m.address.toNat)=eR v.p.m c from rfl] at hnc
     have bT:k<v.args.length:=by omega
     rw[c3]
     by_cases k2:t.kind=2
     ·by_cases o1:o.kind=1
      ·simp[aa,h,hx,w1,k2,o1]
      ·cases q:cc o.name t.name
       ·simp[aa,h,hx,w1,k2,o1,q]
       ·simp[aa,h,hx,w1,k2,o1,q,c1,c2,bT,hnc,vN]
     ·simp[aa,h,hx,w1,k2]) (by simp[aa])]
  rw[Cz]
  unfold PU
  cases hf:v.ins.opds.findIdx? (fun o=>decide (t.kind=2)&&(!decide (o.kind=1)&&cc o.name t.name)) with
  |some i=>simp[aa]
  |none=>
   simp[aa]
   rw[av t.sub.length (fun k=>⟨[(2,.ref 0 0),(3,.ref 1 0),(4,.ref 2 0),(7,.arr 3 k 0 k),(43,.p (fg t.z (t.sub.map aT))),(44,ai t.sub.length),(45,ai k)],
    [bx (aB v),bx (aC t),.box [.p (.int .u8 0),ai 0,.p (.int .u64 0),.p (.str ⟨#[]⟩),ai 0,.p .nils],.arr k 6 false (((t.sub.take k).map (fX v.p.m v.ins v.args)).map aT)]⟩)
    (.exit 2,⟨[(2,.ref 0 0),(3,.ref 1 0),(4,.ref 2 0),(7,.arr 3 t.sub.length 0 t.sub.length),(43,.p (fg t.z (t.sub.map aT))),(44,ai t.sub.length),(45,ai t.sub.length)],
    [bx (aB v),bx (aC t),.box [.p (.int .u8 0),ai 0,.p (.int .u64 0),.p (.str ⟨#[]⟩),ai 0,.p .nils],.arr t.sub.length 6 false ((t.sub.map (fX v.p.m v.ins v.args)).map aT)]⟩) (by omega) (by simp[aa]) (by
    intro k h K
    have w1:=aA h (by omega)
    obtain⟨x,hx,_,hm⟩:=ay h
    have bI:=ih n v x vN Vm ha (ht.2 x hm) (by omega)
    have b1:(k+1)*72≤1099511627776:=by omega
    have b2:k+1≤1099511627776:=by omega
    have e:(t.sub.take (k+1)).map (fX v.p.m v.ins v.args)=(t.sub.take k).map (fX v.p.m v.ins v.args)++[fX v.p.m v.ins v.args x]:=by
     rw[List.take_succ_eq_append_getElem h,hx h];simp
    rw[e]
    have hlen:((t.sub.take k).map (fX v.p.m v.ins v.args)).length=k:=by simp;omega
    generalize (t.sub.take k).map (fX v.p.m v.ins v.args)=A at*
    generalize fX v.p.m v.ins v.args x=x' at*
    simp[aa,h,hx,bX t.z h,bI,w1,b1,b2,hlen]
    try rfl) (by simp[aa])]
   rw[bA]
   simp[aa,ae t]
theorem HF:∀(d N:Nat) (f:Da) (t:Tr),f.t.args.length=f.s.opds.length→f.t.args.length≤100→(f.m.address=16∨f.m.address=32)→(∀x∈f.t.args,-9223372036854775808≤x∧x≤9223372036854775807)→Dp d t→d+1100≤N→
  R N 134 [ag (bP f),ag (aC t)] []=some (ag (aC (fX f.m f.s f.t.args t)),[]):=by
 intro d
 induction d with
 |zero=>intro N v t _ _ _ _ h _;exact h.elim
 |succ d ih=>
  intro N f t vN Vm ha hr ht hN
  have hl:=ht.1
  have aa:rows 134=_:=Z6.eq_1
  obtain⟨n,rfl⟩:=up N
  rw[aE 134 Tryz.func134 rfl rfl]
  simp[aa]
  have hz:∀i,i<f.s.opds.length→∃c,f.t.args[i]? =some c∧(∀h:i<f.t.args.length,f.t.args[i]=c)∧nth f.t.args (i:Int)=c∧c∈f.t.args:=by
   intro i hi
   have Cj:i<f.t.args.length:=by omega
   obtain⟨c,h1,h2,hm⟩:=ay Cj
   exact⟨c,by rw[List.getElem?_eq_getElem Cj,h1 Cj],h1,h2,hm⟩
  rw[abD f.s.opds (fun o=>decide (t.kind=2)&&(!decide (o.kind=1)&&cc o.name t.name))
   (fun k=>⟨[(2,.ref 0 0),(3,.ref 1 0),(4,.ref 2 0),(5,ai k)],
     [bx (bP f),bx (aC t),.box [.p (.int .u8 0),ai 0,.p (.int .u64 0),.p (.str ⟨#[]⟩),ai 0,.p .nils]]⟩)
   (fun k=>(.ret,⟨[(2,.ref 0 0),(3,.ref 1 0),(4,.ref 2 0),(5,ai k)],
     [bx (bP f),bx (aC t),.box ((aC (eR f.m (nth f.t.args k))).map .p)]⟩)) (by omega) (by simp[aa]) (by
     intro k o h hx _ hm K
     have w1:=aA h (by omega)
     obtain⟨c,c1,c2,c3,c4⟩:=hz k h
     have hnc:=CC n (by omega) f c ha (hr c c4)
     have bT:k<f.t.args.length:=by omega
     rw[c3]
     by_cases k2:t.kind=2
     ·by_cases o1:o.kind=1
      ·simp[aa,h,hx,w1,k2,o1]
      ·cases q:cc o.name t.name
       ·simp[aa,h,hx,w1,k2,o1,q,yu t.name o.name]
       ·simp[aa,h,hx,w1,k2,o1,q,yu t.name o.name,c1,c2,bT,hnc,vN]
     ·simp[aa,h,hx,w1,k2]) (by simp[aa])]
  rw[Cz]
  unfold PU
  cases hf:f.s.opds.findIdx? (fun o=>decide (t.kind=2)&&(!decide (o.kind=1)&&cc o.name t.name)) with
  |some i=>simp[aa]
  |none=>
   simp[aa]
   simp[aa,qo,nw]
   rw[av t.sub.length (fun k=>⟨[(2,.ref 0 0),(3,.ref 1 0),(4,.ref 2 0),(6,.ref 3 0),(7,ai k)],
    [bx (bP f),bx (aC t),.box [.p (.int .u8 0),ai 0,.p (.int .u64 0),.p (.str ⟨#[]⟩),ai 0,.p .nils],.box [.p (.int .u8 t.kind),ai t.width,.p (.int .u64 t.bits),.p (.str t.name),ai t.low,.arr 4 k 0 k],.arr k 6 false (((t.sub.take k).map (fX f.m f.s f.t.args)).map aT)]⟩)
    (.exit 2,⟨[(2,.ref 0 0),(3,.ref 1 0),(4,.ref 2 0),(6,.ref 3 0),(7,ai t.sub.length)],
    [bx (bP f),bx (aC t),.box [.p (.int .u8 0),ai 0,.p (.int .u64 0),.p (.str ⟨#[]⟩),ai 0,.p .nils],.box [.p (.int .u8 t.kind),ai t.width,.p (.int .u64 t.bits),.p (.str t.name),ai t.low,.arr 4 t.sub.length 0 t.sub.length],.arr t.sub.length 6 false ((t.sub.map (fX f.m f.s f.t.args)).map aT)]⟩) (by omega) (by simp[aa,ae t]) (by
    intro k h K
    have w1:=aA h (by omega)
    obtain⟨x,hx,_,hm⟩:=ay h
    have bI:=ih n f x vN Vm ha hr (ht.2 x hm) (by omega)
    have b1:(k+1)*72≤1099511627776:=by omega
    have b2:k+1≤1099511627776:=by omega
    have e:(t.sub.take (k+1)).map (fX f.m f.s f.t.args)=(t.sub.take k).map (fX f.m f.s f.t.args)++[fX f.m f.s f.t.args x]:=by
     rw[List.take_succ_eq_append_getElem h,hx h];simp
    rw[e]
    have hlen:((t.sub.take k).map (fX f.m f.s f.t.args)).length=k:=by simp;omega
    generalize (t.sub.take k).map (fX f.m f.s f.t.args)=A at*
    generalize fX f.m f.s f.t.args x=x' at*
    simp[aa,h,hx,bX t.z h,bI,w1,b1,b2,hlen]
    try rfl) (by simp[aa])]
   rw[bA]
   simp[aa]
def bR(t:Tr)(x:Int):Bool:=decide (t.kind=1)&&decide (t.bits=x)
def nU(w x:Int):Int:=if br w<x then br w else x
theorem BF(N:Nat)(hN:1≤N)(w x:Int):R N 209 [ai w,.p (.int .u64 x)] []=some (ag (aC (bD w x)),[]):=by
 have aa:rows 209={}:=rfl
 obtain⟨n,rfl⟩:=up N
 rw[aE 209 Tryz.func209 rfl rfl]
 simp[aa,bD,bA]
theorem wT(N:Nat)(hN:1≤N)(t:Tr)(x:Int):R N 246 [ag (aC t),.p (.int .u64 x)] []=some (ab (bR t x),[]):=by
 have aa:rows 246={}:=rfl
 obtain⟨n,rfl⟩:=up N
 rw[aE 246 Tryz.func246 rfl rfl]
 unfold bR
 by_cases h:t.kind=1
 ·simp[aa,ag,ae t,eq_true h]
 ·simp[aa,ag,ae t,h]
theorem wH(N:Nat)(hN:3≤N)(w x:Int):R N 247 [ai w,.p (.int .u64 x)] []=some (.p (.int .u64 (nU w x)),[]):=by
 have aa:rows 247={}:=rfl
 obtain⟨n,rfl⟩:=up N
 rw[aE 247 Tryz.func247 rfl rfl]
 have hm:=jr n (by omega) w
 unfold nU
 simp[aa,hm,sB]
theorem bU(z:Bool)(a:PV)(l:List PV):fg z (a::l)=.sl (a::l):=by simp[fg]
theorem Fc(N:Nat)(hN:1≤N)(t x:Tr)(r:List Tr)(hs:t.sub=x::r):R N 215 [ag (aC t)] []=some (ag (aC x),[]):=by
 have aa:rows 215={}:=rfl
 obtain⟨n,rfl⟩:=up N
 rw[aE 215 Tryz.func215 rfl rfl]
 simp[aa,ag,ae t,hs,bU]
theorem Kr(N:Nat)(hN:1≤N)(t x y:Tr)(hs:t.sub=[x,y]):R N 213 [ag (aC t)] []=some (ag (aC y),[]):=by
 have aa:rows 213={}:=rfl
 obtain⟨n,rfl⟩:=up N
 rw[aE 213 Tryz.func213 rfl rfl]
 simp[aa,ag,ae t,hs,bU]
theorem qO(N:Nat)(hN:5≤N)(t:Tr)(x:Int):R N 250 [ag (aC t),.p (.ptr [.int .u64 x] 0)] []=some (.agg ((aC (bD t.width (nU t.width x))).map .p),[]):=by
 have aa:rows 250=_:=Zo.eq_1
 obtain⟨n,rfl⟩:=up N
 rw[aE 250 Tryz.func250 rfl rfl]
 have h1:=wH n (by omega)
 have h2:=BF n (by omega)
 simp[aa,ag,ae t,h1,h2]
def aga(l:List PV):Prop:=l=[]∨∃v,l=[.ptr [.int .u64 v] 0]
theorem Eo(n:Nat)(hn:5≤n)(f:Nat)(abY:List PV)(hc:aga abY)(oN:T.muts f=false)(t o a b:Tr)(w:Int)(hs:t.sub=[a,b])
  (ho:R n f (ag (aC t)::abY.map .p) []=some (ag (aC o),[])):
  R (n+1) 245 [ag (aC t),.p (.ptr [.fn f abY] 0),.p (.ptr [.int .u64 w] 0)] []=some (.tup [ag (aC o),ab (bR a (nU a.width w))],[]):=by
 obtain⟨N,hN⟩:∃N,N=n+1:=⟨_,rfl⟩
 rw[←hN]
 have h1:=wH n (by omega) a.width w
 have h2:=wT n (by omega) a
 have Uw:n=N-1:=by omega
 subst Uw
 have aa:rows 245=_:=Zs.eq_1
 obtain⟨n,rfl⟩:=up N
 rw[aE 245 Tryz.func245 rfl rfl]
 simp only[Nat.add_sub_cancel] at*
 simp at oN
 rcases hc with rfl|⟨v,rfl⟩<;>
 (simp[aa,ag,ae t,hs,bU] at ho ⊢
  simp[aa,ag,ae a,ae b] at h2
  simp[aa,ag,ae a,ae b,h1,h2,ho,oN])
theorem Ae(n:Nat)(hn:5≤n)(f:Nat)(abY:List PV)(hc:aga abY)(oN:T.muts f=false)(t o a b:Tr)(w:Int)(hs:t.sub=[a,b])
  (ho:R n f (ag (aC t)::abY.map .p) []=some (ag (aC o),[])):
  R (n+1) 248 [ag (aC t),.p (.ptr [.fn f abY] 0),.p (.ptr [.int .u64 w] 0)] []=some (.tup [ag (aC o),ab (bR b (nU b.width w))],[]):=by
 obtain⟨N,hN⟩:∃N,N=n+1:=⟨_,rfl⟩
 rw[←hN]
 have h1:=wH n (by omega) b.width w
 have h2:=wT n (by omega) b
 have Uw:n=N-1:=by omega
 subst Uw
 have aa:rows 248=_:=Zr.eq_1
 obtain⟨n,rfl⟩:=up N
 rw[aE 248 Tryz.func248 rfl rfl]
 simp only[Nat.add_sub_cancel] at*
 simp at oN
 rcases hc with rfl|⟨v,rfl⟩<;>
 (simp[aa,ag,ae t,hs,bU] at ho ⊢
  simp[aa,ag,ae a,ae b] at h2
  simp[aa,ag,ae a,ae b,h1,h2,ho,oN])
theorem DG(n:Nat)(hn:5≤n)(f:Nat)(abY:List PV)(hc:aga abY)(oN:T.muts f=false)(t o a b:Tr)(d:Nat)(hs:t.sub=[a,b])(hd:Dp d a)(hdn:2*d+1004≤n)
  (ho:R n f (ag (aC t)::abY.map .p) []=some (ag (aC o),[])):
  R (n+1) 249 [ag (aC t),.p (.ptr [.fn f abY] 0)] []=some (.tup [ag (aC o),ab (aI a b)],[]):=by
 obtain⟨N,hN⟩:∃N,N=n+1:=⟨_,rfl⟩
 rw[←hN]
 have h2:=iM d n a b hd (by omega)
 have h1:=h2
 have Uw:n=N-1:=by omega
 subst Uw
 have aa:rows 249=_:=Zp.eq_1
 obtain⟨n,rfl⟩:=up N
 rw[aE 249 Tryz.func249 rfl rfl]
 simp only[Nat.add_sub_cancel] at*
 simp at oN
 rcases hc with rfl|⟨v,rfl⟩<;>
 (simp[aa,ag,ae t,hs,bU] at ho ⊢
  simp[aa,ag,ae a,ae b] at h2
  simp[aa,ag,ae a,ae b,h1,h2,ho,oN])
theorem N1(N:Nat)(hN:1≤N)(t a b:Tr)(r:List Tr)(hs:t.sub=[a])(ha:a.kind=t.kind→a.sub=b::r):
  R N 211 [ag (aC t)] []=some (.tup [ag (aC (if a.kind=t.kind then b else t)),ab (decide (a.kind=t.kind))],[]):=by
 have aa:rows 211={}:=rfl
 obtain⟨n,rfl⟩:=up N
 rw[aE 211 Tryz.func211 rfl rfl]
 by_cases h:a.kind=t.kind
 ·have ha:=ha h
  simp[aa,ag,ae t,ae a,hs,ha,h,bU]
 ·simp[aa,ag,ae t,ae a,hs,h,bU]
theorem adm(N:Nat)(hN:2≤N)(t a b:Tr)(hs:t.sub=[a,b])(hw:0≤t.width∧t.width≤64):
  R N 218 [ag (aC t)] []=some (.tup [ag (aC (bD t.width 0)),ab (decide (b.kind=1)&&decide (t.width≤b.bits))],[]):=by
 have aa:rows 218=_:=ZI.eq_1
 obtain⟨n,rfl⟩:=up N
 rw[aE 218 Tryz.func218 rfl rfl]
 have h2:=BF n (by omega) t.width 0
 have lr:=f_ hw.1 (by omega)
 by_cases h:b.kind=1
 ·simp[aa,ag,ae t,ae b,hs,eq_true h,bU,h2,lr]
 ·simp[aa,ag,ae t,ae b,hs,h,bU,h2]
theorem LW(d N:Nat)(hN:2*d+1005≤N)(t a b c:Tr)(hs:t.sub=[a,b,c])(hd:Dp d b):
  R N 219 [ag (aC t)] []=some (.tup [ag (aC (if bR a 1=true then b else c)),ab (bR a 1||(bR a 0||aI b c))],[]):=by
 have aa:rows 219=_:=ZH.eq_1
 obtain⟨n,rfl⟩:=up N
 rw[aE 219 Tryz.func219 rfl rfl]
 have h1:=wT n (by omega) a 1
 have h2:=wT n (by omega) a 0
 have h3:=iM d n b c hd (by omega)
 simp[aa,ag,ae a] at h1 h2
 simp[aa,ag,ae b,ae c] at h3
 cases q1:bR a 1<;>rw[q1] at h1
 ·cases q2:bR a 0<;>rw[q2] at h2<;>
  simp[aa,ag,ae t,ae a,ae b,ae c,hs,bU,h1,h2,h3]
 ·simp[aa,ag,ae t,ae a,ae b,ae c,hs,bU,h1]
def gF(b:Tr):Tr:=if b.kind=22 then b.sub.headD default else b
theorem Ln(N:Nat)(hN:2≤N)(t a b:Tr)(hs:t.sub=[a,b])(hb:b.kind=22→∃x r,b.sub=x::r):
  R N 220 [ag (aC t)] []=some (.tup [ag (aC (.mk 22 t.width 0 ⟨#[]⟩ 0 false [gF b])),ab (bR a 0)],[]):=by
 have aa:rows 220=_:=ZG.eq_1
 obtain⟨n,rfl⟩:=up N
 rw[aE 220 Tryz.func220 rfl rfl]
 have h1:=wT n (by omega) a 0
 simp[aa,ag,ae a] at h1
 by_cases h:b.kind=22
 ·obtain⟨x,r,hx⟩:=hb h
  simp[aa,bA,ae t,ae a,ae b,hs,bU,h1,gF,eq_true h,hx]
  rfl
 ·simp[aa,bA,ae t,ae a,ae b,hs,bU,h1,gF,h]
  rw[show aT b=PV.agg (aC b) from rfl,ae b]
theorem NF(N:Nat)(hN:1≤N)(t a:Tr)(hs:t.sub=[a]):
  R N 221 [ag (aC t)] []=some (.tup [ag (aC a),ab (decide (a.width=t.width))],[]):=by
 have aa:rows 221=_:=ZF.eq_1
 obtain⟨n,rfl⟩:=up N
 rw[aE 221 Tryz.func221 rfl rfl]
 simp[aa,ag,ae t,ae a,hs,bU]
theorem Px(N:Nat)(hN:1≤N)(t a:Tr)(hs:t.sub=[a])(hl:a.kind=t.kind→IntKind.i64.wrap (t.low+a.low)=t.low+a.low):
  R N 222 [ag (aC t)] []=some (.tup [.agg ((aC (if a.kind=t.kind then .mk t.kind t.width t.bits t.name (t.low+a.low) a.z a.sub else t)).map .p),ab (decide (a.kind=t.kind))],[]):=by
 have aa:rows 222={}:=rfl
 obtain⟨n,rfl⟩:=up N
 rw[aE 222 Tryz.func222 rfl rfl]
 by_cases h:a.kind=t.kind
 ·have hl:=hl h
  simp[aa,bA,ae t,ae a,hs,h,bU,hl]
 ·simp[aa,ag,ae t,ae a,hs,h,bU]
theorem fe(N:Nat)(hN:1≤N)(x:Tr)(hk:x.kind=1):R N 244 [ag (aC x),.map 0,.p .nils] [.map []]=some (.p (.int .u64 x.bits),[.map []]):=by
 have aa:rows 244=_:=qy.eq_1
 obtain⟨n,rfl⟩:=up N
 rw[aE 244 Tryz.func244 rfl rfl]
 simp[aa,ae x,hk]
theorem aq9(k:Nat)(hk:5≤k∧k≤18)(N:Nat)(hN:100≤N)(w a b:Nat)(h1:1≤w)(hw:w≤64)(ha:a<2^w)(hb:b<2^w):R N 262 [.p (.int .u8 (k:Nat)),ai w,.p (.int .u64 a),.p (.int .u64 b)] []=some (.tup [.p (.int .u64 (bF k w a b)),ai 0],[]):=by
 have:k=5∨k=6∨k=7∨k=8∨k=9∨k=10∨k=11∨k=12∨k=13∨k=14∨k=15∨k=16∨k=17∨k=18:=by omega
 rcases this with rfl|rfl|rfl|rfl|rfl|rfl|rfl|rfl|rfl|rfl|rfl|rfl|rfl|rfl
 ·exact are N hN w a b h1 hw ha hb
 ·exact ard N hN w a b h1 hw ha hb
 ·exact arc N hN w a b h1 hw ha hb
 ·exact arb N hN w a b h1 hw ha hb
 ·exact ara N hN w a b h1 hw ha hb
 ·exact aeM N hN w a b h1 hw ha hb
 ·exact aeL N hN w a b h1 hw ha hb
 ·exact aeK N hN w a b h1 hw ha hb
 ·exact aeJ N hN w a b h1 hw ha hb
 ·exact aeI N hN w a b h1 hw ha hb
 ·exact aeH N hN w a b h1 hw ha hb
 ·exact aeG N hN w a b h1 hw ha hb
 ·exact aeF N hN w a b h1 hw ha hb
 ·exact aeE N hN w a b h1 hw ha hb
theorem ie(k:Nat)(JB:5≤k∧k≤18)(N:Nat)(hN:200≤N)(t x y:Tr)(w0 b0 b1:Nat)(hk:t.kind=(k:Nat))(hs:t.sub=[x,y])(lZ:x.kind=1)(jC:x.bits=(b0:Nat))(kV:y.kind=1)(nY:y.bits=(b1:Nat))(ur:x.width=(w0:Nat))(v1:1≤w0)(v2:w0≤64)(v3:b0<2^w0)(v4:b1<2^w0):R N 244 [ag (aC t),.map 0,.p .nils] [.map []]=some (.p (.int .u64 (bF k w0 b0 b1:Nat)),[.map []]):=by
 have aa:rows 244=_:=qy.eq_1
 obtain⟨n,rfl⟩:=up N
 rw[aE 244 Tryz.func244 rfl rfl]
 have g0:=fe n (by omega) x lZ
 rw[ae x,jC] at g0
 have g1:=fe n (by omega) y kV
 rw[ae y,nY] at g1
 have gc:=aq9 k JB n (by omega) w0 b0 b1 v1 v2 v3 v4
 generalize bF k w0 b0 b1=res at*
 simp -implicitDefEqProofs[aa,ag] at g0 g1
 have hc:k=5∨k=6∨k=7∨k=8∨k=9∨k=10∨k=11∨k=12∨k=13∨k=14∨k=15∨k=16∨k=17∨k=18:=by omega
 rcases hc with rfl|rfl|rfl|rfl|rfl|rfl|rfl|rfl|rfl|rfl|rfl|rfl|rfl|rfl<;>
 (simp -implicitDefEqProofs[aa] at gc hk
  simp -implicitDefEqProofs[aa,ae t,hk,hs,bU]
  rw[av 2 (fun q=>⟨[(1,.map 0),(2,.p .nils),(3,.ref 1 0),(7,.ref 2 0),(25,.p (.sl [aT x,aT y])),(26,ai 2),(27,ai q)],[.map [],.box [.p (.int .u8 t.kind),ai t.width,.p (.int .u64 t.bits),.p (.str t.name),ai t.low,.p (.sl [aT x,aT y])],.box [.p (.int .u64 (if q≤0 then 0 else(b0:Nat):Int)),.p (.int .u64 (if q≤1 then 0 else(b1:Nat):Int)),.p (.int .u64 0)]]⟩) (.exit 1,⟨[(1,.map 0),(2,.p .nils),(3,.ref 1 0),(7,.ref 2 0),(25,.p (.sl [aT x,aT y])),(26,ai 2),(27,ai 2)],[.map [],.box [.p (.int .u8 t.kind),ai t.width,.p (.int .u64 t.bits),.p (.str t.name),ai t.low,.p (.sl [aT x,aT y])],.box [.p (.int .u64 (b0:Nat)),.p (.int .u64 (b1:Nat)),.p (.int .u64 0)]]⟩) (by omega) (by simp -implicitDefEqProofs[aa,hk]) (by
   intro q h K
   have i0:IntKind.i64.wrap 1=1:=rfl
   have i1:IntKind.i64.wrap 2=2:=rfl
   have i2:IntKind.i64.wrap 3=3:=rfl
   rcases (show q=0∨q=1 by omega) with rfl|rfl<;>
   simp -implicitDefEqProofs[aa,hk,ae x,ae y,g0,g1,jC,nY,i0,i1,i2,jz]) (by simp -implicitDefEqProofs[aa,hk])]
  simp -implicitDefEqProofs[aa,hk,ae x,ae y,ur,gc,jz])
theorem NY(k:Nat)(JB:k=3∨k=4)(N:Nat)(hN:200≤N)(t x:Tr)(w0 b0:Nat)(hk:t.kind=(k:Nat))(hs:t.sub=[x])(lZ:x.kind=1)(jC:x.bits=(b0:Nat))(ur:x.width=(w0:Nat))(v1:1≤w0)(v2:w0≤64)(v3:b0<2^w0):R N 244 [ag (aC t),.map 0,.p .nils] [.map []]=some (.p (.int .u64 (zu k w0 b0:Nat)),[.map []]):=by
 have aa:rows 244=_:=qy.eq_1
 obtain⟨n,rfl⟩:=up N
 rw[aE 244 Tryz.func244 rfl rfl]
 have g0:=fe n (by omega) x lZ
 rw[ae x,jC] at g0
 have gc:R n 257 [.p (.int .u8 (k:Nat)),ai w0,.p (.int .u64 b0)] []=some (.tup [.p (.int .u64 (zu k w0 b0)),ai 0],[]):=by rcases JB with rfl|rfl;exact UY n (by omega) w0 b0 v1 v2 v3;exact UX n (by omega) w0 b0 v1 v2 v3
 generalize zu k w0 b0=res at*
 simp[aa,ag] at g0
 rcases JB with rfl|rfl<;>
 (simp[aa] at gc hk
  simp[aa,ae t,hk,hs,bU]
  rw[av 1 (fun q=>⟨[(1,.map 0),(2,.p .nils),(3,.ref 1 0),(7,.ref 2 0),(25,.p (.sl [aT x])),(26,ai 1),(27,ai q)],[.map [],.box [.p (.int .u8 t.kind),ai t.width,.p (.int .u64 t.bits),.p (.str t.name),ai t.low,.p (.sl [aT x])],.box [.p (.int .u64 (if q≤0 then 0 else(b0:Nat):Int)),.p (.int .u64 0),.p (.int .u64 0)]]⟩) (.exit 1,⟨[(1,.map 0),(2,.p .nils),(3,.ref 1 0),(7,.ref 2 0),(25,.p (.sl [aT x])),(26,ai 1),(27,ai 1)],[.map [],.box [.p (.int .u8 t.kind),ai t.width,.p (.int .u64 t.bits),.p (.str t.name),ai t.low,.p (.sl [aT x])],.box [.p (.int .u64 (b0:Nat)),.p (.int .u64 0),.p (.int .u64 0)]]⟩) (by omega) (by simp[aa,hk]) (by
   intro q h K
   have i0:IntKind.i64.wrap 1=1:=rfl
   have i1:IntKind.i64.wrap 2=2:=rfl
   have i2:IntKind.i64.wrap 3=3:=rfl
   rcases (show q=0 by omega) with rfl<;>
   simp[aa,hk,ae x,g0,jC,i0,i1,i2,jz]) (by simp[aa,hk])]
  simp[aa,hk,ae x,ur,gc,jz])
theorem SD(N:Nat)(hN:200≤N)(t x y:Tr)(w0 b0 b1:Nat)(hk:t.kind=20)(hs:t.sub=[x,y])(lZ:x.kind=1)(jC:x.bits=(b0:Nat))(kV:y.kind=1)(nY:y.bits=(b1:Nat))(ur:x.width=(w0:Nat))(w1:Nat)(WE:y.width=(w1:Nat))(v1:1≤w0)(v2:1≤w1)(v3:w0+w1≤64)(v4:b0<2^w0)(v5:b1<2^w1):R N 244 [ag (aC t),.map 0,.p .nils] [.map []]=some (.p (.int .u64 (b0*2^w1+b1:Nat)),[.map []]):=by
 have aa:rows 244=_:=qy.eq_1
 obtain⟨n,rfl⟩:=up N
 rw[aE 244 Tryz.func244 rfl rfl]
 have g0:=fe n (by omega) x lZ
 rw[ae x,jC] at g0
 have g1:=fe n (by omega) y kV
 rw[ae y,nY] at g1
 have gc:=Iv n (by omega) w0 w1 b0 b1 v1 v2 v3 v4 v5
 generalize b0*2^w1+b1=res at*
 simp -implicitDefEqProofs[aa,ag] at g0 g1
 (simp -implicitDefEqProofs[aa,ae t,hk,hs,bU]
  rw[av 2 (fun q=>⟨[(1,.map 0),(2,.p .nils),(3,.ref 1 0),(7,.ref 2 0),(25,.p (.sl [aT x,aT y])),(26,ai 2),(27,ai q)],[.map [],.box [.p (.int .u8 t.kind),ai t.width,.p (.int .u64 t.bits),.p (.str t.name),ai t.low,.p (.sl [aT x,aT y])],.box [.p (.int .u64 (if q≤0 then 0 else(b0:Nat):Int)),.p (.int .u64 (if q≤1 then 0 else(b1:Nat):Int)),.p (.int .u64 0)]]⟩) (.exit 1,⟨[(1,.map 0),(2,.p .nils),(3,.ref 1 0),(7,.ref 2 0),(25,.p (.sl [aT x,aT y])),(26,ai 2),(27,ai 2)],[.map [],.box [.p (.int .u8 t.kind),ai t.width,.p (.int .u64 t.bits),.p (.str t.name),ai t.low,.p (.sl [aT x,aT y])],.box [.p (.int .u64 (b0:Nat)),.p (.int .u64 (b1:Nat)),.p (.int .u64 0)]]⟩) (by omega) (by simp -implicitDefEqProofs[aa,hk]) (by
   intro q h K
   have i0:IntKind.i64.wrap 1=1:=rfl
   have i1:IntKind.i64.wrap 2=2:=rfl
   have i2:IntKind.i64.wrap 3=3:=rfl
   rcases (show q=0∨q=1 by omega) with rfl|rfl<;>
   simp -implicitDefEqProofs[aa,hk,ae x,ae y,g0,g1,jC,nY,i0,i1,i2,jz]) (by simp -implicitDefEqProofs[aa,hk])]
  simp -implicitDefEqProofs[aa,hk,ae x,ae y,ur,gc,jz,WE])
theorem SC(N:Nat)(hN:200≤N)(t x:Tr)(w0 b0:Nat)(hk:t.kind=21)(hs:t.sub=[x])(lZ:x.kind=1)(jC:x.bits=(b0:Nat))(ur:x.width=(w0:Nat))(low many:Nat)(acO:t.low=(low:Nat))(PR:t.width=(many:Nat))(v1:1≤w0)(v2:w0≤64)(v3:b0<2^w0)(v4:1≤many)(v5:low+many≤w0):R N 244 [ag (aC t),.map 0,.p .nils] [.map []]=some (.p (.int .u64 (b0/2^low % 2^many:Nat)),[.map []]):=by
 have aa:rows 244=_:=qy.eq_1
 obtain⟨n,rfl⟩:=up N
 rw[aE 244 Tryz.func244 rfl rfl]
 have g0:=fe n (by omega) x lZ
 rw[ae x,jC] at g0
 have gc:=FL n (by omega) w0 b0 low many v1 v2 v3 v4 v5
 generalize b0/2^low % 2^many=res at*
 simp -implicitDefEqProofs[aa,ag] at g0
 (simp -implicitDefEqProofs[aa,ae t,hk,hs,bU]
  rw[av 1 (fun q=>⟨[(1,.map 0),(2,.p .nils),(3,.ref 1 0),(7,.ref 2 0),(25,.p (.sl [aT x])),(26,ai 1),(27,ai q)],[.map [],.box [.p (.int .u8 t.kind),ai t.width,.p (.int .u64 t.bits),.p (.str t.name),ai t.low,.p (.sl [aT x])],.box [.p (.int .u64 (if q≤0 then 0 else(b0:Nat):Int)),.p (.int .u64 0),.p (.int .u64 0)]]⟩) (.exit 1,⟨[(1,.map 0),(2,.p .nils),(3,.ref 1 0),(7,.ref 2 0),(25,.p (.sl [aT x])),(26,ai 1),(27,ai 1)],[.map [],.box [.p (.int .u8 t.kind),ai t.width,.p (.int .u64 t.bits),.p (.str t.name),ai t.low,.p (.sl [aT x])],.box [.p (.int .u64 (b0:Nat)),.p (.int .u64 0),.p (.int .u64 0)]]⟩) (by omega) (by simp -implicitDefEqProofs[aa,hk]) (by
   intro q h K
   have i0:IntKind.i64.wrap 1=1:=rfl
   have i1:IntKind.i64.wrap 2=2:=rfl
   have i2:IntKind.i64.wrap 3=3:=rfl
   rcases (show q=0 by omega) with rfl<;>
   simp -implicitDefEqProofs[aa,hk,ae x,g0,jC,i0,i1,i2,jz]) (by simp -implicitDefEqProofs[aa,hk])]
  simp -implicitDefEqProofs[aa,hk,ae x,ur,gc,jz,acO,PR])
theorem NX(sg:Bool)(N:Nat)(hN:200≤N)(t x:Tr)(w0 b0:Nat)(hk:t.kind=if sg=true then 23 else 22)(hs:t.sub=[x])(lZ:x.kind=1)(jC:x.bits=(b0:Nat))(ur:x.width=(w0:Nat))(to:Nat)(Vn:t.width=(to:Nat))(v1:1≤w0)(v2:w0≤to)(v3:to≤64)(v4:b0<2^w0):R N 244 [ag (aC t),.map 0,.p .nils] [.map []]=some (.p (.int .u64 (vx w0 b0 to sg:Nat)),[.map []]):=by
 have aa:rows 244=_:=qy.eq_1
 obtain⟨n,rfl⟩:=up N
 rw[aE 244 Tryz.func244 rfl rfl]
 have g0:=fe n (by omega) x lZ
 rw[ae x,jC] at g0
 have gc:=Iu n (by omega) w0 b0 to sg v1 v2 v3 v4
 generalize vx w0 b0 to sg=res at*
 simp -implicitDefEqProofs[aa,ag] at g0
 cases sg<;>
 (simp -implicitDefEqProofs[aa] at gc hk
  simp -implicitDefEqProofs[aa,ae t,hk,hs,bU]
  rw[av 1 (fun q=>⟨[(1,.map 0),(2,.p .nils),(3,.ref 1 0),(7,.ref 2 0),(25,.p (.sl [aT x])),(26,ai 1),(27,ai q)],[.map [],.box [.p (.int .u8 t.kind),ai t.width,.p (.int .u64 t.bits),.p (.str t.name),ai t.low,.p (.sl [aT x])],.box [.p (.int .u64 (if q≤0 then 0 else(b0:Nat):Int)),.p (.int .u64 0),.p (.int .u64 0)]]⟩) (.exit 1,⟨[(1,.map 0),(2,.p .nils),(3,.ref 1 0),(7,.ref 2 0),(25,.p (.sl [aT x])),(26,ai 1),(27,ai 1)],[.map [],.box [.p (.int .u8 t.kind),ai t.width,.p (.int .u64 t.bits),.p (.str t.name),ai t.low,.p (.sl [aT x])],.box [.p (.int .u64 (b0:Nat)),.p (.int .u64 0),.p (.int .u64 0)]]⟩) (by omega) (by simp -implicitDefEqProofs[aa,hk]) (by
   intro q h K
   have i0:IntKind.i64.wrap 1=1:=rfl
   have i1:IntKind.i64.wrap 2=2:=rfl
   have i2:IntKind.i64.wrap 3=3:=rfl
   rcases (show q=0 by omega) with rfl<;>
   simp -implicitDefEqProofs[aa,hk,ae x,g0,jC,i0,i1,i2,jz]) (by simp -implicitDefEqProofs[aa,hk])]
  simp -implicitDefEqProofs[aa,hk,ae x,ur,gc,jz,Vn])
theorem SE(N:Nat)(hN:200≤N)(t x y z:Tr)(w0 b0 b1 b2:Nat)(hk:t.kind=19)(hs:t.sub=[x,y,z])(lZ:x.kind=1)(jC:x.bits=(b0:Nat))(kV:y.kind=1)(nY:y.bits=(b1:Nat))(tt:z.kind=1)(p9:z.bits=(b2:Nat))(ur:x.width=(w0:Nat))(v3:b0<2):R N 244 [ag (aC t),.map 0,.p .nils] [.map []]=some (.p (.int .u64 (if b0=1 then b1 else b2:Nat)),[.map []]):=by
 have aa:rows 244=_:=qy.eq_1
 obtain⟨n,rfl⟩:=up N
 rw[aE 244 Tryz.func244 rfl rfl]
 have g0:=fe n (by omega) x lZ
 rw[ae x,jC] at g0
 have g1:=fe n (by omega) y kV
 rw[ae y,nY] at g1
 have g2:=fe n (by omega) z tt
 rw[ae z,p9] at g2
 have gc:True:=trivial
 simp -implicitDefEqProofs[aa,ag] at g0 g1 g2
 (simp -implicitDefEqProofs[aa,ae t,hk,hs,bU]
  rw[av 3 (fun q=>⟨[(1,.map 0),(2,.p .nils),(3,.ref 1 0),(7,.ref 2 0),(25,.p (.sl [aT x,aT y,aT z])),(26,ai 3),(27,ai q)],[.map [],.box [.p (.int .u8 t.kind),ai t.width,.p (.int .u64 t.bits),.p (.str t.name),ai t.low,.p (.sl [aT x,aT y,aT z])],.box [.p (.int .u64 (if q≤0 then 0 else(b0:Nat):Int)),.p (.int .u64 (if q≤1 then 0 else(b1:Nat):Int)),.p (.int .u64 (if q≤2 then 0 else(b2:Nat):Int))]]⟩) (.exit 1,⟨[(1,.map 0),(2,.p .nils),(3,.ref 1 0),(7,.ref 2 0),(25,.p (.sl [aT x,aT y,aT z])),(26,ai 3),(27,ai 3)],[.map [],.box [.p (.int .u8 t.kind),ai t.width,.p (.int .u64 t.bits),.p (.str t.name),ai t.low,.p (.sl [aT x,aT y,aT z])],.box [.p (.int .u64 (b0:Nat)),.p (.int .u64 (b1:Nat)),.p (.int .u64 (b2:Nat))]]⟩) (by omega) (by simp -implicitDefEqProofs[aa,hk]) (by
   intro q h K
   have i0:IntKind.i64.wrap 1=1:=rfl
   have i1:IntKind.i64.wrap 2=2:=rfl
   have i2:IntKind.i64.wrap 3=3:=rfl
   rcases (show q=0∨q=1∨q=2 by omega) with rfl|rfl|rfl<;>
   simp -implicitDefEqProofs[aa,hk,ae x,ae y,ae z,g0,g1,g2,jC,nY,p9,i0,i1,i2,jz]) (by simp -implicitDefEqProofs[aa,hk])]
  have i0:IntKind.u64.wrap 2=2:=rfl
  have i1:IntKind.u64.wrap 1=1:=rfl
  rcases (show b0=0∨b0=1 by omega) with rfl|rfl<;>simp -implicitDefEqProofs[aa,hk,i0,i1,jz])
theorem dW(N:Nat)(hN:1≤N)(x:Tr)(hk:x.kind=1):R N 180 [ag (aC x),.p .nils,.p .nils] []=some (.p (.int .u64 x.bits),[]):=by
 have aa:rows 180=_:=qz.eq_1
 obtain⟨n,rfl⟩:=up N
 rw[aE 180 Tryz.func180 rfl rfl]
 simp -implicitDefEqProofs[aa,ae x,hk]
theorem ame(k:Nat)(hk:5≤k∧k≤18)(N:Nat)(hN:2001≤N)(w a b:Nat)(h1:1≤w)(hw:w≤64)(ha:a<2^w)(hb:b<2^w):R N 202 [.p (.int .u8 (k:Nat)),ai w,.p (.int .u64 a),.p (.int .u64 b)] []=some (.tup [.p (.int .u64 (bF k w a b)),ai 0],[]):=by
 have:k=5∨k=6∨k=7∨k=8∨k=9∨k=10∨k=11∨k=12∨k=13∨k=14∨k=15∨k=16∨k=17∨k=18:=by omega
 rcases this with rfl|rfl|rfl|rfl|rfl|rfl|rfl|rfl|rfl|rfl|rfl|rfl|rfl|rfl
 ·exact amj N hN w a b h1 hw ha hb
 ·exact ami N hN w a b h1 hw ha hb
 ·exact amh N hN w a b h1 hw ha hb
 ·exact amg N hN w a b h1 hw ha hb
 ·exact amf N hN w a b h1 hw ha hb
 ·exact abb N hN w a b h1 hw ha hb
 ·exact aba N hN w a b h1 hw ha hb
 ·exact aa9 N hN w a b h1 hw ha hb
 ·exact aa8 N hN w a b h1 hw ha hb
 ·exact aa7 N hN w a b h1 hw ha hb
 ·exact aa6 N hN w a b h1 hw ha hb
 ·exact aa5 N hN w a b h1 hw ha hb
 ·exact aa4 N hN w a b h1 hw ha hb
 ·exact aa3 N hN w a b h1 hw ha hb
theorem fy(k:Nat)(JB:5≤k∧k≤18)(N:Nat)(hN:2100≤N)(t x y:Tr)(w0 b0 b1:Nat)(hk:t.kind=(k:Nat))(hs:t.sub=[x,y])(lZ:x.kind=1)(jC:x.bits=(b0:Nat))(kV:y.kind=1)(nY:y.bits=(b1:Nat))(ur:x.width=(w0:Nat))(v1:1≤w0)(v2:w0≤64)(v3:b0<2^w0)(v4:b1<2^w0):R N 180 [ag (aC t),.p .nils,.p .nils] []=some (.p (.int .u64 (bF k w0 b0 b1:Nat)),[]):=by
 have aa:rows 180=_:=qz.eq_1
 obtain⟨n,rfl⟩:=up N
 rw[aE 180 Tryz.func180 rfl rfl]
 have g0:=dW n (by omega) x lZ
 rw[ae x,jC] at g0
 have g1:=dW n (by omega) y kV
 rw[ae y,nY] at g1
 have gc:=ame k JB n (by omega) w0 b0 b1 v1 v2 v3 v4
 generalize bF k w0 b0 b1=res at*
 simp -implicitDefEqProofs[aa,ag] at g0 g1
 have hc:k=5∨k=6∨k=7∨k=8∨k=9∨k=10∨k=11∨k=12∨k=13∨k=14∨k=15∨k=16∨k=17∨k=18:=by omega
 rcases hc with rfl|rfl|rfl|rfl|rfl|rfl|rfl|rfl|rfl|rfl|rfl|rfl|rfl|rfl<;>
 (simp -implicitDefEqProofs[aa] at gc hk
  simp -implicitDefEqProofs[aa,ae t,hk,hs,bU]
  rw[abC 2 (fun q=>⟨[(1,.p .nils),(2,.p .nils),(3,.ref 0 0),(9,.arr 1 q 0 q),(10,ai q)],[.box [.p (.int .u8 t.kind),ai t.width,.p (.int .u64 t.bits),.p (.str t.name),ai t.low,.p (.sl [aT x,aT y])],.arr q 1 false (([.int .u64 (b0:Nat),.int .u64 (b1:Nat)]:List PV).take q)]⟩) (by omega) (by simp -implicitDefEqProofs[aa,hk]) (by
   intro q h K
   have i0:IntKind.i64.wrap 1=1:=rfl
   have i1:IntKind.i64.wrap 2=2:=rfl
   have i2:IntKind.i64.wrap 3=3:=rfl
   rcases (show q=0∨q=1 by omega) with rfl|rfl<;>
   simp -implicitDefEqProofs[aa,hk,ae x,ae y,g0,g1,jC,nY,i0,i1,i2,bU,jz]) (by simp -implicitDefEqProofs[aa,hk,bU])]
  simp -implicitDefEqProofs[aa,hk,ae x,ae y,ur,gc,jz,bU])
theorem IX(k:Nat)(JB:k=3∨k=4)(N:Nat)(hN:2100≤N)(t x:Tr)(w0 b0:Nat)(hk:t.kind=(k:Nat))(hs:t.sub=[x])(lZ:x.kind=1)(jC:x.bits=(b0:Nat))(ur:x.width=(w0:Nat))(v1:1≤w0)(v2:w0≤64)(v3:b0<2^w0):R N 180 [ag (aC t),.p .nils,.p .nils] []=some (.p (.int .u64 (zu k w0 b0:Nat)),[]):=by
 have aa:rows 180=_:=qz.eq_1
 obtain⟨n,rfl⟩:=up N
 rw[aE 180 Tryz.func180 rfl rfl]
 have g0:=dW n (by omega) x lZ
 rw[ae x,jC] at g0
 have gc:R n 197 [.p (.int .u8 (k:Nat)),ai w0,.p (.int .u64 b0)] []=some (.tup [.p (.int .u64 (zu k w0 b0)),ai 0],[]):=by rcases JB with rfl|rfl;exact Tz n (by omega) w0 b0 v1 v2 v3;exact Ty n (by omega) w0 b0 v1 v2 v3
 generalize zu k w0 b0=res at*
 simp -implicitDefEqProofs[aa,ag] at g0
 rcases JB with rfl|rfl<;>
 (simp -implicitDefEqProofs[aa] at gc hk
  simp -implicitDefEqProofs[aa,ae t,hk,hs,bU]
  rw[abC 1 (fun q=>⟨[(1,.p .nils),(2,.p .nils),(3,.ref 0 0),(9,.arr 1 q 0 q),(10,ai q)],[.box [.p (.int .u8 t.kind),ai t.width,.p (.int .u64 t.bits),.p (.str t.name),ai t.low,.p (.sl [aT x])],.arr q 1 false (([.int .u64 (b0:Nat)]:List PV).take q)]⟩) (by omega) (by simp -implicitDefEqProofs[aa,hk]) (by
   intro q h K
   have i0:IntKind.i64.wrap 1=1:=rfl
   have i1:IntKind.i64.wrap 2=2:=rfl
   have i2:IntKind.i64.wrap 3=3:=rfl
   rcases (show q=0 by omega) with rfl<;>
   simp -implicitDefEqProofs[aa,hk,ae x,g0,jC,i0,i1,i2,bU,jz]) (by simp -implicitDefEqProofs[aa,hk,bU])]
  simp -implicitDefEqProofs[aa,hk,ae x,ur,gc,jz,bU])
theorem NV(N:Nat)(hN:2100≤N)(t x y:Tr)(w0 b0 b1:Nat)(hk:t.kind=20)(hs:t.sub=[x,y])(lZ:x.kind=1)(jC:x.bits=(b0:Nat))(kV:y.kind=1)(nY:y.bits=(b1:Nat))(ur:x.width=(w0:Nat))(w1:Nat)(WE:y.width=(w1:Nat))(v1:1≤w0)(v2:1≤w1)(v3:w0+w1≤64)(v4:b0<2^w0)(v5:b1<2^w1):R N 180 [ag (aC t),.p .nils,.p .nils] []=some (.p (.int .u64 (b0*2^w1+b1:Nat)),[]):=by
 have aa:rows 180=_:=qz.eq_1
 obtain⟨n,rfl⟩:=up N
 rw[aE 180 Tryz.func180 rfl rfl]
 have g0:=dW n (by omega) x lZ
 rw[ae x,jC] at g0
 have g1:=dW n (by omega) y kV
 rw[ae y,nY] at g1
 have gc:=Hu n (by omega) w0 w1 b0 b1 v1 v2 v3 v4 v5
 generalize b0*2^w1+b1=res at*
 simp -implicitDefEqProofs[aa,ag] at g0 g1
 (simp -implicitDefEqProofs[aa,ae t,hk,hs,bU]
  rw[abC 2 (fun q=>⟨[(1,.p .nils),(2,.p .nils),(3,.ref 0 0),(9,.arr 1 q 0 q),(10,ai q)],[.box [.p (.int .u8 t.kind),ai t.width,.p (.int .u64 t.bits),.p (.str t.name),ai t.low,.p (.sl [aT x,aT y])],.arr q 1 false (([.int .u64 (b0:Nat),.int .u64 (b1:Nat)]:List PV).take q)]⟩) (by omega) (by simp -implicitDefEqProofs[aa,hk]) (by
   intro q h K
   have i0:IntKind.i64.wrap 1=1:=rfl
   have i1:IntKind.i64.wrap 2=2:=rfl
   have i2:IntKind.i64.wrap 3=3:=rfl
   rcases (show q=0∨q=1 by omega) with rfl|rfl<;>
   simp -implicitDefEqProofs[aa,hk,ae x,ae y,g0,g1,jC,nY,i0,i1,i2,bU,jz]) (by simp -implicitDefEqProofs[aa,hk,bU])]
  simp -implicitDefEqProofs[aa,hk,ae x,ae y,ur,gc,jz,bU,WE])
theorem NU(N:Nat)(hN:2100≤N)(t x:Tr)(w0 b0:Nat)(hk:t.kind=21)(hs:t.sub=[x])(lZ:x.kind=1)(jC:x.bits=(b0:Nat))(ur:x.width=(w0:Nat))(low many:Nat)(acO:t.low=(low:Nat))(PR:t.width=(many:Nat))(v1:1≤w0)(v2:w0≤64)(v3:b0<2^w0)(v4:1≤many)(v5:low+many≤w0):R N 180 [ag (aC t),.p .nils,.p .nils] []=some (.p (.int .u64 (b0/2^low % 2^many:Nat)),[]):=by
 have aa:rows 180=_:=qz.eq_1
 obtain⟨n,rfl⟩:=up N
 rw[aE 180 Tryz.func180 rfl rfl]
 have g0:=dW n (by omega) x lZ
 rw[ae x,jC] at g0
 have gc:=DU n (by omega) w0 b0 low many v1 v2 v3 v4 v5
 generalize b0/2^low % 2^many=res at*
 simp -implicitDefEqProofs[aa,ag] at g0
 (simp -implicitDefEqProofs[aa,ae t,hk,hs,bU]
  rw[abC 1 (fun q=>⟨[(1,.p .nils),(2,.p .nils),(3,.ref 0 0),(9,.arr 1 q 0 q),(10,ai q)],[.box [.p (.int .u8 t.kind),ai t.width,.p (.int .u64 t.bits),.p (.str t.name),ai t.low,.p (.sl [aT x])],.arr q 1 false (([.int .u64 (b0:Nat)]:List PV).take q)]⟩) (by omega) (by simp -implicitDefEqProofs[aa,hk]) (by
   intro q h K
   have i0:IntKind.i64.wrap 1=1:=rfl
   have i1:IntKind.i64.wrap 2=2:=rfl
   have i2:IntKind.i64.wrap 3=3:=rfl
   rcases (show q=0 by omega) with rfl<;>
   simp -implicitDefEqProofs[aa,hk,ae x,g0,jC,i0,i1,i2,bU,jz]) (by simp -implicitDefEqProofs[aa,hk,bU])]
  simp -implicitDefEqProofs[aa,hk,ae x,ur,gc,jz,bU,acO,PR])
theorem IW(sg:Bool)(N:Nat)(hN:2100≤N)(t x:Tr)(w0 b0:Nat)(hk:t.kind=if sg=true then 23 else 22)(hs:t.sub=[x])(lZ:x.kind=1)(jC:x.bits=(b0:Nat))(ur:x.width=(w0:Nat))(to:Nat)(Vn:t.width=(to:Nat))(v1:1≤w0)(v2:w0≤to)(v3:to≤64)(v4:b0<2^w0):R N 180 [ag (aC t),.p .nils,.p .nils] []=some (.p (.int .u64 (vx w0 b0 to sg:Nat)),[]):=by
 have aa:rows 180=_:=qz.eq_1
 obtain⟨n,rfl⟩:=up N
 rw[aE 180 Tryz.func180 rfl rfl]
 have g0:=dW n (by omega) x lZ
 rw[ae x,jC] at g0
 have gc:=Ht n (by omega) w0 b0 to sg v1 v2 v3 v4
 generalize vx w0 b0 to sg=res at*
 simp -implicitDefEqProofs[aa,ag] at g0
 cases sg<;>
 (simp -implicitDefEqProofs[aa] at gc hk
  simp -implicitDefEqProofs[aa,ae t,hk,hs,bU]
  rw[abC 1 (fun q=>⟨[(1,.p .nils),(2,.p .nils),(3,.ref 0 0),(9,.arr 1 q 0 q),(10,ai q)],[.box [.p (.int .u8 t.kind),ai t.width,.p (.int .u64 t.bits),.p (.str t.name),ai t.low,.p (.sl [aT x])],.arr q 1 false (([.int .u64 (b0:Nat)]:List PV).take q)]⟩) (by omega) (by simp -implicitDefEqProofs[aa,hk]) (by
   intro q h K
   have i0:IntKind.i64.wrap 1=1:=rfl
   have i1:IntKind.i64.wrap 2=2:=rfl
   have i2:IntKind.i64.wrap 3=3:=rfl
   rcases (show q=0 by omega) with rfl<;>
   simp -implicitDefEqProofs[aa,hk,ae x,g0,jC,i0,i1,i2,bU,jz]) (by simp -implicitDefEqProofs[aa,hk,bU])]
  simp -implicitDefEqProofs[aa,hk,ae x,ur,gc,jz,bU,Vn])
theorem NW(N:Nat)(hN:2100≤N)(t x y z:Tr)(w0 b0 b1 b2:Nat)(hk:t.kind=19)(hs:t.sub=[x,y,z])(lZ:x.kind=1)(jC:x.bits=(b0:Nat))(kV:y.kind=1)(nY:y.bits=(b1:Nat))(tt:z.kind=1)(p9:z.bits=(b2:Nat))(ur:x.width=(w0:Nat))(v3:b0<2):R N 180 [ag (aC t),.p .nils,.p .nils] []=some (.p (.int .u64 (if b0=1 then b1 else b2:Nat)),[]):=by
 have aa:rows 180=_:=qz.eq_1
 obtain⟨n,rfl⟩:=up N
 rw[aE 180 Tryz.func180 rfl rfl]
 have g0:=dW n (by omega) x lZ
 rw[ae x,jC] at g0
 have g1:=dW n (by omega) y kV
 rw[ae y,nY] at g1
 have g2:=dW n (by omega) z tt
 rw[ae z,p9] at g2
 have gc:True:=trivial
 simp -implicitDefEqProofs[aa,ag] at g0 g1 g2
 (simp -implicitDefEqProofs[aa,ae t,hk,hs,bU]
  rw[abC 3 (fun q=>⟨[(1,.p .nils),(2,.p .nils),(3,.ref 0 0),(9,.arr 1 q 0 q),(10,ai q)],[.box [.p (.int .u8 t.kind),ai t.width,.p (.int .u64 t.bits),.p (.str t.name),ai t.low,.p (.sl [aT x,aT y,aT z])],.arr q 1 false (([.int .u64 (b0:Nat),.int .u64 (b1:Nat),.int .u64 (b2:Nat)]:List PV).take q)]⟩) (by omega) (by simp -implicitDefEqProofs[aa,hk]) (by
   intro q h K
   have i0:IntKind.i64.wrap 1=1:=rfl
   have i1:IntKind.i64.wrap 2=2:=rfl
   have i2:IntKind.i64.wrap 3=3:=rfl
   rcases (show q=0∨q=1∨q=2 by omega) with rfl|rfl|rfl<;>
   simp -implicitDefEqProofs[aa,hk,ae x,ae y,ae z,g0,g1,g2,jC,nY,p9,i0,i1,i2,bU,jz]) (by simp -implicitDefEqProofs[aa,hk,bU])]
  have i0:IntKind.u64.wrap 2=2:=rfl
  have i1:IntKind.u64.wrap 1=1:=rfl
  rcases (show b0=0∨b0=1 by omega) with rfl|rfl<;>simp -implicitDefEqProofs[aa,hk,i0,i1,jz,bU])
end Go.En.V
