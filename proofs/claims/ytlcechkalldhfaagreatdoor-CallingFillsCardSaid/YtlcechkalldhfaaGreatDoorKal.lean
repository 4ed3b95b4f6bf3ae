/- Part of the proof of CallingFills: engine, contracts or law, joined by a program from the texts X53 X54 X55 X56 X57 X58 X70. -/
import Derived.Test.YtlcechkalldhfaaGreatDoorKaj
set_option linter.all false
set_option maxRecDepth 100000
set_option maxHeartbeats 4000000
namespace Go.En.V
open Go.Proofs
def QP(m:aw):Prop:=∀r∈m.regs,(1≤r.width∧r.width≤64)∧(0≤r.low∧r.low≤64)∧(if r.of=-1 then r.low=0 else(0≤r.of∧r.of<m.regs.length)∧(nth m.regs r.of).of=-1)
def gV(l:List pT):Nat→List Int
 |0=>[]
 |k+1=>if (nth l (k:Int)).of=-1 then gV l k++[(k:Int)] else gV l k
theorem tG(l:List pT):∀k,(gV l k).length≤k
 |0=>Nat.le_refl _
 |k+1=>by
  have:=tG l k
  simp only[gV];split<;>simp<;>omega
theorem tF(l:List pT)(x:Nat)(hx:(nth l (x:Int)).of=-1):∀k,x<k→(x:Int)∈gV l k
 |0,h=>absurd h (by omega)
 |k+1,h=>by
  simp only[gV]
  by_cases e:x=k
  ·subst e;rw[if_pos hx];simp
  ·have:=tF l x hx k (by omega)
   split
   ·exact List.mem_append_left _ this
   ·exact this
def n_(l:List pT):List Int:=gV l l.length
theorem U4(N:Nat)(m:aw)(hN:m.regs.length+1<N)(hl:m.regs.length≤1000):
  R N 132 [ag (ah m)] []=some (.p (ints (n_ m.regs)),[]):=by
 have aa:rows 132=_:=Z7.eq_1
 obtain⟨n,rfl⟩:=up N
 rw[aE 132 Tryz.func132 rfl rfl]
 simp -implicitDefEqProofs[aa]
 rw[abC m.regs.length (fun k=>⟨[(1,.ref 0 0),(3,.arr 2 (gV m.regs k).length 0 (gV m.regs k).length),(4,ai k)],
    [bx (ah m),.arr 0 1 false [],.arr (gV m.regs k).length 1 false ((gV m.regs k).map i64)]⟩) (by omega) (by simp[gV]) (by
    intro k h K
    have w1:=aA h (by omega)
    obtain⟨y,hy,dV,_⟩:=ay h
    have hp:=tG m.regs k
    by_cases e:y.of=-1
    ·have h1:((gV m.regs k).length+1)*8≤1099511627776:=by omega
     have h2:(gV m.regs k).length+1≤1099511627776:=by omega
     simp -implicitDefEqProofs[aa,h,hy,w1,gV,dV,h1,h2,eq_true e]
    ·simp -implicitDefEqProofs[aa,h,hy,w1,gV,dV,e]) (by simp)]
 simp[n_]
def Bp(m:aw)(x:Int):Int:=fC (fun y=>decide (y=x)) (n_ m.regs)
theorem N6{m:aw}{x y:Int}(hx:x∈n_ m.regs)(hy:y∈n_ m.regs)(h:Bp m x=Bp m y):x=y:=by
 unfold Bp at h
 rcases ao (fun z:Int=>decide (z=x)) (n_ m.regs) with⟨_,e2,_⟩|⟨i,e1,_,e3⟩
 ·simp at e2;exact absurd rfl (e2 x hx)
 ·rcases ao (fun z:Int=>decide (z=y)) (n_ m.regs) with⟨_,f2,_⟩|⟨j,f1,_,f3⟩
  ·simp at f2;exact absurd rfl (f2 y hy)
  ·rw[e3,f3] at h
   have Gx:i=j:=by omega
   subst Gx
   rw[List.findIdx?_eq_some_iff_getElem] at e1 f1
   obtain⟨hi,h1,_⟩:=e1
   obtain⟨_,h2,_⟩:=f1
   simp at h1 h2
   omega
theorem tL{m:aw}(hw:QP m){r:Int}(h0:0≤r)(h1:r<m.regs.length):gX m r∈n_ m.regs:=by
 obtain⟨x,_,_,bI,hm⟩:=aR h0 h1
 have:=(hw x hm).2.2
 unfold gX n_
 rw[bI]
 by_cases e:x.of=-1
 ·rw[if_pos e]
  obtain⟨k,rfl⟩:∃k:Nat,r=k:=⟨r.toNat,by omega⟩
  exact tF _ _ (by rw[bI];exact e) _ (by omega)
 ·rw[if_neg e];rw[if_neg e] at this
  obtain⟨k,hk⟩:∃k:Nat,x.of=k:=⟨x.of.toNat,by omega⟩
  rw[hk] at this ⊢
  exact tF _ _ this.2 _ (by omega)
theorem F'(N:Nat)(m:aw)(hw:QP m)(hN:m.regs.length+3<N)(hl:m.regs.length≤1000)(r:Int)(h0:0≤r)(h1:r<m.regs.length):
  R N 91 [ag (ah m),ai r] []=some (.tup [ai (Bp m (gX m r)),ai (nth m.regs r).low,ai (nth m.regs r).width],[]):=by
 have aa:rows 91=_:=Yn.eq_1
 obtain⟨n,rfl⟩:=up N
 rw[aE 91 Tryz.func91 rfl rfl]
 obtain⟨x,h2,hx,bI,hm⟩:=aR h0 h1
 have hT:=U4 n m (by omega) hl
 have ny:=tL hw h0 h1
 have hlen:=tG m.regs m.regs.length
 have hs:gX m r=if x.of=-1 then r else x.of:=by unfold gX;rw[bI]
 rw[bI]
 unfold Bp
 have qn:(n_ m.regs).length≤m.regs.length:=hlen
 generalize n_ m.regs=tl at*
 have key:∀t:Int,gX m r=t→∃i,tl.findIdx? (fun y=>decide (y=t))=some i∧fC (fun y=>decide (y=gX m r)) tl=i:=by
  intro t ht
  rw[ht] at ny ⊢
  rcases ao (fun z:Int=>decide (z=t)) tl with⟨_,e2,_⟩|⟨i,e1,_,e3⟩
  ·simp at e2;exact absurd rfl (e2 t ny)
  ·exact⟨i,e1,e3⟩
 by_cases e:x.of=-1
 ·rw[if_pos e] at hs
  obtain⟨i,e1,e3⟩:=key r hs
  rw[e3]
  simp[aa,h0,h1,h2,hx,hT,eq_true e]
  (rw[abD tl (fun y=>decide (y=r)) (fun k=>⟨[(4,ai 0),(5,ai 0),(6,ai 0),(7,.ref 1 0),(8,ai r),(9,.p (ints tl)),(10,ai k)],[.box ((ah m).map .p),.box ((gN x).map .p)]⟩)
    (fun k=>(.ret,⟨[(4,ai k),(5,ai x.low),(6,ai x.width),(7,.ref 1 0),(8,ai r),(9,.p (ints tl)),(10,ai k)],[.box ((ah m).map .p),.box ((gN x).map .p)]⟩)) (by omega) (by simp[aa]) (by
      intro k y h hy _ Np K
      have w1:=aA h (by omega)
      by_cases hp:y=r
      ·simp[aa,h,hy,eq_true hp,w1]
      ·simp[aa,h,hy,hp,w1]) (by simp[aa])]
   rw[e1]
   simp[aa])
 ·rw[if_neg e] at hs
  obtain⟨i,e1,e3⟩:=key x.of hs
  rw[e3]
  simp[aa,h0,h1,h2,hx,hT,e]
  (rw[abD tl (fun y=>decide (y=x.of)) (fun k=>⟨[(4,ai 0),(5,ai 0),(6,ai 0),(7,.ref 1 0),(8,ai x.of),(9,.p (ints tl)),(10,ai k)],[.box ((ah m).map .p),.box ((gN x).map .p)]⟩)
    (fun k=>(.ret,⟨[(4,ai k),(5,ai x.low),(6,ai x.width),(7,.ref 1 0),(8,ai x.of),(9,.p (ints tl)),(10,ai k)],[.box ((ah m).map .p),.box ((gN x).map .p)]⟩)) (by omega) (by simp[aa]) (by
      intro k y h hy _ Np K
      have w1:=aA h (by omega)
      by_cases hp:y=x.of
      ·simp[aa,h,hy,eq_true hp,w1]
      ·simp[aa,h,hy,hp,w1]) (by simp[aa])]
   rw[e1]
   simp[aa])
theorem tq(N:Nat)(m:aw)(hw:QP m)(hN:m.regs.length+4<N)(hl:m.regs.length≤1000)(a b:Int)(a0:0≤a)(a1:a<m.regs.length)(b0:0≤b)(b1:b<m.regs.length):
  R N 63 [ag (ah m),ai a,ai b] []=some (ab (aP m a b),[]):=by
 have aa:rows 63={}:=rfl
 obtain⟨n,rfl⟩:=up N
 rw[aE 63 Tryz.func63 rfl rfl]
 have hA:=F' n m hw (by omega) hl a a0 a1
 have hB:=F' n m hw (by omega) hl b b0 b1
 have hi:decide (Bp m (gX m a)=Bp m (gX m b))=decide (gX m a=gX m b):=by
  rw[decide_eq_decide]
  exact⟨N6 (tL hw a0 a1) (tL hw b0 b1),fun h=>by rw[h]⟩
 obtain⟨x,_,_,bI,hmx⟩:=aR a0 a1
 obtain⟨y,_,_,dV,Np⟩:=aR b0 b1
 have wx:=hw x hmx
 have wy:=hw y Np
 have sx:oc m a=x.low∧od m a=IntKind.i64.wrap (x.low+x.width):=by
  unfold oc od;rw[bI]
  by_cases e:x.of=-1
  ·have:=wx.2.2;rw[if_pos e] at this
   rw[if_pos e,if_pos e,this]
   exact⟨rfl,by rw[wrap64 (by omega) (by omega)];omega⟩
  ·rw[if_neg e,if_neg e];exact⟨rfl,rfl⟩
 have sy:oc m b=y.low∧od m b=IntKind.i64.wrap (y.low+y.width):=by
  unfold oc od;rw[dV]
  by_cases e:y.of=-1
  ·have:=wy.2.2;rw[if_pos e] at this
   rw[if_pos e,if_pos e,this]
   exact⟨rfl,by rw[wrap64 (by omega) (by omega)];omega⟩
  ·rw[if_neg e,if_neg e];exact⟨rfl,rfl⟩
 have e:aP m a b=aj (aj (decide (Bp m (gX m a)=Bp m (gX m b))) (decide (x.low<IntKind.i64.wrap (y.low+y.width)))) (decide (y.low<IntKind.i64.wrap (x.low+x.width))):=by
  unfold aP
  rw[if_neg (by omega),hi,sx.1,sx.2,sy.1,sy.2]
 rw[e]
 rw[bI] at hA
 rw[dV] at hB
 simp[aa,hA,hB]
theorem FU(N:Nat)(m:aw)(hw:QP m)(hl:m.regs.length≤1000)(r:Int)(h0:0≤r)(h1:r<m.regs.length)(l:List Int)(hN:1100≤N)(oO:l.length≤1000)(hlr:fO m l):
  R N 96 [ag (ah m),ai r,.p (ints l)] []=some (ab (!l.any (aP m r)),[]):=by
 have aa:rows 96=_:=Yj.eq_1
 obtain⟨n,rfl⟩:=up N
 rw[aE 96 Tryz.func96 rfl rfl]
 generalize hQ:l.any (aP m r)=Q
 simp[aa]
 rw[abD l (aP m r) (fun k=>⟨[(1,ai r),(2,.p (ints l)),(3,.ref 0 0),(6,ab false),(7,ai k)],[bx (ah m)]⟩)
  (fun k=>(.ret,⟨[(1,ai r),(2,.p (ints l)),(3,.ref 0 0),(6,ab false),(7,ai k)],[bx (ah m)]⟩)) (by omega) (by simp[aa]) (by
    intro k x h hx _ hm K
    have w1:=aA h (by omega)
    by_cases ayv:x<0
    ·have e:aP m r x=false:=by unfold aP;rw[if_pos ayv]
     have hn:¬0≤x:=by omega
     rw[e]
     simp[aa,h,hx,hn,w1]
    ·have hn:0≤x:=by omega
     have ho:=tq n m hw (by omega) hl r x h0 h1 hn (hlr x hm)
     cases hp:aP m r x<;>rw[hp] at ho<;>simp[aa,h,hx,hn,ho,w1]) (by simp[aa])]
 rcases ao (aP m r) l with⟨e1,e2,_⟩|⟨i,e1,e2,_⟩<;>rw[e2] at hQ<;>subst hQ<;>rw[e1]<;>simp[aa]
theorem Rp(N:Nat)(b:qw)(r:Int)(hN:b.regs.length+1<N)(hl:b.regs.length≤1000):R N 73 [ag (fJ b),ai r] []=some (ai (fC (fun x=>decide (x=r)) b.regs),[]):=by
 have aa:rows 73=_:=Yx.eq_1
 obtain⟨n,rfl⟩:=up N
 rw[aE 73 Tryz.func73 rfl rfl]
 simp[aa]
 rw[abD b.regs (fun x=>decide (x=r)) (fun k=>⟨[(1,ai r),(2,.ref 0 0),(4,ai 0),(5,ai k)],[bx (fJ b)]⟩)
  (fun k=>(.ret,⟨[(1,ai r),(2,.ref 0 0),(4,ai k),(5,ai k)],[bx (fJ b)]⟩)) (by omega) (by simp[aa]) (by
    intro k x h hx _ hm K
    have w1:=aA h (by omega)
    by_cases hp:x=r<;>simp[aa,h,hx,hp,w1]) (by simp[aa])]
 rcases ao (fun x:Int=>decide (x=r)) b.regs with⟨e1,_,e2⟩|⟨i,e1,_,e2⟩<;>rw[e1,e2]<;>simp[aa]
theorem Bg(N:Nat)(hN:1100≤N)(m:aw)(hw:qa m)(b r:Int)(h0:0≤b)(h1:b<m.banks.length):R N 95 [ag (ah m),ai b,ai r] []=some (ab (zm m b r),[]):=by
 have aa:rows 95={}:=rfl
 obtain⟨n,rfl⟩:=up N
 rw[aE 95 Tryz.func95 rfl rfl]
 obtain⟨x,h2,hx,bI,hm⟩:=aR h0 h1
 have hb:=(hw.bn x hm).2.1
 have hp:=Rp n x r (by omega) (by omega)
 have e:zm m b r=decide (0≤fC (fun y=>decide (y=r)) x.regs):=by
  unfold zm;rw[bI]
  have e2:(x.regs.any fun y=>decide (r=y))=x.regs.any fun y=>decide (y=r):=by
   congr 1;funext y;rw[decide_eq_decide];exact eq_comm
  rw[e2]
  rcases ao (fun y:Int=>decide (y=r)) x.regs with⟨_,e3,e4⟩|⟨i,_,e3,e4⟩<;>rw[e3,e4]<;>simp
 rw[e]
 simp[aa,h0,h1,h2,hx,hp]
theorem O_(N:Nat)(hN:1200≤N)(m:aw)(hw:qa m)(c:Conv)(r:Int)(hl:c.moves.length≤1000)(hb:∀x∈c.moves,0≤x.bank∧x.bank<m.banks.length):
  R N 97 [ag (ah m),ag (ax c),ai r] []=some (ai (fC (fun x=>zm m x.bank r) c.moves),[]):=by
 have aa:rows 97=_:=Yi.eq_1
 obtain⟨n,rfl⟩:=up N
 rw[aE 97 Tryz.func97 rfl rfl]
 simp[aa]
 rw[abD c.moves (fun x=>zm m x.bank r) (fun k=>⟨[(2,ai r),(3,.ref 0 0),(4,.ref 1 0),(6,ai 0),(7,ai k)],[bx (ah m),bx (ax c)]⟩)
  (fun k=>(.ret,⟨[(2,ai r),(3,.ref 0 0),(4,.ref 1 0),(6,ai k),(7,ai k)],[bx (ah m),bx (ax c)]⟩)) (by omega) (by simp[aa]) (by
    intro k x h hx _ hm K
    have w1:=aA h (by omega)
    have hi:=Bg n (by omega) m hw x.bank r (hb x hm).1 (hb x hm).2
    cases hp:zm m x.bank r<;>rw[hp] at hi<;>simp[aa,h,hx,hi,w1]) (by simp[aa])]
 rcases ao (fun x:zU=>zm m x.bank r) c.moves with⟨e1,_,e2⟩|⟨i,e1,_,e2⟩<;>rw[e1,e2]<;>simp[aa]
theorem u_(N:Nat)(hN:1≤N)(m:aw)(r:Int):R N 62 [ag (ah m),ai r] []=some (ab (vh m r),[]):=by
 have aa:rows 62={}:=rfl
 obtain⟨n,rfl⟩:=up N
 rw[aE 62 Tryz.func62 rfl rfl]
 simp[aa,vh]
def wU(m:aw)(e:jY):Bool:=aj (decide (e.kind=1)) (decide (e.op=-1))&& !(m.banks.any fun b=>b.regs.any (aP m e.reg))
def RX(m:aw)(e:jY):Prop:=e.kind=1→e.op=-1→0≤e.reg∧e.reg<m.regs.length
theorem qa.regsOk{m:aw}(h:qa m){b:qw}(hb:b∈m.banks):fO m b.regs:=fun x hx=>((h.bn b hb).2.2 x hx).2
theorem Om(N:Nat)(hN:100≤N)(v:View)(hw:qa v.p.m)(e:jY)(h0:0≤e.reg)(h1:e.reg<v.p.m.regs.length)(b:qw)(hb:b∈v.p.m.banks):
  R N 141 (ag (fJ b)::refs 2) (boxes [aB v,b_ e])=some (ab (b.regs.any (aP v.p.m e.reg)),boxes [aB v,b_ e]):=by
 have aa:rows 141={}:=rfl
 obtain⟨n,rfl⟩:=up N
 rw[aE 141 Tryz.func141 rfl rfl]
 have hl:=(hw.bn b hb).2.1
 have ho:=iw n v.p e.reg b.regs (by omega) (by omega) h0 h1 (hw.regsOk hb)
 simp[aa,boxes,refs,fA,ho]
theorem SZ(N:Nat)(hN:200≤N)(v:View)(hw:qa v.p.m)(e:jY)(he:RX v.p.m e):
  R N 120 [ag (aB v),ag (b_ e)] []=some (ab (wU v.p.m e),[]):=by
 have aa:rows 120={}:=rfl
 obtain⟨n,rfl⟩:=up N
 rw[aE 120 Tryz.func120 rfl rfl]
 unfold wU
 have p7:=hw.nb
 by_cases k1:e.kind=1
 ·by_cases k2:e.op=-1
  ·obtain⟨h0,h1⟩:=he k1 k2
   have hc:=uU n v.p.m.banks 141 [aB v,b_ e] (fun b=>b.regs.any (aP v.p.m e.reg)) rfl (by simp) (by omega) (by omega) (fun M hM b hb=>Om M (by omega) v hw e h0 h1 b hb)
   simp[boxes,refs,fA,-List.any_eq_true] at hc
   simp[aa,eq_true k1,eq_true k2,hc,-List.any_eq_true]
  ·simp[aa,eq_true k1,k2]
 ·simp[aa,k1]
theorem P8(N:Nat)(hN:200≤N)(f:Da)(hw:qa f.m)(hr:QP f.m)(e:jY)(he:RX f.m e):
  R N 136 [ag (bP f),ag (b_ e)] []=some (ab (wU f.m e),[]):=by
 have aa:rows 136=_:=Z5.eq_1
 obtain⟨n,rfl⟩:=up N
 rw[aE 136 Tryz.func136 rfl rfl]
 unfold wU
 have p7:=hw.nb
 have hnr:=hw.nr
 by_cases k1:e.kind=1
 ·by_cases k2:e.op=-1
  ·obtain⟨h0,h1⟩:=he k1 k2
   generalize hQ:(f.m.banks.any fun b=>b.regs.any (aP f.m e.reg))=Q
   simp[aa,eq_true k1,eq_true k2]
   rw[abD f.m.banks (fun b=>b.regs.any (aP f.m e.reg)) (fun k=>⟨[(2,.ref 0 0),(3,.ref 1 0),(4,ab false),(5,ai k)],[bx (bP f),bx (b_ e)]⟩)
    (fun k=>(.ret,⟨[(2,.ref 0 0),(3,.ref 1 0),(4,ab false),(5,ai k)],[bx (bP f),bx (b_ e)]⟩)) (by omega) (by simp[aa]) (by
      intro k b h hx _ hm K
      have w1:=aA h (by omega)
      have MA:=(hw.bn b hm).2.1
      generalize hP:b.regs.any (aP f.m e.reg)=P
      simp[aa,h,hx]
      rw[aJ b.regs (aP f.m e.reg) (fun j=>⟨[(2,.ref 0 0),(3,.ref 1 0),(4,ab false),(5,ai k),(6,ai j)],[bx (bP f),bx (b_ e)]⟩)
       (fun j=>(.ret,⟨[(2,.ref 0 0),(3,.ref 1 0),(4,ab false),(5,ai k),(6,ai j)],[bx (bP f),bx (b_ e)]⟩))
       (.exit 2,⟨[(2,.ref 0 0),(3,.ref 1 0),(4,ab false),(5,ai k),(6,ai b.regs.length)],[bx (bP f),bx (b_ e)]⟩) (by omega) (by simp[aa]) (by
         intro j r hj Vj _ RC K
         have w2:=aA hj (by omega)
         have De:=(hw.bn b hm).2.2 r RC
         have ho:=tq n f.m hr (by omega) (by omega) e.reg r h0 h1 De.1 De.2
         cases hp:aP f.m e.reg r<;>rw[hp] at ho<;>simp[aa,h,hx,hj,Vj,ho,w2]) (by simp[aa,h,hx])]
      rcases ao (aP f.m e.reg) b.regs with⟨e1,e2,_⟩|⟨i,e1,e2,_⟩<;>rw[e2] at hP<;>subst hP<;>rw[e1]<;>simp[aa,w1]) (by simp[aa])]
   rcases ao (fun b:qw=>b.regs.any (aP f.m e.reg)) f.m.banks with⟨e1,e2,_⟩|⟨i,e1,e2,_⟩<;>rw[e2] at hQ<;>subst hQ<;>rw[e1]<;>simp[aa]
  ·simp[aa,eq_true k1,k2]
 ·simp[aa,k1]
@[simp] theorem ag3(x:jY):((b_ x).map AV.p).drop 21=[]:=List.drop_eq_nil_of_le (by simp)
def mj:jY:=⟨0,0,0,default,default,default⟩
def bN(m:aw)(l:List jY):Nat→jY×Nat
 |0=>(mj,0)
 |k+1=>if wU m (nth l (k:Int))=true then bN m l k else(nth l (k:Int),(bN m l k).2+1)
theorem xN(m:aw)(l:List jY):∀k,(bN m l k).2≤k
 |0=>Nat.le_refl _
 |k+1=>by
  have:=xN m l k
  simp only[bN];split
  ·omega
  ·simp only;omega
theorem rB:(default:Tr)=.mk 0 0 0 ⟨#[]⟩ 0 true []:=rfl
theorem Am:(b_ mj).map AV.p=[.p (.int .u8 0),ai 0,ai 0,.p (.int .u8 0),ai 0,.p (.int .u64 0),.p (.str ⟨#[]⟩),ai 0,.p .nils,.p (.int .u8 0),ai 0,.p (.int .u64 0),.p (.str ⟨#[]⟩),ai 0,.p .nils,.p (.int .u8 0),ai 0,.p (.int .u64 0),.p (.str ⟨#[]⟩),ai 0,.p .nils]:=by
 simp[mj,b_,ae,rB,Tr.kind,Tr.width,Tr.bits,Tr.name,Tr.low,Tr.z,Tr.sub]
theorem wg(N:Nat)(hN:300≤N)(f:Da)(hw:qa f.m)(hr:QP f.m)(hl:f.s.effs.length≤100)(he:∀e∈f.s.effs,RX f.m e):
  R N 100 [ag (bP f)] []=some (.tup [ag (b_ (bN f.m f.s.effs f.s.effs.length).1),ab (decide (((bN f.m f.s.effs f.s.effs.length).2:Int)=1))],[]):=by
 have aa:rows 100=_:=aai.eq_1
 obtain⟨n,rfl⟩:=up N
 rw[aE 100 Tryz.func100 rfl rfl]
 simp -implicitDefEqProofs[aa]
 rw[abC f.s.effs.length (fun k=>⟨[(1,.ref 0 0),(2,.ref 1 0),(4,.ref 2 0),(5,ai (bN f.m f.s.effs k).2),(6,ai k)],[bx (bP f),bx (b_ mj),bx (b_ (bN f.m f.s.effs k).1)]⟩) (by omega) (by simp -implicitDefEqProofs[aa,bN,Am]) (by
    intro k h K
    have w1:=aA h (by omega)
    obtain⟨x,hx,bI,hm⟩:=ay h
    have hs:=P8 n (by omega) f hw hr x (he x hm)
    have hle:=xN f.m f.s.effs k
    have w2:IntKind.i64.wrap (((bN f.m f.s.effs k).2:Int)+1)=((bN f.m f.s.effs k).2:Int)+1:=wrap64 (by omega) (by omega)
    cases hc:wU f.m x
    ·rw[hc] at hs
     have e:bN f.m f.s.effs (k+1)=(x,(bN f.m f.s.effs k).2+1):=by simp[bN,bI,hc]
     rw[e]
     generalize bN f.m f.s.effs k=q at*
     simp -implicitDefEqProofs[aa,h,hx,hs,w1,w2]
    ·rw[hc] at hs
     have e:bN f.m f.s.effs (k+1)=bN f.m f.s.effs k:=by simp[bN,bI,hc]
     rw[e]
     generalize bN f.m f.s.effs k=q at*
     simp -implicitDefEqProofs[aa,h,hx,hs,w1]) (by simp -implicitDefEqProofs[aa])]
 generalize bN f.m f.s.effs f.s.effs.length=q
 simp -implicitDefEqProofs[aa]
def k8(j:Bool)(s:dh)(args:List Int)(i:Nat):Bool:=
 cE (aj (decide ((nth s.opds i).kind=4)) (!j)) (aj (decide (0≤(nth s.opds i).tied)) (!decide (nth args i=nth args (nth s.opds i).tied)))
def aG(m:aw)(t:gf)(j:Bool):Bool:=
 decide (0≤t.instr)&&(decide (t.instr<m.instrs.length)&&(decide (t.args.length=(nth m.instrs t.instr).opds.length)&&
  !((List.range (nth m.instrs t.instr).opds.length).any (k8 j (nth m.instrs t.instr) t.args))))
structure vW(m:aw)(s:dh):Prop where
 ol:s.opds.length≤100
 el:s.effs.length≤100
 tied:∀o∈s.opds,o.tied<s.opds.length
 effs:∀e∈s.effs,RX m e
def bc(p:eU)(t:gf):View:=
 ⟨p,t.args,nth p.m.instrs t.instr,(bN p.m (nth p.m.instrs t.instr).effs (nth p.m.instrs t.instr).effs.length).1,decide (((bN p.m (nth p.m.instrs t.instr).effs (nth p.m.instrs t.instr).effs.length).2:Int)=1)⟩
@[simp] theorem amt(p:eU)(args:List Int)(s:dh):(aD p).map AV.p++AV.p (ints args)::((aU s).map AV.p++[.p (.int .u8 0),ai 0,ai 0,.p (.int .u8 0),ai 0,.p (.int .u64 0),.p (.str ⟨#[]⟩),ai 0,.p .nils,.p (.int .u8 0),ai 0,.p (.int .u64 0),.p (.str ⟨#[]⟩),ai 0,.p .nils,.p (.int .u8 0),ai 0,.p (.int .u64 0),.p (.str ⟨#[]⟩),ai 0,.p .nils,.p (.bool false)])=(aB ⟨p,args,s,mj,false⟩).map AV.p:=by
  have:=Am
  simp only[aB,List.map_append,List.map_cons,List.map_nil,this];simp
@[simp] theorem agR(p:eU):((aD p).map AV.p).take 25=(aD p).map AV.p:=by rw[List.take_of_length_le (by simp)]
@[simp] theorem agW(p:eU):((aD p).map AV.p).drop 25=[]:=List.drop_eq_nil_of_le (by simp)
@[simp] theorem agV(p:eU):((aD p).map AV.p).drop 34=[]:=List.drop_eq_nil_of_le (by simp)
def eK:List AV:=[.p (.str ⟨#[]⟩),.p (.int .i64 0),.p (.int .i64 0),.p .nils,.p .nils,.p .nils,.p .nils,.p (.int .i64 0),.p (.int .i64 0),.p (.int .i64 0),.p .nils,.p (.int .i64 0),.p .nils,.p (.int .i64 0),.p .nils,.p (.int .i64 0),.p .nils,.p (.int .i64 0),.p .nils,.p (.int .i64 0),.p .nils,.p (.int .i64 0),.p .nils,.p (.int .i64 0),.p .nils,.p (.str ⟨#[]⟩),.p (.int .u64 0),.p (.int .u64 0),.p .nils,.p .nils,.p (.int .i64 0),.p (.int .i64 0),.p (.int .i64 0),.p (.int .i64 0),.p (.int .u8 0),.p (.int .i64 0),.p (.int .i64 0),.p (.int .u8 0),.p (.int .i64 0),.p (.int .u64 0),.p (.str ⟨#[]⟩),.p (.int .i64 0),.p .nils,.p (.int .u8 0),.p (.int .i64 0),.p (.int .u64 0),.p (.str ⟨#[]⟩),.p (.int .i64 0),.p .nils,.p (.int .u8 0),.p (.int .i64 0),.p (.int .u64 0),.p (.str ⟨#[]⟩),.p (.int .i64 0),.p .nils,.p (.bool false)]
def fw:List AV:=[.p (.str ⟨#[]⟩),.p (.int .i64 0),.p (.int .i64 0),.p .nils,.p .nils,.p .nils,.p .nils,.p (.int .i64 0),.p (.int .i64 0),.p (.int .i64 0),.p .nils,.p (.int .i64 0),.p .nils,.p (.int .i64 0),.p .nils,.p (.int .i64 0),.p .nils,.p (.int .i64 0),.p .nils,.p (.int .i64 0),.p .nils,.p (.int .i64 0),.p .nils,.p (.int .i64 0),.p (.int .i64 0),.p .nils,.p (.str ⟨#[]⟩),.p (.int .u64 0),.p (.int .u64 0),.p .nils,.p .nils,.p (.int .i64 0),.p (.int .i64 0),.p (.int .i64 0),.p (.int .i64 0)]
@[simp] theorem pView_main(v:View)(e:jY):((aB v).map AV.p).take 34++((b_ e).map AV.p++((aB v).map AV.p).drop 55)=(aB {v with main:=e}).map AV.p:=by
  have:((aD v.p).map AV.p).take 34=(aD v.p).map AV.p:=by rw[List.take_of_length_le (by simp)]
  simp[aB,List.take_append,List.drop_append,List.drop_eq_nil_of_le,this]
@[simp] theorem agM(v:View):((aB v).map AV.p).drop 56=[]:=List.drop_eq_nil_of_le (by simp)
@[simp] theorem azp(g:Bool):rP g g true=true:=by cases g<;>rfl
theorem Sv(m:Nat):∀x∈eK,cA m x=true:=by simp[eK]
@[simp] theorem age(m:Nat):eK.all (cA m)=true:=List.all_eq_true.2 (Sv m)
@[simp] theorem TF(p:eU)(args:List Int)(s:dh)(mn:jY)(o b:Bool):((aB ⟨p,args,s,mn,o⟩).map AV.p).take 55++[.p (.bool b)]=(aB ⟨p,args,s,mn,b⟩).map AV.p:=by
  have:((aD p).map AV.p).take 55=(aD p).map AV.p:=by rw[List.take_of_length_le (by simp)]
  have h2:((aU s).map AV.p).take 30=(aU s).map AV.p:=by rw[List.take_of_length_le (by simp)]
  simp[aB,List.take_append,List.drop_append,List.drop_eq_nil_of_le,this,h2]
theorem TT(N:Nat)(hN:400≤N)(p:eU)(t:gf)(j:Bool)(hw:qa p.m)(ha:t.args.length≤100)(hi:∀s∈p.m.instrs,vW p.m s):
  (aG p.m t j=true→R N 84 [ag (aD p),ag (bm t),ab j] []=some (.tup [ag (aB (bc p t)),ab true],[]))∧
  (aG p.m t j=false→R N 84 [ag (aD p),ag (bm t),ab j] []=some (.tup [.agg eK,ab false],[])):=by
 by_cases c0:0≤t.instr∧t.instr<p.m.instrs.length
 ·obtain⟨s,g2,hs,Ce,vO⟩:=aR c0.1 c0.2
  have hI:=hi s vO
  unfold aG bc
  rw[Ce]
  have c1:¬t.instr<0:=by omega
  have c2:¬(p.m.instrs.length:Int)≤t.instr:=by omega
  by_cases c3:t.args.length=s.opds.length
  ·have Ip:(t.args.length:Int)=s.opds.length:=by omega
   have hol:=hI.ol
   have RH:=hI.el
   have c4:decide (t.args.length=s.opds.length)=true:=by simpa using c3
   rw[c4]
   have q0:decide (0≤t.instr)=true:=by simpa using c0.1
   have q1:decide (t.instr<(p.m.instrs.length:Int))=true:=by simpa using c0.2
   rw[q0,q1]
   generalize hQ:(List.range s.opds.length).any (k8 j s t.args)=Q
   suffices hz:R N 84 [ag (aD p),ag (bm t),ab j] []=some (if Q=true then .tup [.agg eK,ab false] else .tup [.agg ((aB ⟨p,t.args,s,(bN p.m s.effs s.effs.length).1,decide (((bN p.m s.effs s.effs.length).2:Int)=1)⟩).map .p),ab true],[]) by
    refine⟨fun h=> ?_,fun h=> ?_⟩
    ·simp at h;rw[h] at hz;simpa using hz
    ·simp at h;rw[h] at hz;simpa using hz
   have aa:rows 84=_:=Zj.eq_1
   obtain⟨n,rfl⟩:=up N
   rw[aE 84 Tryz.func84 rfl rfl]
   simp[aa,c0.1,c0.2,c1,c2,g2,hs,c3,eq_true Ip,List.take_append,List.drop_append]
   rw[acI s.opds.length (k8 j s t.args) (fun k=>⟨[(2,ab j),(6,.ref 2 0),(7,ab false),(8,.ref 3 0),(49,.p (.sl (s.opds.map l_))),(50,ai s.opds.length),(51,ai k)],
      [bx (aD p),bx (bm t),.box eK,bx (aB ⟨p,t.args,s,mj,false⟩)]⟩)
    (fun k=>(.ret,⟨[(2,ab j),(6,.ref 2 0),(7,ab false),(8,.ref 3 0),(49,.p (.sl (s.opds.map l_))),(50,ai s.opds.length),(51,ai k)],
      [bx (aD p),bx (bm t),.box eK,bx (aB ⟨p,t.args,s,mj,false⟩)]⟩)) (by omega) (by simp[aa,eK]) (by
      intro k h K
      have w1:=aA h (by omega)
      obtain⟨o,ho,lM,hom⟩:=ay h
      have ht:=hI.tied o hom
      have A8:k<t.args.length:=by omega
      obtain⟨y,hy,dV,_⟩:=ay A8
      by_cases q2:0≤o.tied
      ·obtain⟨z,g3,hz,Cd,_⟩:=aR (l:=t.args) q2 (show o.tied<(t.args.length:Int) by omega)
       have e:k8 j s t.args k=cE (aj (decide (o.kind=4)) (!j)) (!decide (y=z)):=by
        unfold k8;rw[lM,dV,Cd];simp[q2]
       have g4:o.tied<(t.args.length:Int):=by omega
       rw[e]
       generalize hV:((aB ⟨p,t.args,s,mj,false⟩).map AV.p)=V
       have aCT:V[24]? =some (.p (ints t.args)):=by rw[←hV];simp
       subst hV
       unfold eK
       cases hc:cE (aj (decide (o.kind=4)) (!j)) (!decide (y=z))<;>
        simp[aa,h,ho,A8,hy,q2,g3,g4,hz,w1,hc,←c3]
      ·have e:k8 j s t.args k=aj (decide (o.kind=4)) (!j):=by
        unfold k8;rw[lM];simp[q2,aK]
       rw[e]
       unfold eK
       cases hc:aj (decide (o.kind=4)) (!j)<;>
        simp[aa,h,ho,A8,hy,q2,w1,hc]) (by simp[aa])]
   rcases ao (k8 j s t.args) (List.range s.opds.length) with⟨e1,e2,_⟩|⟨i,e1,e2,_⟩
   rotate_left
   ·rw[e2] at hQ;subst hQ;rw[e1];unfold eK;simp[aa]
   ·rw[e2] at hQ;subst hQ;rw[e1]
    simp[aa]
    rw[av s.effs.length (fun k=>⟨[(6,.ref 2 0),(8,.ref 3 0),(11,ai (bN p.m s.effs k).2),(86,.p (.sl (s.effs.map s8))),(87,ai s.effs.length),(88,ai k)],
       [bx (aD p),bx (bm t),.box eK,bx (aB ⟨p,t.args,s,(bN p.m s.effs k).1,false⟩)]⟩)
     (.exit 2,⟨[(6,.ref 2 0),(8,.ref 3 0),(11,ai (bN p.m s.effs s.effs.length).2),(86,.p (.sl (s.effs.map s8))),(87,ai s.effs.length),(88,ai s.effs.length)],
       [bx (aD p),bx (bm t),.box eK,bx (aB ⟨p,t.args,s,(bN p.m s.effs s.effs.length).1,false⟩)]⟩) (by omega) (by simp[aa,bN]) (by
       intro k h K
       have w1:=aA h (by omega)
       obtain⟨x,hx,bI,hm⟩:=ay h
       have Ry:=fun mn=>SZ n (by omega) ⟨p,t.args,s,mn,false⟩ hw x (hI.effs x hm)
       have hle:=xN p.m s.effs k
       have w2:IntKind.i64.wrap (((bN p.m s.effs k).2:Int)+1)=((bN p.m s.effs k).2:Int)+1:=wrap64 (by omega) (by omega)
       cases hc:wU p.m x
       ·simp only[hc] at Ry
        have e:bN p.m s.effs (k+1)=(x,(bN p.m s.effs k).2+1):=by simp[bN,bI,hc]
        rw[e]
        generalize bN p.m s.effs k=q at*
        simp[aa,h,hx,Ry,w1,w2]
       ·simp only[hc] at Ry
        have e:bN p.m s.effs (k+1)=bN p.m s.effs k:=by simp[bN,bI,hc]
        rw[e]
        generalize bN p.m s.effs k=q at*
        simp[aa,h,hx,Ry,w1]) (by simp[aa])]
    generalize bN p.m s.effs s.effs.length=q
    unfold eK
    simp[aa]
  ·refine⟨fun h=>by simp[c3] at h,fun _=> ?_⟩
   have aa:rows 84=_:=Zj.eq_1
   obtain⟨n,rfl⟩:=up N
   rw[aE 84 Tryz.func84 rfl rfl]
   have Ip:¬(t.args.length:Int)=s.opds.length:=by omega
   unfold eK
   simp[aa,c0.1,c0.2,c1,c2,g2,hs,c3,Ip,List.take_append,List.drop_append]
 ·have e:aG p.m t j=false:=by
   unfold aG
   by_cases h:0≤t.instr
   ·have:¬t.instr<p.m.instrs.length:=fun h'=>c0 ⟨h,h'⟩
    simp[this]
   ·simp[h]
  rw[e]
  refine⟨fun h=>by simp at h,fun _=> ?_⟩
  have aa:rows 84=_:=Zj.eq_1
  obtain⟨n,rfl⟩:=up N
  rw[aE 84 Tryz.func84 rfl rfl]
  have c1:cE (decide (t.instr<0)) (decide ((p.m.instrs.length:Int)≤t.instr))=true:=by rw[aK];simp;omega
  unfold eK
  simp[aa,c1]
@[simp] theorem atD(m:aw)(c:Conv)(t:gf)(s:dh):(ah m).map AV.p++((ax c).map AV.p++((bm t).map AV.p++(aU s).map AV.p))=(bP ⟨m,c,t,s⟩).map AV.p:=by
  simp[bP]
theorem Sx(m:Nat):∀x∈fw,cA m x=true:=by simp[fw]
@[simp] theorem agf(m:Nat):fw.all (cA m)=true:=List.all_eq_true.2 (Sx m)
@[simp] theorem amU(m:aw)(k:Nat)(h:7≤k):((ah m).map AV.p).take k=(ah m).map AV.p:=List.take_of_length_le (by simpa using h)
@[simp] theorem am2(m:aw)(k:Nat)(h:7≤k):((ah m).map AV.p).drop k=[]:=List.drop_eq_nil_of_le (by simpa using h)
@[simp] theorem anh(m:Conv)(k:Nat)(h:17≤k):((ax m).map AV.p).take k=(ax m).map AV.p:=List.take_of_length_le (by simpa using h)
@[simp] theorem anq(m:Conv)(k:Nat)(h:17≤k):((ax m).map AV.p).drop k=[]:=List.drop_eq_nil_of_le (by simpa using h)
@[simp] theorem atb(m:gf)(k:Nat)(h:2≤k):((bm m).map AV.p).take k=(bm m).map AV.p:=List.take_of_length_le (by simpa using h)
@[simp] theorem ate(m:gf)(k:Nat)(h:2≤k):((bm m).map AV.p).drop k=[]:=List.drop_eq_nil_of_le (by simpa using h)
theorem ik(N:Nat)(hN:400≤N)(m:aw)(c:Conv)(t:gf)(j:Bool)(ha:t.args.length≤100)(hi:∀s∈m.instrs,vW m s):
  (aG m t j=true→R N 98 [ag (ah m),ag (ax c),ag (bm t),ab j] []=some (.tup [ag (bP ⟨m,c,t,nth m.instrs t.instr⟩),ab true],[]))∧
  (aG m t j=false→R N 98 [ag (ah m),ag (ax c),ag (bm t),ab j] []=some (.tup [.agg fw,ab false],[])):=by
 by_cases c0:0≤t.instr∧t.instr<m.instrs.length
 ·obtain⟨s,g2,hs,Ce,vO⟩:=aR c0.1 c0.2
  have hI:=hi s vO
  unfold aG
  rw[Ce]
  have c1:¬t.instr<0:=by omega
  have c2:¬(m.instrs.length:Int)≤t.instr:=by omega
  by_cases c3:t.args.length=s.opds.length
  ·have Ip:(t.args.length:Int)=s.opds.length:=by omega
   have hol:=hI.ol
   have RH:=hI.el
   have c4:decide (t.args.length=s.opds.length)=true:=by simpa using c3
   rw[c4]
   have q0:decide (0≤t.instr)=true:=by simpa using c0.1
   have q1:decide (t.instr<(m.instrs.length:Int))=true:=by simpa using c0.2
   rw[q0,q1]
   generalize hQ:(List.range s.opds.length).any (k8 j s t.args)=Q
   suffices hz:R N 98 [ag (ah m),ag (ax c),ag (bm t),ab j] []=some (if Q=true then .tup [.agg fw,ab false] else .tup [ag (bP ⟨m,c,t,s⟩),ab true],[]) by
    refine⟨fun h=> ?_,fun h=> ?_⟩
    ·simp at h;rw[h] at hz;simpa using hz
    ·simp at h;rw[h] at hz;simpa using hz
   have aa:rows 98=_:=Zi.eq_1
   obtain⟨n,rfl⟩:=up N
   rw[aE 98 Tryz.func98 rfl rfl]
   simp[aa,c0.1,c0.2,c1,c2,g2,hs,c3,eq_true Ip,List.take_append,List.drop_append]
   rw[acI s.opds.length (k8 j s t.args) (fun k=>⟨[(3,ab j),(6,.ref 2 0),(8,.ref 3 0),(9,ab false),(10,.ref 4 0),(11,ai k)],
      [bx (ah m),bx (ax c),bx (bm t),.box fw,bx (bP ⟨m,c,t,s⟩)]⟩)
    (fun k=>(.ret,⟨[(3,ab j),(6,.ref 2 0),(8,.ref 3 0),(9,ab false),(10,.ref 4 0),(11,ai k)],
      [bx (ah m),bx (ax c),bx (bm t),.box fw,bx (bP ⟨m,c,t,s⟩)]⟩)) (by omega) (by simp[aa,fw]) (by
      intro k h K
      have w1:=aA h (by omega)
      obtain⟨o,ho,lM,hom⟩:=ay h
      have ht:=hI.tied o hom
      have A8:k<t.args.length:=by omega
      obtain⟨y,hy,dV,_⟩:=ay A8
      by_cases q2:0≤o.tied
      ·obtain⟨z,g3,hz,Cd,_⟩:=aR (l:=t.args) q2 (show o.tied<(t.args.length:Int) by omega)
       have e:k8 j s t.args k=cE (aj (!j) (decide (o.kind=4))) (!decide (y=z)):=by
        unfold k8;rw[lM,dV,Cd];simp[q2,ak,aK,Bool.and_comm]
       have g4:o.tied<(t.args.length:Int):=by omega
       rw[e]
       unfold fw
       cases hc:cE (aj (!j) (decide (o.kind=4))) (!decide (y=z))<;>
        simp[aa,h,ho,A8,hy,q2,g3,g4,hz,w1,hc,←c3]
      ·have e:k8 j s t.args k=aj (!j) (decide (o.kind=4)):=by
        unfold k8;rw[lM];simp[q2,aK,ak,Bool.and_comm]
       rw[e]
       unfold fw
       cases hc:aj (!j) (decide (o.kind=4))<;>
        simp[aa,h,ho,A8,hy,q2,w1,hc]) (by simp[aa])]
   rcases ao (k8 j s t.args) (List.range s.opds.length) with⟨e1,e2,_⟩|⟨i,e1,e2,_⟩
   rotate_left
   ·rw[e2] at hQ;subst hQ;rw[e1];unfold fw;simp[aa]
   ·rw[e2] at hQ;subst hQ;rw[e1];unfold fw;simp[aa]
  ·refine⟨fun h=>by simp[c3] at h,fun _=> ?_⟩
   have aa:rows 98=_:=Zi.eq_1
   obtain⟨n,rfl⟩:=up N
   rw[aE 98 Tryz.func98 rfl rfl]
   have Ip:¬(t.args.length:Int)=s.opds.length:=by omega
   unfold fw
   simp[aa,c0.1,c0.2,c1,c2,g2,hs,c3,Ip,List.take_append,List.drop_append]
 ·have e:aG m t j=false:=by
   unfold aG
   by_cases h:0≤t.instr
   ·have:¬t.instr<m.instrs.length:=fun h'=>c0 ⟨h,h'⟩
    simp[this]
   ·simp[h]
  rw[e]
  refine⟨fun h=>by simp at h,fun _=> ?_⟩
  have aa:rows 98=_:=Zi.eq_1
  obtain⟨n,rfl⟩:=up N
  rw[aE 98 Tryz.func98 rfl rfl]
  have c1:cE (decide (t.instr<0)) (decide ((m.instrs.length:Int)≤t.instr))=true:=by rw[aK];simp;omega
  unfold fw
  simp[aa,c1]
theorem kM(l:List Int)(x:Int):∀k,∀y∈fR l x k,0≤y∧y<(k:Int)
 |0,y,h=>by simp[fR] at h
 |k+1,y,h=>by
  simp only[fR] at h
  split at h
  ·rcases List.mem_append.1 h with h|h
   ·have:=kM l x k y h;omega
   ·simp at h;omega
  ·have:=kM l x k y h;omega
def pl(l:List Int)(x:Int):Int:=nth (bo l x) 0
theorem lG{l:List Int}{x:Int}(h:0<(bo l x).length):(0≤pl l x∧pl l x<l.length)∧∀h:0<(bo l x).length,(bo l x)[0]=pl l x:=by
 obtain⟨y,hy,dV,hm⟩:=ay (l:=bo l x) (k:=0) h
 have e:pl l x=y:=dV
 rw[e]
 exact⟨kM l x l.length y hm,hy⟩
def eX(s:dh)(i b:Int):Bool:=aj (decide ((nth s.opds i).kind=1)) (cE (decide (b=-1)) (decide ((nth s.opds i).bank=b)))
def HG(s:dh)(i:Int):Bool:=cE (decide ((nth s.opds i).kind=2)) (decide ((nth s.opds i).kind=3))
def dc(m:aw)(s:dh)(i:Int):Tr:=nh (Hy m (nth s.opds i)) (nth s.opds i).name
def dg(m:aw)(s:dh)(a b:Int):Tr:=iR 5 m.address [dc m s a,dc m s b]
structure zr(v:View):Prop where
 wb:qa v.p.m
 len:v.args.length=v.ins.opds.length
 al:v.args.length≤100
 opds:∀o∈v.ins.opds,Bf v.p.m o
 val:Dp 80 v.main.val
 addr:Dp 80 v.main.addr
theorem zr.var{v:View}(h:zr v)(N:Nat)(hN:2≤N){i:Int}(h0:0≤i)(h1:i<v.args.length):R N 149 [ag (aB v),ai i] []=some (ag (aC (dc v.p.m v.ins i)),[]):=by
 have nA:i<v.ins.opds.length:=by have:=h.len;omega
 obtain⟨x,_,_,hx,hm⟩:=aR h0 nA
 exact Dt N hN v h.wb i h0 nA (by rw[hx];exact h.opds x hm)
theorem zr.reg{v:View}(h:zr v)(N:Nat)(hN:1≤N){i:Int}(b:Int)(h0:0≤i)(h1:i<v.args.length):R N 144 [ag (aB v),ai i,ai b] []=some (ab (eX v.ins i b),[]):=
 aaY N hN v i b h0 (by have:=h.len;omega)
theorem wQ(N:Nat)(hN:200≤N)(v:View)(hv:zr v)(f b:Int)(h1:0<(bo v.args f).length)(h2:0<(bo v.args (-3)).length)(h3:0<(bo v.args (-4)).length):
  R N 150 [ag (aB v),ai f,ai b] []=some (.tup [ai (pl v.args f),.agg ((aC (dg v.p.m v.ins (pl v.args (-3)) (pl v.args (-4)))).map .p),
   ab (aj (aj (eX v.ins (pl v.args f) b) (eX v.ins (pl v.args (-3)) (-1))) (HG v.ins (pl v.args (-4))))],[]):=by
 have aa:rows 150=_:=Z2.eq_1
 obtain⟨n,rfl⟩:=up N
 rw[aE 150 Tryz.func150 rfl rfl]
 have jc:=hv.al
 have ha:=fun x=>FN n v x (by omega) (by omega)
 obtain⟨⟨p0,p1⟩,p2⟩:=lG h1
 obtain⟨⟨q0,q1⟩,q2⟩:=lG h2
 obtain⟨⟨r0,r1⟩,r2⟩:=lG h3
 have WH:=hv.var n (by omega) q0 q1
 have WG:=hv.var n (by omega) r0 r1
 have mi:=hv.reg n (by omega) b p0 p1
 have zD:=hv.reg n (by omega) (-1) q0 q1
 have vk:=pH n (by omega) v 5 [dc v.p.m v.ins (pl v.args (-3)),dc v.p.m v.ins (pl v.args (-4))]
 have r3:pl v.args (-4)<v.ins.opds.length:=by have:=hv.len;omega
 obtain⟨o,g1,ho,lM,_⟩:=aR r0 r3
 have e:HG v.ins (pl v.args (-4))=cE (decide (o.kind=2)) (decide (o.kind=3)):=by unfold HG;rw[lM]
 rw[e]
 unfold dg
 simp[aT] at vk
 generalize pl v.args f=pf at*
 generalize pl v.args (-3)=ps at*
 generalize pl v.args (-4)=pn at*
 generalize dc v.p.m v.ins ps=t1 at*
 generalize dc v.p.m v.ins pn=t2 at*
 simp[aa,ha,h1,h2,h3,p2,q2,r2,WH,WG,mi,zD,vk,r0,r3,g1,ho]
@[simp] theorem abk(v:View):(((aB v).map AV.p).drop 43).take 6=(aC v.main.val).map AV.p:=by
  have h:((aB v).map AV.p).drop 43=((((aB v).map AV.p).drop 34).take 21).drop 9++[.p (.bool v.one)]:=by
   simp[aB,List.drop_append,List.take_append,List.drop_eq_nil_of_le]
  rw[h,Go.En.pView_main,List.take_append_of_le_length (by simp),OY]
@[simp] theorem V_(v:View):(((aB v).map AV.p).drop 37).take 6=(aC v.main.addr).map AV.p:=by
  have h:((aB v).map AV.p).drop 37=((((aB v).map AV.p).drop 34).take 21).drop 3++[.p (.bool v.one)]:=by
   simp[aB,List.drop_append,List.take_append,List.drop_eq_nil_of_le]
  rw[h,Go.En.pView_main,List.take_append_of_le_length (by simp),KU]
def zw(s:dh)(args:List Int)(f b:Int):Bool:=aj (aj (eX s (pl args f) b) (eX s (pl args (-3)) (-1))) (HG s (pl args (-4)))
def loadT(w:Int)(a:Tr):Tr:=.mk 24 w 0 ⟨#[]⟩ 0 false [a]
def TX(v:View)(b:Int):Bool:=
 v.one&&(e9 v.args 1 0 1 1&&(zw v.ins v.args (-1) b&&(fz v.main (pl v.args (-1))&&aI v.main.val (loadT (cy v.p.m b) (dg v.p.m v.ins (pl v.args (-3)) (pl v.args (-4)))))))
theorem o7{l:List Int}{a b c d:Int}(h:e9 l a b c d=true):((bo l (-1)).length:Int)=a∧((bo l (-2)).length:Int)=b∧((bo l (-3)).length:Int)=c∧((bo l (-4)).length:Int)=d:=by
 simpa [e9,ak,and_assoc] using h
theorem Pm(N:Nat)(hN:1400≤N)(v:View)(hv:zr v)(b:Int)(b0:0≤b)(b1:b<v.p.m.banks.length):
  R N 122 [ag (aB v),ai b] []=some (ab (TX v b),[]):=by
 have aa:rows 122=_:=NP.eq_1
 obtain⟨n,rfl⟩:=up N
 rw[aE 122 Tryz.func122 rfl rfl]
 have jc:=hv.al
 have hc:=mL n (by omega) v 1 0 1 1 (by omega)
 unfold TX
 cases ho:v.one
 ·simp[aa,ho]
 cases vn:e9 v.args 1 0 1 1
 ·rw[vn] at hc
  simp[aa,ho,hc]
 rw[vn] at hc
 obtain⟨l1,l2,l3,l4⟩:=o7 vn
 have cm:=wQ n (by omega) v hv (-1) b (by omega) (by omega) (by omega)
 have zC:=rY n (by omega) v.main (pl v.args (-1))
 have hw:=Bj n (by omega) hv.wb b0 b1
 have vO:=iM 80 n v.main.val (loadT (cy v.p.m b) (dg v.p.m v.ins (pl v.args (-3)) (pl v.args (-4)))) hv.val (by omega)
 unfold zw
 have e1:aC (loadT (cy v.p.m b) (dg v.p.m v.ins (pl v.args (-3)) (pl v.args (-4))))=[.int .u8 24,.int .i64 (cy v.p.m b),.int .u64 0,.str ⟨#[]⟩,.int .i64 0,.sl [.agg (aC (dg v.p.m v.ins (pl v.args (-3)) (pl v.args (-4))))]]:=by
  simp[loadT,ae,Tr.kind,Tr.width,Tr.bits,Tr.name,Tr.low,Tr.z,Tr.sub,aT]
 rw[e1] at vO
 generalize aI v.main.val (loadT (cy v.p.m b) (dg v.p.m v.ins (pl v.args (-3)) (pl v.args (-4))))=sm at*
 generalize dg v.p.m v.ins (pl v.args (-3)) (pl v.args (-4))=ad at*
 generalize pl v.args (-1)=p1 at*
 simp[ag] at vO
 simp[aa,ho,hc,cm,zC,hw,vO,ak,Bool.and_assoc]
def SX(v:View)(b:Int):Bool:=
 v.one&&(e9 v.args 0 1 1 1&&(zw v.ins v.args (-2) b&&(decide (v.main.kind=2)&&(aI v.main.addr (dg v.p.m v.ins (pl v.args (-3)) (pl v.args (-4)))&&aI v.main.val (dc v.p.m v.ins (pl v.args (-2)))))))
theorem Km(N:Nat)(hN:1400≤N)(v:View)(hv:zr v)(b:Int):
  R N 123 [ag (aB v),ai b] []=some (ab (SX v b),[]):=by
 have aa:rows 123=_:=NO.eq_1
 obtain⟨n,rfl⟩:=up N
 rw[aE 123 Tryz.func123 rfl rfl]
 have jc:=hv.al
 have hc:=mL n (by omega) v 0 1 1 1 (by omega)
 unfold SX
 cases ho:v.one
 ·simp[aa,ho]
 cases vn:e9 v.args 0 1 1 1
 ·rw[vn] at hc
  simp[aa,ho,hc]
 rw[vn] at hc
 obtain⟨l1,l2,l3,l4⟩:=o7 vn
 have cm:=wQ n (by omega) v hv (-2) b (by omega) (by omega) (by omega)
 obtain⟨⟨p0,p1⟩,_⟩:=lG (l:=v.args) (x:=-2) (by omega)
 have vN:=hv.var n (by omega) p0 p1
 have Nb:=iM 80 n v.main.addr (dg v.p.m v.ins (pl v.args (-3)) (pl v.args (-4))) hv.addr (by omega)
 have Mr:=iM 80 n v.main.val (dc v.p.m v.ins (pl v.args (-2))) hv.val (by omega)
 unfold zw
 generalize dg v.p.m v.ins (pl v.args (-3)) (pl v.args (-4))=ad at*
 generalize dc v.p.m v.ins (pl v.args (-2))=va at*
 generalize pl v.args (-2)=p2 at*
 generalize aj (aj (eX v.ins p2 b) (eX v.ins (pl v.args (-3)) (-1))) (HG v.ins (pl v.args (-4)))=sk at*
 generalize aI v.main.addr ad=s1 at*
 cases sk
 ·simp[aa,ho,hc,cm]
 by_cases k2:v.main.kind=2
 rotate_left
 ·simp[aa,ho,hc,cm,k2]
 cases s1
 ·simp[aa,ho,hc,cm,eq_true k2,Nb]
 ·simp[aa,ho,hc,cm,eq_true k2,vN,Nb,Mr]
theorem OM(N:Nat)(hN:5≤N)(v:View)(hv:zr v)(i:Int)(h0:0≤i)(h1:i<v.args.length):
  R N 174 (ai i::refs 1) (boxes [aB v])=some (ab (!eX v.ins i (-1)),boxes [aB v]):=by
 have aa:rows 174={}:=rfl
 obtain⟨n,rfl⟩:=up N
 rw[aE 174 Tryz.func174 rfl rfl]
 have hr:=hv.reg n (by omega) (-1) h0 h1
 simp[aa,boxes,refs,fA,hr]
theorem Tn(N:Nat)(hN:1100≤N)(v:View)(hv:zr v)(l:List Int)(hl:l.length≤1000)(hi:∀i∈l,0≤i∧i<(v.args.length:Int)):
  R N 151 [ag (aB v),.p (ints l)] []=some (ab (!l.any fun i=> !eX v.ins i (-1)),[]):=by
 have aa:rows 151={}:=rfl
 obtain⟨n,rfl⟩:=up N
 rw[aE 151 Tryz.func151 rfl rfl]
 have hc:=di n l 174 [aB v] (fun i=> !eX v.ins i (-1)) rfl (by simp) (by omega) (by omega) (fun M hM x hx=>OM M (by omega) v hv x (hi x hx).1 (hi x hx).2)
 simp[boxes,refs,fA,-List.any_eq_true] at hc
 generalize (l.any fun i=> !eX v.ins i (-1))=Q at*
 simp[aa,hc]
theorem U2(N:Nat)(hN:5≤N)(v:View)(i:Int):
  R N 152 (ai i::refs 1) (boxes [aB v])=some (ab (fz v.main i),boxes [aB v]):=by
 have aa:rows 152={}:=rfl
 obtain⟨n,rfl⟩:=up N
 rw[aE 152 Tryz.func152 rfl rfl]
 have hr:=rY n (by omega) v.main i
 simp[aa,boxes,refs,fA,hr]
theorem U1(N:Nat)(hN:1300≤N)(v:View)(hv:zr v)(i k:Int)(h0:0≤i)(h1:i<v.args.length)(k0:0≤k)(k1:k<v.args.length):
  R N 153 (ai i::refs 2) (boxes [aB v,[i64 k]])=some (ab (aI v.main.val (dg v.p.m v.ins i k)),boxes [aB v,[i64 k]]):=by
 have aa:rows 153=_:=Z1.eq_1
 obtain⟨n,rfl⟩:=up N
 rw[aE 153 Tryz.func153 rfl rfl]
 have WH:=hv.var n (by omega) h0 h1
 have WG:=hv.var n (by omega) k0 k1
 have vk:=pH n (by omega) v 5 [dc v.p.m v.ins i,dc v.p.m v.ins k]
 have Mr:=iM 80 n v.main.val (dg v.p.m v.ins i k) hv.val (by omega)
 unfold dg at Mr ⊢
 simp[aT] at vk
 generalize dc v.p.m v.ins i=t1 at*
 generalize dc v.p.m v.ins k=t2 at*
 simp[aa,boxes,refs,fA,WH,WG,vk,Mr]
def zb(v:View):Bool:=
 v.one&&((decide (0<(bo v.args (-3)).length)&&e9 v.args 0 0 (bo v.args (-3)).length 1)&&(decide ((nth v.ins.opds (pl v.args (-4))).kind=2)&&
  ((!(bo v.args (-3)).any fun i=> !eX v.ins i (-1))&&((bo v.args (-3)).any (fz v.main)&&(bo v.args (-3)).any fun i=>aI v.main.val (dg v.p.m v.ins i (pl v.args (-4)))))))
theorem Iy(N:Nat)(hN:1500≤N)(v:View)(hv:zr v)(b:Int):
  R N 124 [ag (aB v),ai b] []=some (ab (zb v),[]):=by
 have aa:rows 124={}:=rfl
 obtain⟨n,rfl⟩:=up N
 rw[aE 124 Tryz.func124 rfl rfl]
 have jc:=hv.al
 have ha:=fun x=>FN n v x (by omega) (by omega)
 have hc:=mL n (by omega) v 0 0 (bo v.args (-3)).length 1 (by omega)
 have oO:(bo v.args (-3)).length≤v.args.length:=dQ _ _ _
 have ny:∀i∈bo v.args (-3),0≤i∧i<(v.args.length:Int):=kM _ _ _
 have n7:=Tn n (by omega) v hv (bo v.args (-3)) (by omega) ny
 have ca:=di n (bo v.args (-3)) 152 [aB v] (fz v.main) rfl (by simp) (by omega) (by omega) (fun M hM x hx=>U2 M (by omega) v x)
 simp[boxes,refs,fA,-List.any_eq_true] at ca
 unfold zb
 cases ho:v.one
 ·simp[aa,ho,ha]
 by_cases h0:0<(bo v.args (-3)).length
 rotate_left
 ·have hz:bo v.args (-3)=[]:=List.eq_nil_of_length_eq_zero (by omega)
  simp[aa,ho,ha,hz]
 have Re:¬bo v.args (-3)=[]:=fun h=>by rw[h] at h0;simp at h0
 cases vn:e9 v.args 0 0 (bo v.args (-3)).length 1
 ·rw[vn] at hc
  simp[aa,ho,ha,Re,hc]
 rw[vn] at hc
 obtain⟨l1,l2,l3,l4⟩:=o7 vn
 have h4:0<(bo v.args (-4)).length:=by omega
 obtain⟨⟨r0,r1⟩,r2⟩:=lG h4
 have r3:pl v.args (-4)<v.ins.opds.length:=by have:=hv.len;omega
 obtain⟨o,g1,wk,zE,_⟩:=aR r0 r3
 have cb:=di n (bo v.args (-3)) 153 [aB v,[i64 (pl v.args (-4))]] (fun i=>aI v.main.val (dg v.p.m v.ins i (pl v.args (-4)))) rfl (by simp) (by omega) (by omega) (fun M hM x hx=>U1 M (by omega) v hv x (pl v.args (-4)) (ny x hx).1 (ny x hx).2 r0 r1)
 simp[boxes,refs,fA,-List.any_eq_true] at cb
 rw[zE]
 generalize ((bo v.args (-3)).any fun i=>aI v.main.val (dg v.p.m v.ins i (pl v.args (-4))))=Q3 at*
 generalize ((bo v.args (-3)).any (fz v.main))=Q2 at*
 generalize ((bo v.args (-3)).any fun i=> !eX v.ins i (-1))=Q1 at*
 by_cases k2:o.kind=2
 ·cases Q1
  ·cases Q2
   ·simp[aa,ho,ha,h0,Re,hc,h4,r2,r0,r3,g1,wk,eq_true k2,n7,ca,cb]
   ·simp[aa,ho,ha,h0,Re,hc,h4,r2,r0,r3,g1,wk,eq_true k2,n7,ca,cb]
  ·simp[aa,ho,ha,h0,Re,hc,h4,r2,r0,r3,g1,wk,eq_true k2,n7,ca,cb]
 ·simp[aa,ho,ha,h0,Re,hc,h4,r2,r0,r3,g1,wk,k2,n7,ca,cb]
def vT(m:aw)(c:Conv)(i:Nat):Bool:=iW m c (nth c.args i) [c.stack,c.link]&& !((c.args.take i).any fun x=>decide (nth c.args i=x))
def oJ(m:aw)(c:Conv)(i:Nat):Bool:=
 vh m (nth c.kept i)&&(decide (0≤fC (fun x:zU=>zm m x.bank (nth c.kept i)) c.moves)&&(!([c.stack,c.result].any (aP m (nth c.kept i)))&&(!(c.args.any (aP m (nth c.kept i)))&& !((c.kept.take i).any (aP m (nth c.kept i))))))
def Dw(c:Conv):Bool:=decide (0<c.args.length)&&(decide (c.args.length≤8)&&decide (c.kept.length≤64))
def BK(m:aw)(c:Conv):Bool:=
 (Dw c&&iW m c c.result [c.stack,c.link])&&((List.range c.args.length).all (vT m c)&&((List.range c.kept.length).all (oJ m c)&&((decide (c.link=-1)||c.kept.any fun x=>decide (c.link=x))&&
   (iW m c c.scratch [c.stack,c.link,c.result]&&(!(c.args.any (aP m c.scratch))&& !(c.kept.any (aP m c.scratch)))))))
structure agb(m:aw)(c:Conv):Prop where
 wb:qa m
 b0:0≤c.bank
 b1:c.bank<m.banks.length
 st:Pu m c.stack
 lk:c.link<m.regs.length
 al:c.args.length≤100
 kl:c.kept.length≤100
 ml:c.moves.length≤100
 mv:∀x∈c.moves,0≤x.bank∧x.bank<m.banks.length
theorem k_{α:Type}(p:α→Bool):∀l:List α,(l.any fun i=> !p i)= !l.all p
 |[]=>rfl
 |x::r=>by simp only[List.any_cons,List.all_cons,k_ p r,Bool.not_and]
theorem oT{m:aw}{c:Conv}{r:Int}{l:List Int}(h:iW m c r l=true):Pu m r:=by
 simp only[iW,Bool.and_eq_true] at h
 exact cT.1 h.1.1
theorem sc(N:Nat)(hN:1500≤N)(p:eU)(h:agb p.m p.c):R N 53 [ag (aD p)] []=some (ab (BK p.m p.c),[]):=by
 have aa:rows 53=_:=YJ.eq_1
 obtain⟨n,rfl⟩:=up N
 rw[aE 53 Tryz.func53 rfl rfl]
 have q1:=h.al;have q2:=h.kl;have q3:=h.ml;have nr:=h.wb.nr
 have cm:=h.st
 have gq:=h.lk
 have Ve:fO p.m [p.c.stack,p.c.link]:=by
  intro x hx;simp at hx;rcases hx with rfl|rfl
  ·exact cm.2
  ·exact gq
 have Dh:∀r,R n 82 [ag (aD p),ai r,.p (.sl [i64 p.c.stack,i64 p.c.link])] []=some (ab (iW p.m p.c r [p.c.stack,p.c.link]),[]):=fun r=>JL n (by omega) p h.wb r [p.c.stack,p.c.link] (by simp) h.b0 h.b1 Ve
 have mG:=fun r=>O9 n (by omega) p h.wb r (by omega) h.mv
 have x6:=fun r=>Vi n (by omega) p r
 unfold BK
 cases c0:Dw p.c
 ·have c1:cE (cE (decide (p.c.args=[])) (decide (8<(p.c.args.length:Int)))) (decide (64<(p.c.kept.length:Int)))=true:=by
   unfold Dw at c0
   rw[aK,aK]
   rw[←Bool.not_eq_true] at c0
   simp only[Bool.and_eq_true,decide_eq_true_eq,Bool.or_eq_true] at c0 ⊢
   by_cases e:p.c.args=[]
   ·exact .inl (.inl e)
   ·have:=List.length_pos_iff.2 e
    omega
  simp[aa,c1]
 have c1:cE (cE (decide (p.c.args=[])) (decide (8<(p.c.args.length:Int)))) (decide (64<(p.c.kept.length:Int)))=false:=by
  unfold Dw at c0
  simp only[Bool.and_eq_true,decide_eq_true_eq] at c0
  rw[aK,aK]
  have:¬p.c.args=[]:=List.length_pos_iff.1 c0.1
  simp[this]
  omega
 cases c2:iW p.m p.c p.c.result [p.c.stack,p.c.link]
 ·have hf:=Dh p.c.result
  rw[c2] at hf
  simp[aa,c1,hf]
 have hf:=Dh p.c.result
 rw[c2] at hf
 have kb:=oT c2
 generalize AJ:(List.range p.c.args.length).all (vT p.m p.c)=Q1
 generalize GA:(List.range p.c.kept.length).all (oJ p.m p.c)=Q2
 generalize Di:iW p.m p.c p.c.scratch [p.c.stack,p.c.link,p.c.result]=Q3
 generalize Q':p.c.args.any (aP p.m p.c.scratch)=Q4
 generalize RM:p.c.kept.any (aP p.m p.c.scratch)=Q5
 generalize XE:(p.c.kept.any fun x=>decide (p.c.link=x))=Q6
 simp[aa,c1,hf]
 rw[acI p.c.args.length (fun i=> !vT p.m p.c i) (fun k=>⟨[(1,.ref 0 0),(2,ab false),(3,.ref 1 0),(39,.p (ints p.c.args)),(40,ai p.c.args.length),(41,ai k)],[bx (aD p),bx (ax p.c)]⟩)
  (fun k=>(.ret,⟨[(1,.ref 0 0),(2,ab false),(3,.ref 1 0),(39,.p (ints p.c.args)),(40,ai p.c.args.length),(41,ai k)],[bx (aD p),bx (ax p.c)]⟩)) (by omega) (by simp[aa]) (by
    intro k hk K
    have w1:=aA hk (by omega)
    obtain⟨r,hr,sM,_⟩:=ay hk
    have RG:=Dh r
    have WT:R n 40 [.p (.sl ((p.c.args.map i64).take k)),ai r] []=some (ab ((p.c.args.take k).any fun x=>decide (r=x)),[]):=by
     rw[←List.map_take];exact fj n (p.c.args.take k) r (by simp;omega) (by simp;omega)
    have e:vT p.m p.c k=(iW p.m p.c r [p.c.stack,p.c.link]&& !((p.c.args.take k).any fun x=>decide (r=x))):=by unfold vT;rw[sM]
    rw[e]
    have bT:k≤p.c.args.length:=by omega
    generalize ((p.c.args.take k).any fun x=>decide (r=x))=cv at*
    cases hc:iW p.m p.c r [p.c.stack,p.c.link]
    ·rw[hc] at RG
     simp[aa,hk,hr,RG]
    ·rw[hc] at RG
     cases cv<;>simp[aa,hk,bT,hr,RG,WT,w1]) (by simp[aa])]
 have JH:(List.range p.c.args.length).any (fun i=> !vT p.m p.c i)= !Q1:=by rw[←AJ];exact k_ _ _
 rcases ao (fun i:Nat=> !vT p.m p.c i) (List.range p.c.args.length) with⟨e1,e2,_⟩|⟨i,e1,e2,_⟩
 rotate_left
 ·rw[e2] at JH
  have:Q1=false:=by cases Q1 with
   |false=>rfl
   |true=>simp at JH
  subst this
  rw[e1];simp[aa]
 rw[e2] at JH
 have HW:Q1=true:=by cases Q1 with
  |true=>rfl
  |false=>simp at JH
 subst HW
 have AI:fO p.m p.c.args:=by
  intro x hx
  obtain⟨i,hi,rfl⟩:=List.getElem_of_mem hx
  have:=List.all_eq_true.1 AJ i (List.mem_range.2 hi)
  unfold vT at this
  rw[bq _ _ hi] at this
  simp only[Bool.and_eq_true] at this
  exact(oT this.1).2
 have Vd:fO p.m [p.c.stack,p.c.result]:=by
  intro x hx;simp at hx;rcases hx with rfl|rfl
  ·exact cm.2
  ·exact kb.2
 rw[e1]
 simp[aa]
 rw[mF p.c.kept.length (fun i=> !oJ p.m p.c i) (fun k=>⟨[(1,.ref 0 0),(2,ab false),(3,.ref 1 0),(65,.p (ints p.c.kept)),(66,ai p.c.kept.length),(67,ai k)],[bx (aD p),bx (ax p.c)]⟩)
  (fun k=>(.ret,⟨[(1,.ref 0 0),(2,ab false),(3,.ref 1 0),(65,.p (ints p.c.kept)),(66,ai p.c.kept.length),(67,ai k)],[bx (aD p),bx (ax p.c)]⟩))
  (.exit 2,⟨[(1,.ref 0 0),(2,ab false),(3,.ref 1 0),(65,.p (ints p.c.kept)),(66,ai p.c.kept.length),(67,ai p.c.kept.length)],[bx (aD p),bx (ax p.c)]⟩) (by omega) (by simp[aa]) (by
    intro k hk HX K
    have w1:=aA hk (by omega)
    obtain⟨r,hr,sM,_⟩:=ay hk
    have bT:k≤p.c.kept.length:=by omega
    have lz:=x6 r
    have Ci:=mG r
    have e:oJ p.m p.c k=(vh p.m r&&(decide (0≤fC (fun x:zU=>zm p.m x.bank r) p.c.moves)&&(!([p.c.stack,p.c.result].any (aP p.m r))&&(!(p.c.args.any (aP p.m r))&& !((p.c.kept.take k).any (aP p.m r)))))):=by unfold oJ;rw[sM]
    rw[e]
    cases c3:vh p.m r
    ·rw[c3] at lz
     simp[aa,hk,hr,lz]
    rw[c3] at lz
    have De:=cT.1 c3
    generalize fC (fun x:zU=>zm p.m x.bank r) p.c.moves=pS at*
    by_cases c4:0≤pS
    rotate_left
    ·have fF:pS<0:=by omega
     simp[aa,hk,hr,lz,Ci,c4,fF]
    have fF:¬pS<0:=by omega
    have EJ:R n 51 [ag (aD p),ai r,.p (.sl [i64 p.c.stack,i64 p.c.result])] []=some (ab ([p.c.stack,p.c.result].any (aP p.m r)),[]):=iw n p r [p.c.stack,p.c.result] (by simp;omega) (by simp) De.1 De.2 Vd
    have p6:=iw n p r p.c.args (by omega) (by omega) De.1 De.2 AI
    have Xu:fO p.m (p.c.kept.take k):=by
     intro x hx
     obtain⟨i,hi,rfl⟩:=List.getElem_of_mem hx
     simp only[List.length_take] at hi
     have:=HX i (by omega)
     simp only[Bool.not_eq_false'] at this
     unfold oJ at this
     rw[bq _ _ (show i<p.c.kept.length by omega)] at this
     simp only[Bool.and_eq_true] at this
     rw[List.getElem_take]
     exact(cT.1 this.1).2
    have Lv:R n 51 [ag (aD p),ai r,.p (.sl ((p.c.kept.map i64).take k))] []=some (ab ((p.c.kept.take k).any (aP p.m r)),[]):=by
     rw[←List.map_take];exact iw n p r (p.c.kept.take k) (by simp;omega) (by simp;omega) De.1 De.2 Xu
    generalize [p.c.stack,p.c.result].any (aP p.m r)=o1 at*
    generalize p.c.args.any (aP p.m r)=o2 at*
    generalize (p.c.kept.take k).any (aP p.m r)=o3 at*
    cases o1
    ·cases o2
     ·cases o3<;>simp[aa,hk,bT,hr,lz,Ci,c4,fF,EJ,p6,Lv,w1]
     ·simp[aa,hk,bT,hr,lz,Ci,c4,fF,EJ,p6,Lv,w1]
    ·simp[aa,hk,bT,hr,lz,Ci,c4,fF,EJ,p6,Lv,w1]) (by intro _ K;simp[aa])]
 have sP:(List.range p.c.kept.length).any (fun i=> !oJ p.m p.c i)= !Q2:=by rw[←GA];exact k_ _ _
 rcases ao (fun i:Nat=> !oJ p.m p.c i) (List.range p.c.kept.length) with⟨e3,e4,_⟩|⟨i,e3,e4,_⟩
 rotate_left
 ·rw[e4] at sP
  have:Q2=false:=by cases Q2 with
   |false=>rfl
   |true=>simp at sP
  subst this
  rw[e3];simp[aa]
 rw[e4] at sP
 have Nd:Q2=true:=by cases Q2 with
  |true=>rfl
  |false=>simp at sP
 subst Nd
 have JC:fO p.m p.c.kept:=by
  intro x hx
  obtain⟨i,hi,rfl⟩:=List.getElem_of_mem hx
  have:=List.all_eq_true.1 GA i (List.mem_range.2 hi)
  unfold oJ at this
  rw[bq _ _ hi] at this
  simp only[Bool.and_eq_true] at this
  exact(cT.1 this.1).2
 have Vc:fO p.m [p.c.stack,p.c.link,p.c.result]:=by
  intro x hx;simp at hx;rcases hx with rfl|rfl|rfl
  ·exact cm.2
  ·exact gq
  ·exact kb.2
 have Nr:R n 82 [ag (aD p),ai p.c.scratch,.p (.sl [i64 p.c.stack,i64 p.c.link,i64 p.c.result])] []=some (ab (iW p.m p.c p.c.scratch [p.c.stack,p.c.link,p.c.result]),[]):=JL n (by omega) p h.wb p.c.scratch [p.c.stack,p.c.link,p.c.result] (by simp) h.b0 h.b1 Vc
 rw[Di] at Nr
 have tx:=fj n p.c.kept p.c.link (by omega) (by omega)
 rw[XE] at tx
 rw[e3]
 by_cases c5:p.c.link=-1
 ·cases Q3
  ·simp[aa,eq_true c5,Nr]
  ·have n6:=oT Di
   have p6:=iw n p p.c.scratch p.c.args (by omega) (by omega) n6.1 n6.2 AI
   have Lv:=iw n p p.c.scratch p.c.kept (by omega) (by omega) n6.1 n6.2 JC
   rw[Q'] at p6
   rw[RM] at Lv
   cases Q4<;>cases Q5<;>simp[aa,eq_true c5,Nr,p6,Lv]
 ·cases Q6
  ·simp[aa,c5,tx]
  cases Q3
  ·simp[aa,c5,tx,Nr]
  ·have n6:=oT Di
   have p6:=iw n p p.c.scratch p.c.args (by omega) (by omega) n6.1 n6.2 AI
   have Lv:=iw n p p.c.scratch p.c.kept (by omega) (by omega) n6.1 n6.2 JC
   rw[Q'] at p6
   rw[RM] at Lv
   cases Q4<;>cases Q5<;>simp[aa,c5,tx,Nr,p6,Lv]
end Go.En.V
