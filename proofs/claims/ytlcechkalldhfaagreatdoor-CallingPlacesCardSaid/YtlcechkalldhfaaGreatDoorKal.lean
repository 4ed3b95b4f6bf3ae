/- Part of the proof of CallingPlaces: engine, contracts or law, joined by a program from the texts X54 X55 X56 X57 X58 X81. -/
import Derived.Test.YtlcechkalldhfaaGreatDoorKaj
set_option linter.all false
set_option maxRecDepth 100000
set_option maxHeartbeats 4000000
namespace Go.En.V
open Go.Proofs
def wU(m:aw)(e:jY):Bool:=aj (decide (e.kind=1)) (decide (e.op=-1))&& !(m.banks.any fun b=>b.regs.any (aP m e.reg))
def RX(m:aw)(e:jY):Prop:=e.kind=1→e.op=-1→0≤e.reg∧e.reg<m.regs.length
theorem qa.regsOk{m:aw}(h:qa m){b:qw}(hb:b∈m.banks):fO m b.regs:=fun x hx=>((h.bn b hb).2.2 x hx).2
theorem Om(N:Nat)(hN:100≤N)(v:View)(hw:qa v.p.m)(e:jY)(h0:0≤e.reg)(h1:e.reg<v.p.m.regs.length)(b:qw)(hb:b∈v.p.m.banks):
  R N 141 (.agg ((fJ b).map .p)::refs 2) (boxes [aB v,b_ e])=some (ab (b.regs.any (aP v.p.m e.reg)),boxes [aB v,b_ e]):=by
 have aa:rows 141={}:=rfl
 obtain⟨n,rfl⟩:=up N
 rw[aE 141 Tryz.func141 rfl rfl]
 have hl:=(hw.bn b hb).2.1
 have ho:=iw n v.p e.reg b.regs (by omega) (by omega) h0 h1 (hw.regsOk hb)
 simp -implicitDefEqProofs[aa,boxes,refs,fA,ho]
theorem SZ(N:Nat)(hN:200≤N)(v:View)(hw:qa v.p.m)(e:jY)(he:RX v.p.m e):
  R N 120 [.agg ((aB v).map .p),.agg ((b_ e).map .p)] []=some (ab (wU v.p.m e),[]):=by
 have aa:rows 120={}:=rfl
 obtain⟨n,rfl⟩:=up N
 rw[aE 120 Tryz.func120 rfl rfl]
 unfold wU
 have p7:=hw.nb
 by_cases k1:e.kind=1
 ·by_cases k2:e.op=-1
  ·obtain⟨h0,h1⟩:=he k1 k2
   have hc:=uU n v.p.m.banks 141 [aB v,b_ e] (fun b=>b.regs.any (aP v.p.m e.reg)) rfl (by simp) (by omega) (by omega) (fun M hM b hb=>Om M (by omega) v hw e h0 h1 b hb)
   simp[boxes,refs,fA,-List.any_eq_true] at hc
   simp -implicitDefEqProofs[aa,eq_true k1,eq_true k2,hc,-List.any_eq_true]
  ·simp -implicitDefEqProofs[aa,eq_true k1,k2]
 ·simp -implicitDefEqProofs[aa,k1]
theorem P8(N:Nat)(hN:200≤N)(f:Da)(hw:qa f.m)(hr:QP f.m)(e:jY)(he:RX f.m e):
  R N 136 [.agg ((bP f).map .p),.agg ((b_ e).map .p)] []=some (ab (wU f.m e),[]):=by
 have aa:rows 136=_:=Z5.eq_1
 obtain⟨n,rfl⟩:=up N
 rw[aE 136 Tryz.func136 rfl rfl]
 unfold wU
 have p7:=hw.nb
 have hnr:=hw.nr
 by_cases k1:e.kind=1
 ·by_cases k2:e.op=-1
  ·obtain⟨h0,h1⟩:=he k1 k2
   generalize hQ:(f.m.banks.any fun b=>b.regs.any (aP f.m e.reg))=Q
   simp -implicitDefEqProofs[aa,eq_true k1,eq_true k2]
   rw[aJ f.m.banks (fun b=>b.regs.any (aP f.m e.reg)) (fun k=>⟨[(2,.ref 0 0),(3,.ref 1 0),(4,ab false),(5,ai k)],[.box ((bP f).map .p),.box ((b_ e).map .p)]⟩)
    (fun k=>(.ret,⟨[(2,.ref 0 0),(3,.ref 1 0),(4,ab false),(5,ai k)],[.box ((bP f).map .p),.box ((b_ e).map .p)]⟩))
    (.exit 0,⟨[(2,.ref 0 0),(3,.ref 1 0),(4,ab false),(5,ai f.m.banks.length)],[.box ((bP f).map .p),.box ((b_ e).map .p)]⟩) (by omega) (by simp -implicitDefEqProofs[aa]) (by
      intro k b h hx _ hm K
      have w1:=aA h (by omega)
      have MA:=(hw.bn b hm).2.1
      generalize hP:b.regs.any (aP f.m e.reg)=P
      simp -implicitDefEqProofs[aa,h,hx]
      rw[aJ b.regs (aP f.m e.reg) (fun j=>⟨[(2,.ref 0 0),(3,.ref 1 0),(4,ab false),(5,ai k),(6,ai j)],[.box ((bP f).map .p),.box ((b_ e).map .p)]⟩)
       (fun j=>(.ret,⟨[(2,.ref 0 0),(3,.ref 1 0),(4,ab false),(5,ai k),(6,ai j)],[.box ((bP f).map .p),.box ((b_ e).map .p)]⟩))
       (.exit 2,⟨[(2,.ref 0 0),(3,.ref 1 0),(4,ab false),(5,ai k),(6,ai b.regs.length)],[.box ((bP f).map .p),.box ((b_ e).map .p)]⟩) (by omega) (by simp -implicitDefEqProofs[aa]) (by
         intro j r hj Vj _ RC K
         have w2:=aA hj (by omega)
         have De:=(hw.bn b hm).2.2 r RC
         have ho:=tq n f.m hr (by omega) (by omega) e.reg r h0 h1 De.1 De.2
         cases hp:aP f.m e.reg r<;>rw[hp] at ho<;>simp -implicitDefEqProofs[aa,h,hx,hj,Vj,ho,w2]) (by simp -implicitDefEqProofs[aa,h,hx])]
      rcases ao (aP f.m e.reg) b.regs with⟨e1,e2,_⟩|⟨i,e1,e2,_⟩<;>rw[e2] at hP<;>subst hP<;>rw[e1]<;>simp -implicitDefEqProofs[aa,w1]) (by simp -implicitDefEqProofs[aa])]
   rcases ao (fun b:qw=>b.regs.any (aP f.m e.reg)) f.m.banks with⟨e1,e2,_⟩|⟨i,e1,e2,_⟩<;>rw[e2] at hQ<;>subst hQ<;>rw[e1]<;>simp -implicitDefEqProofs[aa]
  ·simp -implicitDefEqProofs[aa,eq_true k1,k2]
 ·simp -implicitDefEqProofs[aa,k1]
@[simp] theorem ag3(x:jY):((b_ x).map AV.p).drop 21=[]:=List.drop_eq_nil_of_le (by simp)
def mj:jY:=⟨0,0,0,default,default,default⟩
def bN(m:aw)(l:List jY):Nat→jY×Nat
 |0=>(mj,0)
 |k+1=>if wU m (nth l (k:Int))=true then bN m l k else(nth l (k:Int),(bN m l k).2+1)
theorem xN(m:aw)(l:List jY):∀k,(bN m l k).2≤k
 |0=>Nat.le_refl _
 |k+1=>by
  have:=xN m l k
  simp only[bN];split
  ·omega
  ·simp only;omega
theorem rB:(default:Tr)=.mk 0 0 0 ⟨#[]⟩ 0 true []:=rfl
theorem Am:(b_ mj).map AV.p=[.p (.int .u8 0),ai 0,ai 0,.p (.int .u8 0),ai 0,.p (.int .u64 0),.p (.str ⟨#[]⟩),ai 0,.p .nils,.p (.int .u8 0),ai 0,.p (.int .u64 0),.p (.str ⟨#[]⟩),ai 0,.p .nils,.p (.int .u8 0),ai 0,.p (.int .u64 0),.p (.str ⟨#[]⟩),ai 0,.p .nils]:=by
 simp[mj,b_,ae,rB,Tr.kind,Tr.width,Tr.bits,Tr.name,Tr.low,Tr.z,Tr.sub]
theorem wg(N:Nat)(hN:300≤N)(f:Da)(hw:qa f.m)(hr:QP f.m)(hl:f.s.effs.length≤100)(he:∀e∈f.s.effs,RX f.m e):
  R N 100 [.agg ((bP f).map .p)] []=some (.tup [.agg ((b_ (bN f.m f.s.effs f.s.effs.length).1).map .p),ab (decide (((bN f.m f.s.effs f.s.effs.length).2:Int)=1))],[]):=by
 have aa:rows 100=_:=aai.eq_1
 obtain⟨n,rfl⟩:=up N
 rw[aE 100 Tryz.func100 rfl rfl]
 simp -implicitDefEqProofs[aa]
 rw[av f.s.effs.length (fun k=>⟨[(1,.ref 0 0),(2,.ref 1 0),(4,.ref 2 0),(5,ai (bN f.m f.s.effs k).2),(6,ai k)],[.box ((bP f).map .p),.box ((b_ mj).map .p),.box ((b_ (bN f.m f.s.effs k).1).map .p)]⟩)
  (.exit 0,⟨[(1,.ref 0 0),(2,.ref 1 0),(4,.ref 2 0),(5,ai (bN f.m f.s.effs f.s.effs.length).2),(6,ai f.s.effs.length)],[.box ((bP f).map .p),.box ((b_ mj).map .p),.box ((b_ (bN f.m f.s.effs f.s.effs.length).1).map .p)]⟩) (by omega) (by simp -implicitDefEqProofs[aa,bN,Am]) (by
    intro k h K
    have w1:=aA h (by omega)
    obtain⟨x,hx,bI,hm⟩:=ay h
    have hs:=P8 n (by omega) f hw hr x (he x hm)
    have hle:=xN f.m f.s.effs k
    have w2:IntKind.i64.wrap (((bN f.m f.s.effs k).2:Int)+1)=((bN f.m f.s.effs k).2:Int)+1:=wrap64 (by omega) (by omega)
    cases hc:wU f.m x
    ·rw[hc] at hs
     have e:bN f.m f.s.effs (k+1)=(x,(bN f.m f.s.effs k).2+1):=by simp[bN,bI,hc]
     rw[e]
     generalize bN f.m f.s.effs k=q at*
     simp -implicitDefEqProofs[aa,h,hx,hs,w1,w2]
    ·rw[hc] at hs
     have e:bN f.m f.s.effs (k+1)=bN f.m f.s.effs k:=by simp[bN,bI,hc]
     rw[e]
     generalize bN f.m f.s.effs k=q at*
     simp -implicitDefEqProofs[aa,h,hx,hs,w1]) (by simp -implicitDefEqProofs[aa])]
 generalize bN f.m f.s.effs f.s.effs.length=q
 simp -implicitDefEqProofs[aa]
def k8(j:Bool)(s:dh)(args:List Int)(i:Nat):Bool:=
 cE (aj (decide ((nth s.opds i).kind=4)) (!j)) (aj (decide (0≤(nth s.opds i).tied)) (!decide (nth args i=nth args (nth s.opds i).tied)))
def aG(m:aw)(t:gf)(j:Bool):Bool:=
 decide (0≤t.instr)&&(decide (t.instr<m.instrs.length)&&(decide (t.args.length=(nth m.instrs t.instr).opds.length)&&
  !((List.range (nth m.instrs t.instr).opds.length).any (k8 j (nth m.instrs t.instr) t.args))))
structure vW(m:aw)(s:dh):Prop where
 ol:s.opds.length≤100
 el:s.effs.length≤100
 tied:∀o∈s.opds,o.tied<s.opds.length
 effs:∀e∈s.effs,RX m e
def bc(p:eU)(t:gf):View:=
 ⟨p,t.args,nth p.m.instrs t.instr,(bN p.m (nth p.m.instrs t.instr).effs (nth p.m.instrs t.instr).effs.length).1,decide (((bN p.m (nth p.m.instrs t.instr).effs (nth p.m.instrs t.instr).effs.length).2:Int)=1)⟩
@[simp] theorem amt(p:eU)(args:List Int)(s:dh):(aD p).map AV.p++AV.p (ints args)::((aU s).map AV.p++[.p (.int .u8 0),ai 0,ai 0,.p (.int .u8 0),ai 0,.p (.int .u64 0),.p (.str ⟨#[]⟩),ai 0,.p .nils,.p (.int .u8 0),ai 0,.p (.int .u64 0),.p (.str ⟨#[]⟩),ai 0,.p .nils,.p (.int .u8 0),ai 0,.p (.int .u64 0),.p (.str ⟨#[]⟩),ai 0,.p .nils,.p (.bool false)])=(aB ⟨p,args,s,mj,false⟩).map AV.p:=by
  have:=Am
  simp only[aB,List.map_append,List.map_cons,List.map_nil,this];simp
@[simp] theorem agR(p:eU):((aD p).map AV.p).take 25=(aD p).map AV.p:=by rw[List.take_of_length_le (by simp)]
@[simp] theorem agW(p:eU):((aD p).map AV.p).drop 25=[]:=List.drop_eq_nil_of_le (by simp)
@[simp] theorem agV(p:eU):((aD p).map AV.p).drop 34=[]:=List.drop_eq_nil_of_le (by simp)
def eK:List AV:=[.p (.str ⟨#[]⟩),.p (.int .i64 0),.p (.int .i64 0),.p .nils,.p .nils,.p .nils,.p .nils,.p (.int .i64 0),.p (.int .i64 0),.p (.int .i64 0),.p .nils,.p (.int .i64 0),.p .nils,.p (.int .i64 0),.p .nils,.p (.int .i64 0),.p .nils,.p (.int .i64 0),.p .nils,.p (.int .i64 0),.p .nils,.p (.int .i64 0),.p .nils,.p (.int .i64 0),.p .nils,.p (.str ⟨#[]⟩),.p (.int .u64 0),.p (.int .u64 0),.p .nils,.p .nils,.p (.int .i64 0),.p (.int .i64 0),.p (.int .i64 0),.p (.int .i64 0),.p (.int .u8 0),.p (.int .i64 0),.p (.int .i64 0),.p (.int .u8 0),.p (.int .i64 0),.p (.int .u64 0),.p (.str ⟨#[]⟩),.p (.int .i64 0),.p .nils,.p (.int .u8 0),.p (.int .i64 0),.p (.int .u64 0),.p (.str ⟨#[]⟩),.p (.int .i64 0),.p .nils,.p (.int .u8 0),.p (.int .i64 0),.p (.int .u64 0),.p (.str ⟨#[]⟩),.p (.int .i64 0),.p .nils,.p (.bool false)]
def fw:List AV:=[.p (.str ⟨#[]⟩),.p (.int .i64 0),.p (.int .i64 0),.p .nils,.p .nils,.p .nils,.p .nils,.p (.int .i64 0),.p (.int .i64 0),.p (.int .i64 0),.p .nils,.p (.int .i64 0),.p .nils,.p (.int .i64 0),.p .nils,.p (.int .i64 0),.p .nils,.p (.int .i64 0),.p .nils,.p (.int .i64 0),.p .nils,.p (.int .i64 0),.p .nils,.p (.int .i64 0),.p (.int .i64 0),.p .nils,.p (.str ⟨#[]⟩),.p (.int .u64 0),.p (.int .u64 0),.p .nils,.p .nils,.p (.int .i64 0),.p (.int .i64 0),.p (.int .i64 0),.p (.int .i64 0)]
@[simp] theorem pView_main(v:View)(e:jY):((aB v).map AV.p).take 34++((b_ e).map AV.p++((aB v).map AV.p).drop 55)=(aB {v with main:=e}).map AV.p:=by
  have:((aD v.p).map AV.p).take 34=(aD v.p).map AV.p:=by rw[List.take_of_length_le (by simp)]
  simp[aB,List.take_append,List.drop_append,List.drop_eq_nil_of_le,this]
@[simp] theorem agM(v:View):((aB v).map AV.p).drop 56=[]:=List.drop_eq_nil_of_le (by simp)
@[simp] theorem azp(g:Bool):rP g g true=true:=by cases g<;>rfl
theorem Sv(m:Nat):∀x∈eK,cA m x=true:=by simp[eK]
@[simp] theorem age(m:Nat):eK.all (cA m)=true:=List.all_eq_true.2 (Sv m)
@[simp] theorem TF(p:eU)(args:List Int)(s:dh)(mn:jY)(o b:Bool):((aB ⟨p,args,s,mn,o⟩).map AV.p).take 55++[.p (.bool b)]=(aB ⟨p,args,s,mn,b⟩).map AV.p:=by
  have:((aD p).map AV.p).take 55=(aD p).map AV.p:=by rw[List.take_of_length_le (by simp)]
  have h2:((aU s).map AV.p).take 30=(aU s).map AV.p:=by rw[List.take_of_length_le (by simp)]
  simp[aB,List.take_append,List.drop_append,List.drop_eq_nil_of_le,this,h2]
theorem TT(N:Nat)(hN:400≤N)(p:eU)(t:gf)(j:Bool)(hw:qa p.m)(ha:t.args.length≤100)(hi:∀s∈p.m.instrs,vW p.m s):
  (aG p.m t j=true→R N 84 [.agg ((aD p).map .p),.agg ((bm t).map .p),ab j] []=some (.tup [.agg ((aB (bc p t)).map .p),ab true],[]))∧
  (aG p.m t j=false→R N 84 [.agg ((aD p).map .p),.agg ((bm t).map .p),ab j] []=some (.tup [.agg eK,ab false],[])):=by
 by_cases c0:0≤t.instr∧t.instr<p.m.instrs.length
 ·obtain⟨s,g2,hs,Ce,vO⟩:=aR c0.1 c0.2
  have hI:=hi s vO
  unfold aG bc
  rw[Ce]
  have c1:¬t.instr<0:=by omega
  have c2:¬(p.m.instrs.length:Int)≤t.instr:=by omega
  by_cases c3:t.args.length=s.opds.length
  ·have Ip:(t.args.length:Int)=s.opds.length:=by omega
   have hol:=hI.ol
   have RH:=hI.el
   have c4:decide (t.args.length=s.opds.length)=true:=by simpa using c3
   rw[c4]
   have q0:decide (0≤t.instr)=true:=by simpa using c0.1
   have q1:decide (t.instr<(p.m.instrs.length:Int))=true:=by simpa using c0.2
   rw[q0,q1]
   generalize hQ:(List.range s.opds.length).any (k8 j s t.args)=Q
   suffices hz:R N 84 [.agg ((aD p).map .p),.agg ((bm t).map .p),ab j] []=some (if Q=true then .tup [.agg eK,ab false] else .tup [.agg ((aB ⟨p,t.args,s,(bN p.m s.effs s.effs.length).1,decide (((bN p.m s.effs s.effs.length).2:Int)=1)⟩).map .p),ab true],[]) by
    refine⟨fun h=> ?_,fun h=> ?_⟩
    ·simp at h;rw[h] at hz;simpa using hz
    ·simp at h;rw[h] at hz;simpa using hz
   have aa:rows 84=_:=Zj.eq_1
   obtain⟨n,rfl⟩:=up N
   rw[aE 84 Tryz.func84 rfl rfl]
   simp[aa,c0.1,c0.2,c1,c2,g2,hs,c3,eq_true Ip,List.take_append,List.drop_append]
   rw[bf s.opds.length (k8 j s t.args) (fun k=>⟨[(2,ab j),(6,.ref 2 0),(7,ab false),(8,.ref 3 0),(49,.p (.sl (s.opds.map l_))),(50,ai s.opds.length),(51,ai k)],
      [.box ((aD p).map .p),.box ((bm t).map .p),.box eK,.box ((aB ⟨p,t.args,s,mj,false⟩).map .p)]⟩)
    (fun k=>(.ret,⟨[(2,ab j),(6,.ref 2 0),(7,ab false),(8,.ref 3 0),(49,.p (.sl (s.opds.map l_))),(50,ai s.opds.length),(51,ai k)],
      [.box ((aD p).map .p),.box ((bm t).map .p),.box eK,.box ((aB ⟨p,t.args,s,mj,false⟩).map .p)]⟩))
    (.exit 0,⟨[(2,ab j),(6,.ref 2 0),(7,ab false),(8,.ref 3 0),(49,.p (.sl (s.opds.map l_))),(50,ai s.opds.length),(51,ai s.opds.length)],
      [.box ((aD p).map .p),.box ((bm t).map .p),.box eK,.box ((aB ⟨p,t.args,s,mj,false⟩).map .p)]⟩) (by omega) (by simp[aa,eK]) (by
      intro k h K
      have w1:=aA h (by omega)
      obtain⟨o,ho,lM,hom⟩:=ay h
      have ht:=hI.tied o hom
      have A8:k<t.args.length:=by omega
      obtain⟨y,hy,dV,_⟩:=ay A8
      by_cases q2:0≤o.tied
      ·obtain⟨z,g3,hz,Cd,_⟩:=aR (l:=t.args) q2 (show o.tied<(t.args.length:Int) by omega)
       have e:k8 j s t.args k=cE (aj (decide (o.kind=4)) (!j)) (!decide (y=z)):=by
        unfold k8;rw[lM,dV,Cd];simp[q2]
       have g4:o.tied<(t.args.length:Int):=by omega
       rw[e]
       generalize hV:((aB ⟨p,t.args,s,mj,false⟩).map AV.p)=V
       have aCT:V[24]? =some (.p (ints t.args)):=by rw[←hV];simp
       subst hV
       unfold eK
       cases hc:cE (aj (decide (o.kind=4)) (!j)) (!decide (y=z))<;>
        simp[aa,h,ho,A8,hy,q2,g3,g4,hz,w1,hc,←c3]
      ·have e:k8 j s t.args k=aj (decide (o.kind=4)) (!j):=by
        unfold k8;rw[lM];simp[q2,aK]
       rw[e]
       unfold eK
       cases hc:aj (decide (o.kind=4)) (!j)<;>
        simp[aa,h,ho,A8,hy,q2,w1,hc]) (by simp[aa])]
   rcases ao (k8 j s t.args) (List.range s.opds.length) with⟨e1,e2,_⟩|⟨i,e1,e2,_⟩
   rotate_left
   ·rw[e2] at hQ;subst hQ;rw[e1];unfold eK;simp[aa]
   ·rw[e2] at hQ;subst hQ;rw[e1]
    simp[aa]
    rw[av s.effs.length (fun k=>⟨[(6,.ref 2 0),(8,.ref 3 0),(11,ai (bN p.m s.effs k).2),(86,.p (.sl (s.effs.map s8))),(87,ai s.effs.length),(88,ai k)],
       [.box ((aD p).map .p),.box ((bm t).map .p),.box eK,.box ((aB ⟨p,t.args,s,(bN p.m s.effs k).1,false⟩).map .p)]⟩)
     (.exit 2,⟨[(6,.ref 2 0),(8,.ref 3 0),(11,ai (bN p.m s.effs s.effs.length).2),(86,.p (.sl (s.effs.map s8))),(87,ai s.effs.length),(88,ai s.effs.length)],
       [.box ((aD p).map .p),.box ((bm t).map .p),.box eK,.box ((aB ⟨p,t.args,s,(bN p.m s.effs s.effs.length).1,false⟩).map .p)]⟩) (by omega) (by simp[aa,bN]) (by
       intro k h K
       have w1:=aA h (by omega)
       obtain⟨x,hx,bI,hm⟩:=ay h
       have Ry:=fun mn=>SZ n (by omega) ⟨p,t.args,s,mn,false⟩ hw x (hI.effs x hm)
       have hle:=xN p.m s.effs k
       have w2:IntKind.i64.wrap (((bN p.m s.effs k).2:Int)+1)=((bN p.m s.effs k).2:Int)+1:=wrap64 (by omega) (by omega)
       cases hc:wU p.m x
       ·simp only[hc] at Ry
        have e:bN p.m s.effs (k+1)=(x,(bN p.m s.effs k).2+1):=by simp[bN,bI,hc]
        rw[e]
        generalize bN p.m s.effs k=q at*
        simp[aa,h,hx,Ry,w1,w2]
       ·simp only[hc] at Ry
        have e:bN p.m s.effs (k+1)=bN p.m s.effs k:=by simp[bN,bI,hc]
        rw[e]
        generalize bN p.m s.effs k=q at*
        simp[aa,h,hx,Ry,w1]) (by simp[aa])]
    generalize bN p.m s.effs s.effs.length=q
    unfold eK
    simp[aa]
  ·refine⟨fun h=>by simp[c3] at h,fun _=> ?_⟩
   have aa:rows 84=_:=Zj.eq_1
   obtain⟨n,rfl⟩:=up N
   rw[aE 84 Tryz.func84 rfl rfl]
   have Ip:¬(t.args.length:Int)=s.opds.length:=by omega
   unfold eK
   simp[aa,c0.1,c0.2,c1,c2,g2,hs,c3,Ip,List.take_append,List.drop_append]
 ·have e:aG p.m t j=false:=by
   unfold aG
   by_cases h:0≤t.instr
   ·have:¬t.instr<p.m.instrs.length:=fun h'=>c0 ⟨h,h'⟩
    simp[this]
   ·simp[h]
  rw[e]
  refine⟨fun h=>by simp at h,fun _=> ?_⟩
  have aa:rows 84=_:=Zj.eq_1
  obtain⟨n,rfl⟩:=up N
  rw[aE 84 Tryz.func84 rfl rfl]
  have c1:cE (decide (t.instr<0)) (decide ((p.m.instrs.length:Int)≤t.instr))=true:=by rw[aK];simp;omega
  unfold eK
  simp[aa,c1]
@[simp] theorem atD(m:aw)(c:Conv)(t:gf)(s:dh):(ah m).map AV.p++((ax c).map AV.p++((bm t).map AV.p++(aU s).map AV.p))=(bP ⟨m,c,t,s⟩).map AV.p:=by
  simp[bP]
theorem Sx(m:Nat):∀x∈fw,cA m x=true:=by simp[fw]
@[simp] theorem agf(m:Nat):fw.all (cA m)=true:=List.all_eq_true.2 (Sx m)
@[simp] theorem amU(m:aw)(k:Nat)(h:7≤k):((ah m).map AV.p).take k=(ah m).map AV.p:=List.take_of_length_le (by simpa using h)
@[simp] theorem am2(m:aw)(k:Nat)(h:7≤k):((ah m).map AV.p).drop k=[]:=List.drop_eq_nil_of_le (by simpa using h)
@[simp] theorem anh(m:Conv)(k:Nat)(h:17≤k):((ax m).map AV.p).take k=(ax m).map AV.p:=List.take_of_length_le (by simpa using h)
@[simp] theorem anq(m:Conv)(k:Nat)(h:17≤k):((ax m).map AV.p).drop k=[]:=List.drop_eq_nil_of_le (by simpa using h)
@[simp] theorem atb(m:gf)(k:Nat)(h:2≤k):((bm m).map AV.p).take k=(bm m).map AV.p:=List.take_of_length_le (by simpa using h)
@[simp] theorem ate(m:gf)(k:Nat)(h:2≤k):((bm m).map AV.p).drop k=[]:=List.drop_eq_nil_of_le (by simpa using h)
theorem ik(N:Nat)(hN:400≤N)(m:aw)(c:Conv)(t:gf)(j:Bool)(ha:t.args.length≤100)(hi:∀s∈m.instrs,vW m s):
  (aG m t j=true→R N 98 [.agg ((ah m).map .p),.agg ((ax c).map .p),.agg ((bm t).map .p),ab j] []=some (.tup [.agg ((bP ⟨m,c,t,nth m.instrs t.instr⟩).map .p),ab true],[]))∧
  (aG m t j=false→R N 98 [.agg ((ah m).map .p),.agg ((ax c).map .p),.agg ((bm t).map .p),ab j] []=some (.tup [.agg fw,ab false],[])):=by
 by_cases c0:0≤t.instr∧t.instr<m.instrs.length
 ·obtain⟨s,g2,hs,Ce,vO⟩:=aR c0.1 c0.2
  have hI:=hi s vO
  unfold aG
  rw[Ce]
  have c1:¬t.instr<0:=by omega
  have c2:¬(m.instrs.length:Int)≤t.instr:=by omega
  by_cases c3:t.args.length=s.opds.length
  ·have Ip:(t.args.length:Int)=s.opds.length:=by omega
   have hol:=hI.ol
   have RH:=hI.el
   have c4:decide (t.args.length=s.opds.length)=true:=by simpa using c3
   rw[c4]
   have q0:decide (0≤t.instr)=true:=by simpa using c0.1
   have q1:decide (t.instr<(m.instrs.length:Int))=true:=by simpa using c0.2
   rw[q0,q1]
   generalize hQ:(List.range s.opds.length).any (k8 j s t.args)=Q
   suffices hz:R N 98 [.agg ((ah m).map .p),.agg ((ax c).map .p),.agg ((bm t).map .p),ab j] []=some (if Q=true then .tup [.agg fw,ab false] else .tup [.agg ((bP ⟨m,c,t,s⟩).map .p),ab true],[]) by
    refine⟨fun h=> ?_,fun h=> ?_⟩
    ·simp at h;rw[h] at hz;simpa using hz
    ·simp at h;rw[h] at hz;simpa using hz
   have aa:rows 98=_:=Zi.eq_1
   obtain⟨n,rfl⟩:=up N
   rw[aE 98 Tryz.func98 rfl rfl]
   simp[aa,c0.1,c0.2,c1,c2,g2,hs,c3,eq_true Ip,List.take_append,List.drop_append]
   rw[bf s.opds.length (k8 j s t.args) (fun k=>⟨[(3,ab j),(6,.ref 2 0),(8,.ref 3 0),(9,ab false),(10,.ref 4 0),(11,ai k)],
      [.box ((ah m).map .p),.box ((ax c).map .p),.box ((bm t).map .p),.box fw,.box ((bP ⟨m,c,t,s⟩).map .p)]⟩)
    (fun k=>(.ret,⟨[(3,ab j),(6,.ref 2 0),(8,.ref 3 0),(9,ab false),(10,.ref 4 0),(11,ai k)],
      [.box ((ah m).map .p),.box ((ax c).map .p),.box ((bm t).map .p),.box fw,.box ((bP ⟨m,c,t,s⟩).map .p)]⟩))
    (.exit 0,⟨[(3,ab j),(6,.ref 2 0),(8,.ref 3 0),(9,ab false),(10,.ref 4 0),(11,ai s.opds.length)],
      [.box ((ah m).map .p),.box ((ax c).map .p),.box ((bm t).map .p),.box fw,.box ((bP ⟨m,c,t,s⟩).map .p)]⟩) (by omega) (by simp[aa,fw]) (by
      intro k h K
      have w1:=aA h (by omega)
      obtain⟨o,ho,lM,hom⟩:=ay h
      have ht:=hI.tied o hom
      have A8:k<t.args.length:=by omega
      obtain⟨y,hy,dV,_⟩:=ay A8
      by_cases q2:0≤o.tied
      ·obtain⟨z,g3,hz,Cd,_⟩:=aR (l:=t.args) q2 (show o.tied<(t.args.length:Int) by omega)
       have e:k8 j s t.args k=cE (aj (!j) (decide (o.kind=4))) (!decide (y=z)):=by
        unfold k8;rw[lM,dV,Cd];simp[q2,ak,aK,Bool.and_comm]
       have g4:o.tied<(t.args.length:Int):=by omega
       rw[e]
       unfold fw
       cases hc:cE (aj (!j) (decide (o.kind=4))) (!decide (y=z))<;>
        simp[aa,h,ho,A8,hy,q2,g3,g4,hz,w1,hc,←c3]
      ·have e:k8 j s t.args k=aj (!j) (decide (o.kind=4)):=by
        unfold k8;rw[lM];simp[q2,aK,ak,Bool.and_comm]
       rw[e]
       unfold fw
       cases hc:aj (!j) (decide (o.kind=4))<;>
        simp[aa,h,ho,A8,hy,q2,w1,hc]) (by simp[aa])]
   rcases ao (k8 j s t.args) (List.range s.opds.length) with⟨e1,e2,_⟩|⟨i,e1,e2,_⟩
   rotate_left
   ·rw[e2] at hQ;subst hQ;rw[e1];unfold fw;simp[aa]
   ·rw[e2] at hQ;subst hQ;rw[e1];unfold fw;simp[aa]
  ·refine⟨fun h=>by simp[c3] at h,fun _=> ?_⟩
   have aa:rows 98=_:=Zi.eq_1
   obtain⟨n,rfl⟩:=up N
   rw[aE 98 Tryz.func98 rfl rfl]
   have Ip:¬(t.args.length:Int)=s.opds.length:=by omega
   unfold fw
   simp[aa,c0.1,c0.2,c1,c2,g2,hs,c3,Ip,List.take_append,List.drop_append]
 ·have e:aG m t j=false:=by
   unfold aG
   by_cases h:0≤t.instr
   ·have:¬t.instr<m.instrs.length:=fun h'=>c0 ⟨h,h'⟩
    simp[this]
   ·simp[h]
  rw[e]
  refine⟨fun h=>by simp at h,fun _=> ?_⟩
  have aa:rows 98=_:=Zi.eq_1
  obtain⟨n,rfl⟩:=up N
  rw[aE 98 Tryz.func98 rfl rfl]
  have c1:cE (decide (t.instr<0)) (decide ((m.instrs.length:Int)≤t.instr))=true:=by rw[aK];simp;omega
  unfold fw
  simp[aa,c1]
theorem kM(l:List Int)(x:Int):∀k,∀y∈fR l x k,0≤y∧y<(k:Int)
 |0,y,h=>by simp[fR] at h
 |k+1,y,h=>by
  simp only[fR] at h
  split at h
  ·rcases List.mem_append.1 h with h|h
   ·have:=kM l x k y h;omega
   ·simp at h;omega
  ·have:=kM l x k y h;omega
def pl(l:List Int)(x:Int):Int:=nth (bo l x) 0
theorem lG{l:List Int}{x:Int}(h:0<(bo l x).length):(0≤pl l x∧pl l x<l.length)∧∀h:0<(bo l x).length,(bo l x)[0]=pl l x:=by
 obtain⟨y,hy,dV,hm⟩:=ay (l:=bo l x) (k:=0) h
 have e:pl l x=y:=dV
 rw[e]
 exact⟨kM l x l.length y hm,hy⟩
def eX(s:dh)(i b:Int):Bool:=aj (decide ((nth s.opds i).kind=1)) (cE (decide (b=-1)) (decide ((nth s.opds i).bank=b)))
def HG(s:dh)(i:Int):Bool:=cE (decide ((nth s.opds i).kind=2)) (decide ((nth s.opds i).kind=3))
def dc(m:aw)(s:dh)(i:Int):Tr:=nh (Hy m (nth s.opds i)) (nth s.opds i).name
def dg(m:aw)(s:dh)(a b:Int):Tr:=iR 5 m.address [dc m s a,dc m s b]
structure zr(v:View):Prop where
 wb:qa v.p.m
 len:v.args.length=v.ins.opds.length
 al:v.args.length≤100
 opds:∀o∈v.ins.opds,Bf v.p.m o
 val:Dp 80 v.main.val
 addr:Dp 80 v.main.addr
theorem zr.var{v:View}(h:zr v)(N:Nat)(hN:2≤N){i:Int}(h0:0≤i)(h1:i<v.args.length):R N 149 [.agg ((aB v).map .p),ai i] []=some (.agg ((aC (dc v.p.m v.ins i)).map .p),[]):=by
 have nA:i<v.ins.opds.length:=by have:=h.len;omega
 obtain⟨x,_,_,hx,hm⟩:=aR h0 nA
 exact Dt N hN v h.wb i h0 nA (by rw[hx];exact h.opds x hm)
theorem zr.reg{v:View}(h:zr v)(N:Nat)(hN:1≤N){i:Int}(b:Int)(h0:0≤i)(h1:i<v.args.length):R N 144 [.agg ((aB v).map .p),ai i,ai b] []=some (ab (eX v.ins i b),[]):=
 aaY N hN v i b h0 (by have:=h.len;omega)
theorem wQ(N:Nat)(hN:200≤N)(v:View)(hv:zr v)(f b:Int)(h1:0<(bo v.args f).length)(h2:0<(bo v.args (-3)).length)(h3:0<(bo v.args (-4)).length):
  R N 150 [.agg ((aB v).map .p),ai f,ai b] []=some (.tup [ai (pl v.args f),.agg ((aC (dg v.p.m v.ins (pl v.args (-3)) (pl v.args (-4)))).map .p),
   ab (aj (aj (eX v.ins (pl v.args f) b) (eX v.ins (pl v.args (-3)) (-1))) (HG v.ins (pl v.args (-4))))],[]):=by
 have aa:rows 150=_:=Z2.eq_1
 obtain⟨n,rfl⟩:=up N
 rw[aE 150 Tryz.func150 rfl rfl]
 have jc:=hv.al
 have ha:=fun x=>FN n v x (by omega) (by omega)
 obtain⟨⟨p0,p1⟩,p2⟩:=lG h1
 obtain⟨⟨q0,q1⟩,q2⟩:=lG h2
 obtain⟨⟨r0,r1⟩,r2⟩:=lG h3
 have WH:=hv.var n (by omega) q0 q1
 have WG:=hv.var n (by omega) r0 r1
 have mi:=hv.reg n (by omega) b p0 p1
 have zD:=hv.reg n (by omega) (-1) q0 q1
 have vk:=pH n (by omega) v 5 [dc v.p.m v.ins (pl v.args (-3)),dc v.p.m v.ins (pl v.args (-4))]
 have r3:pl v.args (-4)<v.ins.opds.length:=by have:=hv.len;omega
 obtain⟨o,g1,ho,lM,_⟩:=aR r0 r3
 have e:HG v.ins (pl v.args (-4))=cE (decide (o.kind=2)) (decide (o.kind=3)):=by unfold HG;rw[lM]
 rw[e]
 unfold dg
 simp[aT] at vk
 generalize pl v.args f=pf at*
 generalize pl v.args (-3)=ps at*
 generalize pl v.args (-4)=pn at*
 generalize dc v.p.m v.ins ps=t1 at*
 generalize dc v.p.m v.ins pn=t2 at*
 simp[aa,ha,h1,h2,h3,p2,q2,r2,WH,WG,mi,zD,vk,r0,r3,g1,ho]
@[simp] theorem abk(v:View):(((aB v).map AV.p).drop 43).take 6=(aC v.main.val).map AV.p:=by
  have h:((aB v).map AV.p).drop 43=((((aB v).map AV.p).drop 34).take 21).drop 9++[.p (.bool v.one)]:=by
   simp[aB,List.drop_append,List.take_append,List.drop_eq_nil_of_le]
  rw[h,Go.En.pView_main,List.take_append_of_le_length (by simp),OY]
@[simp] theorem V_(v:View):(((aB v).map AV.p).drop 37).take 6=(aC v.main.addr).map AV.p:=by
  have h:((aB v).map AV.p).drop 37=((((aB v).map AV.p).drop 34).take 21).drop 3++[.p (.bool v.one)]:=by
   simp[aB,List.drop_append,List.take_append,List.drop_eq_nil_of_le]
  rw[h,Go.En.pView_main,List.take_append_of_le_length (by simp),KU]
def zw(s:dh)(args:List Int)(f b:Int):Bool:=aj (aj (eX s (pl args f) b) (eX s (pl args (-3)) (-1))) (HG s (pl args (-4)))
def loadT(w:Int)(a:Tr):Tr:=.mk 24 w 0 ⟨#[]⟩ 0 false [a]
def TX(v:View)(b:Int):Bool:=
 v.one&&(e9 v.args 1 0 1 1&&(zw v.ins v.args (-1) b&&(fz v.main (pl v.args (-1))&&aI v.main.val (loadT (cy v.p.m b) (dg v.p.m v.ins (pl v.args (-3)) (pl v.args (-4)))))))
theorem o7{l:List Int}{a b c d:Int}(h:e9 l a b c d=true):((bo l (-1)).length:Int)=a∧((bo l (-2)).length:Int)=b∧((bo l (-3)).length:Int)=c∧((bo l (-4)).length:Int)=d:=by
 simpa [e9,ak,and_assoc] using h
theorem Pm(N:Nat)(hN:1400≤N)(v:View)(hv:zr v)(b:Int)(b0:0≤b)(b1:b<v.p.m.banks.length):
  R N 122 [.agg ((aB v).map .p),ai b] []=some (ab (TX v b),[]):=by
 have aa:rows 122=_:=NP.eq_1
 obtain⟨n,rfl⟩:=up N
 rw[aE 122 Tryz.func122 rfl rfl]
 have jc:=hv.al
 have hc:=mL n (by omega) v 1 0 1 1 (by omega)
 unfold TX
 cases ho:v.one
 ·simp[aa,ho]
 cases vn:e9 v.args 1 0 1 1
 ·rw[vn] at hc
  simp[aa,ho,hc]
 rw[vn] at hc
 obtain⟨l1,l2,l3,l4⟩:=o7 vn
 have cm:=wQ n (by omega) v hv (-1) b (by omega) (by omega) (by omega)
 have zC:=rY n (by omega) v.main (pl v.args (-1))
 have hw:=Bj n (by omega) hv.wb b0 b1
 have vO:=iM 80 n v.main.val (loadT (cy v.p.m b) (dg v.p.m v.ins (pl v.args (-3)) (pl v.args (-4)))) hv.val (by omega)
 unfold zw
 have e1:aC (loadT (cy v.p.m b) (dg v.p.m v.ins (pl v.args (-3)) (pl v.args (-4))))=[.int .u8 24,.int .i64 (cy v.p.m b),.int .u64 0,.str ⟨#[]⟩,.int .i64 0,.sl [.agg (aC (dg v.p.m v.ins (pl v.args (-3)) (pl v.args (-4))))]]:=by
  simp[loadT,ae,Tr.kind,Tr.width,Tr.bits,Tr.name,Tr.low,Tr.z,Tr.sub,aT]
 rw[e1] at vO
 generalize aI v.main.val (loadT (cy v.p.m b) (dg v.p.m v.ins (pl v.args (-3)) (pl v.args (-4))))=sm at*
 generalize dg v.p.m v.ins (pl v.args (-3)) (pl v.args (-4))=ad at*
 generalize pl v.args (-1)=p1 at*
 simp at vO
 simp[aa,ho,hc,cm,zC,hw,vO,ak,Bool.and_assoc]
def SX(v:View)(b:Int):Bool:=
 v.one&&(e9 v.args 0 1 1 1&&(zw v.ins v.args (-2) b&&(decide (v.main.kind=2)&&(aI v.main.addr (dg v.p.m v.ins (pl v.args (-3)) (pl v.args (-4)))&&aI v.main.val (dc v.p.m v.ins (pl v.args (-2)))))))
theorem Km(N:Nat)(hN:1400≤N)(v:View)(hv:zr v)(b:Int):
  R N 123 [.agg ((aB v).map .p),ai b] []=some (ab (SX v b),[]):=by
 have aa:rows 123=_:=NO.eq_1
 obtain⟨n,rfl⟩:=up N
 rw[aE 123 Tryz.func123 rfl rfl]
 have jc:=hv.al
 have hc:=mL n (by omega) v 0 1 1 1 (by omega)
 unfold SX
 cases ho:v.one
 ·simp[aa,ho]
 cases vn:e9 v.args 0 1 1 1
 ·rw[vn] at hc
  simp[aa,ho,hc]
 rw[vn] at hc
 obtain⟨l1,l2,l3,l4⟩:=o7 vn
 have cm:=wQ n (by omega) v hv (-2) b (by omega) (by omega) (by omega)
 obtain⟨⟨p0,p1⟩,_⟩:=lG (l:=v.args) (x:=-2) (by omega)
 have vN:=hv.var n (by omega) p0 p1
 have Nb:=iM 80 n v.main.addr (dg v.p.m v.ins (pl v.args (-3)) (pl v.args (-4))) hv.addr (by omega)
 have Mr:=iM 80 n v.main.val (dc v.p.m v.ins (pl v.args (-2))) hv.val (by omega)
 unfold zw
 generalize dg v.p.m v.ins (pl v.args (-3)) (pl v.args (-4))=ad at*
 generalize dc v.p.m v.ins (pl v.args (-2))=va at*
 generalize pl v.args (-2)=p2 at*
 generalize aj (aj (eX v.ins p2 b) (eX v.ins (pl v.args (-3)) (-1))) (HG v.ins (pl v.args (-4)))=sk at*
 generalize aI v.main.addr ad=s1 at*
 cases sk
 ·simp[aa,ho,hc,cm]
 by_cases k2:v.main.kind=2
 rotate_left
 ·simp[aa,ho,hc,cm,k2]
 cases s1
 ·simp[aa,ho,hc,cm,eq_true k2,Nb]
 ·simp[aa,ho,hc,cm,eq_true k2,vN,Nb,Mr]
theorem OM(N:Nat)(hN:5≤N)(v:View)(hv:zr v)(i:Int)(h0:0≤i)(h1:i<v.args.length):
  R N 174 (ai i::refs 1) (boxes [aB v])=some (ab (!eX v.ins i (-1)),boxes [aB v]):=by
 have aa:rows 174={}:=rfl
 obtain⟨n,rfl⟩:=up N
 rw[aE 174 Tryz.func174 rfl rfl]
 have hr:=hv.reg n (by omega) (-1) h0 h1
 simp[aa,boxes,refs,fA,hr]
theorem Tn(N:Nat)(hN:1100≤N)(v:View)(hv:zr v)(l:List Int)(hl:l.length≤1000)(hi:∀i∈l,0≤i∧i<(v.args.length:Int)):
  R N 151 [.agg ((aB v).map .p),.p (ints l)] []=some (ab (!l.any fun i=> !eX v.ins i (-1)),[]):=by
 have aa:rows 151={}:=rfl
 obtain⟨n,rfl⟩:=up N
 rw[aE 151 Tryz.func151 rfl rfl]
 have hc:=di n l 174 [aB v] (fun i=> !eX v.ins i (-1)) rfl (by simp) (by omega) (by omega) (fun M hM x hx=>OM M (by omega) v hv x (hi x hx).1 (hi x hx).2)
 simp[boxes,refs,fA,-List.any_eq_true] at hc
 generalize (l.any fun i=> !eX v.ins i (-1))=Q at*
 simp[aa,hc]
theorem U2(N:Nat)(hN:5≤N)(v:View)(i:Int):
  R N 152 (ai i::refs 1) (boxes [aB v])=some (ab (fz v.main i),boxes [aB v]):=by
 have aa:rows 152={}:=rfl
 obtain⟨n,rfl⟩:=up N
 rw[aE 152 Tryz.func152 rfl rfl]
 have hr:=rY n (by omega) v.main i
 simp[aa,boxes,refs,fA,hr]
theorem U1(N:Nat)(hN:1300≤N)(v:View)(hv:zr v)(i k:Int)(h0:0≤i)(h1:i<v.args.length)(k0:0≤k)(k1:k<v.args.length):
  R N 153 (ai i::refs 2) (boxes [aB v,[i64 k]])=some (ab (aI v.main.val (dg v.p.m v.ins i k)),boxes [aB v,[i64 k]]):=by
 have aa:rows 153=_:=Z1.eq_1
 obtain⟨n,rfl⟩:=up N
 rw[aE 153 Tryz.func153 rfl rfl]
 have WH:=hv.var n (by omega) h0 h1
 have WG:=hv.var n (by omega) k0 k1
 have vk:=pH n (by omega) v 5 [dc v.p.m v.ins i,dc v.p.m v.ins k]
 have Mr:=iM 80 n v.main.val (dg v.p.m v.ins i k) hv.val (by omega)
 unfold dg at Mr ⊢
 simp[aT] at vk
 generalize dc v.p.m v.ins i=t1 at*
 generalize dc v.p.m v.ins k=t2 at*
 simp[aa,boxes,refs,fA,WH,WG,vk,Mr]
def zb(v:View):Bool:=
 v.one&&((decide (0<(bo v.args (-3)).length)&&e9 v.args 0 0 (bo v.args (-3)).length 1)&&(decide ((nth v.ins.opds (pl v.args (-4))).kind=2)&&
  ((!(bo v.args (-3)).any fun i=> !eX v.ins i (-1))&&((bo v.args (-3)).any (fz v.main)&&(bo v.args (-3)).any fun i=>aI v.main.val (dg v.p.m v.ins i (pl v.args (-4)))))))
theorem Iy(N:Nat)(hN:1500≤N)(v:View)(hv:zr v)(b:Int):
  R N 124 [.agg ((aB v).map .p),ai b] []=some (ab (zb v),[]):=by
 have aa:rows 124={}:=rfl
 obtain⟨n,rfl⟩:=up N
 rw[aE 124 Tryz.func124 rfl rfl]
 have jc:=hv.al
 have ha:=fun x=>FN n v x (by omega) (by omega)
 have hc:=mL n (by omega) v 0 0 (bo v.args (-3)).length 1 (by omega)
 have oO:(bo v.args (-3)).length≤v.args.length:=dQ _ _ _
 have ny:∀i∈bo v.args (-3),0≤i∧i<(v.args.length:Int):=kM _ _ _
 have n7:=Tn n (by omega) v hv (bo v.args (-3)) (by omega) ny
 have ca:=di n (bo v.args (-3)) 152 [aB v] (fz v.main) rfl (by simp) (by omega) (by omega) (fun M hM x hx=>U2 M (by omega) v x)
 simp[boxes,refs,fA,-List.any_eq_true] at ca
 unfold zb
 cases ho:v.one
 ·simp[aa,ho,ha]
 by_cases h0:0<(bo v.args (-3)).length
 rotate_left
 ·have hz:bo v.args (-3)=[]:=List.eq_nil_of_length_eq_zero (by omega)
  simp[aa,ho,ha,hz]
 have Re:¬bo v.args (-3)=[]:=fun h=>by rw[h] at h0;simp at h0
 cases vn:e9 v.args 0 0 (bo v.args (-3)).length 1
 ·rw[vn] at hc
  simp[aa,ho,ha,Re,hc]
 rw[vn] at hc
 obtain⟨l1,l2,l3,l4⟩:=o7 vn
 have h4:0<(bo v.args (-4)).length:=by omega
 obtain⟨⟨r0,r1⟩,r2⟩:=lG h4
 have r3:pl v.args (-4)<v.ins.opds.length:=by have:=hv.len;omega
 obtain⟨o,g1,wk,zE,_⟩:=aR r0 r3
 have cb:=di n (bo v.args (-3)) 153 [aB v,[i64 (pl v.args (-4))]] (fun i=>aI v.main.val (dg v.p.m v.ins i (pl v.args (-4)))) rfl (by simp) (by omega) (by omega) (fun M hM x hx=>U1 M (by omega) v hv x (pl v.args (-4)) (ny x hx).1 (ny x hx).2 r0 r1)
 simp[boxes,refs,fA,-List.any_eq_true] at cb
 rw[zE]
 generalize ((bo v.args (-3)).any fun i=>aI v.main.val (dg v.p.m v.ins i (pl v.args (-4))))=Q3 at*
 generalize ((bo v.args (-3)).any (fz v.main))=Q2 at*
 generalize ((bo v.args (-3)).any fun i=> !eX v.ins i (-1))=Q1 at*
 by_cases k2:o.kind=2
 ·cases Q1
  ·cases Q2
   ·simp[aa,ho,ha,h0,Re,hc,h4,r2,r0,r3,g1,wk,eq_true k2,n7,ca,cb]
   ·simp[aa,ho,ha,h0,Re,hc,h4,r2,r0,r3,g1,wk,eq_true k2,n7,ca,cb]
  ·simp[aa,ho,ha,h0,Re,hc,h4,r2,r0,r3,g1,wk,eq_true k2,n7,ca,cb]
 ·simp[aa,ho,ha,h0,Re,hc,h4,r2,r0,r3,g1,wk,k2,n7,ca,cb]
mutual
def bh:Tr→Tr
 | .mk k w b n l _ s=>.mk k w b n l false (qc s)
def qc:List Tr→List Tr
 |[]=>[]
 |x::r=>bh x::qc r
end
theorem SL(l:List Tr):qc l=l.map bh:=by
 induction l with
 |nil=>rfl
 |cons x r ih=>simp[qc,ih]
theorem jI(t:Tr):bh t=.mk t.kind t.width t.bits t.name t.low false (t.sub.map bh):=by
 cases t;simp only[bh,SL,Tr.kind,Tr.width,Tr.bits,Tr.name,Tr.low,Tr.sub]
theorem bA(k w b:Int)(n:ByteArray)(l:Int)(z:Bool)(s:List Tr):aC (.mk k w b n l z s)=[.int .u8 k,.int .i64 w,.int .u64 b,.str n,.int .i64 l,fg z (s.map aT)]:=by
 rw[ae];rfl
theorem N':∀(d N:Nat) (t:Tr),Dp d t→d+1100≤N→R N 171 [.agg ((aC t).map .p)] []=some (.agg ((aC (bh t)).map .p),[]):=by
 intro d
 induction d with
 |zero=>intro N t h;exact h.elim
 |succ d ih=>
  intro N t ht hN
  have hl:=ht.1
  have aa:rows 171=_:=ZT.eq_1
  obtain⟨n,rfl⟩:=up N
  rw[aE 171 Tryz.func171 rfl rfl]
  simp[aa]
  rw[av t.sub.length (fun k=>⟨[(1,.ref 0 0),(2,.ref 1 0),(3,.arr 2 k 0 k),(7,.p (fg t.z (t.sub.map aT))),(8,ai t.sub.length),(9,ai k)],
     [.box ((aC t).map .p),.box [.p (.int .u8 0),ai 0,.p (.int .u64 0),.p (.str ⟨#[]⟩),ai 0,.p .nils],.arr k 6 false (((t.sub.take k).map bh).map aT)]⟩)
   (.exit 0,⟨[(1,.ref 0 0),(2,.ref 1 0),(3,.arr 2 t.sub.length 0 t.sub.length),(7,.p (fg t.z (t.sub.map aT))),(8,ai t.sub.length),(9,ai t.sub.length)],
     [.box ((aC t).map .p),.box [.p (.int .u8 0),ai 0,.p (.int .u64 0),.p (.str ⟨#[]⟩),ai 0,.p .nils],.arr t.sub.length 6 false ((t.sub.map bh).map aT)]⟩) (by omega) (by simp[aa]) (by
     intro k h K
     have w1:=aA h (by omega)
     obtain⟨x,hx,_,hm⟩:=ay h
     have bI:=ih n x (ht.2 x hm) (by omega)
     have b1:(k+1)*72≤1099511627776:=by omega
     have b2:k+1≤1099511627776:=by omega
     have e:(t.sub.take (k+1)).map bh=(t.sub.take k).map bh++[bh x]:=by
      rw[List.take_succ_eq_append_getElem h,hx h];simp
     rw[e]
     have hlen:((t.sub.take k).map bh).length=k:=by simp;omega
     generalize (t.sub.take k).map bh=A at*
     simp[aa,h,hx,bX t.z h,bI,w1,b1,b2,hlen]
     try rfl) (by simp[aa])]
  rw[jI,bA]
  simp[aa,ae t]
theorem OP:∀(d N:Nat) (t:Tr),Dp d t→d+1100≤N→R N 162 [.agg ((aC t).map .p)] []=some (.agg ((aC (bh t)).map .p),[]):=by
 intro d
 induction d with
 |zero=>intro N t h;exact h.elim
 |succ d ih=>
  intro N t ht hN
  have hl:=ht.1
  have aa:rows 162=_:=ZW.eq_1
  obtain⟨n,rfl⟩:=up N
  rw[aE 162 Tryz.func162 rfl rfl]
  simp[aa]
  simp[aa,qo,nw]
  rw[av t.sub.length (fun k=>⟨[(1,.ref 0 0),(2,.ref 1 0),(3,.ref 2 0),(4,ai k)],
     [.box ((aC t).map .p),.box [.p (.int .u8 0),ai 0,.p (.int .u64 0),.p (.str ⟨#[]⟩),ai 0,.p .nils],.box [.p (.int .u8 t.kind),ai t.width,.p (.int .u64 t.bits),.p (.str t.name),ai t.low,.arr 3 k 0 k],.arr k 6 false (((t.sub.take k).map bh).map aT)]⟩)
   (.exit 0,⟨[(1,.ref 0 0),(2,.ref 1 0),(3,.ref 2 0),(4,ai t.sub.length)],
     [.box ((aC t).map .p),.box [.p (.int .u8 0),ai 0,.p (.int .u64 0),.p (.str ⟨#[]⟩),ai 0,.p .nils],.box [.p (.int .u8 t.kind),ai t.width,.p (.int .u64 t.bits),.p (.str t.name),ai t.low,.arr 3 t.sub.length 0 t.sub.length],.arr t.sub.length 6 false ((t.sub.map bh).map aT)]⟩) (by omega) (by simp[aa]) (by
     intro k h K
     have w1:=aA h (by omega)
     obtain⟨x,hx,_,hm⟩:=ay h
     have bI:=ih n x (ht.2 x hm) (by omega)
     have b1:(k+1)*72≤1099511627776:=by omega
     have b2:k+1≤1099511627776:=by omega
     have e:(t.sub.take (k+1)).map bh=(t.sub.take k).map bh++[bh x]:=by
      rw[List.take_succ_eq_append_getElem h,hx h];simp
     rw[e]
     have hlen:((t.sub.take k).map bh).length=k:=by simp;omega
     generalize (t.sub.take k).map bh=A at*
     simp[aa,h,hx,bX t.z h,bI,w1,b1,b2,hlen]
     try rfl) (by simp[aa])]
  rw[jI,bA]
  simp[aa]
end Go.En.V
