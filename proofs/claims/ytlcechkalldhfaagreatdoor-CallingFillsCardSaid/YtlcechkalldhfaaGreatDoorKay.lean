/- Part of the proof of CallingFills: engine, contracts or law, joined by a program from the texts X73. -/
import Derived.Test.YtlcechkalldhfaaGreatDoorKao
import Derived.Test.YtlcechkalldhfaaGreatDoorKav
import Derived.Test.YtlcechkalldhfaaGreatDoorKaw
set_option linter.all false
set_option maxRecDepth 100000
set_option maxHeartbeats 4000000
namespace Go.En.V
open Go.Proofs
@[simp ↓] theorem aia(x:X)(c:Code)(i:Nat)(s:St):ia x (.scope c) i s=ia x c 0 s:=rfl
theorem MT.vok{p:eU}{t:gf}(h:MT p.m t){j:Bool}(hs:aG p.m t j=true):zr (bc p t):=by
 obtain⟨hf,hm⟩:=h.fok p.c hs
 have hd:=hf.main_dp
 exact⟨h.wb,hf.len,h.al,h.opds _ hm,hd.2,hd.1⟩
def lK(c:Conv):Nat→Int
 |0=>-1
 |k+1=>(nth c.moves (k:Int)).bank
theorem xT(c:Conv)(k:Nat):lK c (k+1)=(nth c.moves (k:Int)).bank:=rfl
theorem KX{m:aw}{c:Conv}{k:Nat}(hl: -1≤lK c k):xl m c k=(decide (lK c k<(nth c.moves k).bank)&&decide ((nth c.moves k).bank<m.banks.length)):=by
 cases k with
 |zero=>
  unfold xl lK
  rw[Bool.eq_iff_iff]
  simp only[Bool.and_eq_true,Bool.or_eq_true,decide_eq_true_eq]
  constructor
  ·rintro⟨⟨a,b⟩,_⟩;exact⟨by omega,b⟩
  ·rintro⟨a,b⟩;exact⟨⟨by omega,b⟩,.inl trivial⟩
 |succ k=>
  unfold xl
  have e:(((k+1:Nat):Int)-1)=(k:Int):=by omega
  rw[e]
  unfold lK at hl ⊢
  simp only at hl ⊢
  rw[Bool.eq_iff_iff]
  simp only[Bool.and_eq_true,Bool.or_eq_true,decide_eq_true_eq]
  constructor
  ·rintro⟨⟨a,b⟩,h⟩
   rcases h with h|h
   ·omega
   ·exact⟨h,b⟩
  ·rintro⟨a,b⟩;exact⟨⟨by omega,b⟩,.inr a⟩
theorem OZ(m:aw)(l:List Int):D8 m l=(List.range l.length).any fun k=>(l.take k).any (aP m (nth l k)):=by
 unfold D8
 rw[Bool.eq_iff_iff]
 simp only[List.any_eq_true,List.mem_range]
 constructor
 ·rintro⟨k,hk,j,hj,h⟩
  have iO:j<l.length:=by omega
  exact⟨k,hk,l[j],List.mem_take_iff_getElem.2 ⟨j,by omega,rfl⟩,by rw[bq l j iO] at h;exact h⟩
 ·rintro⟨k,hk,y,hy,h⟩
  obtain⟨j,hj,rfl⟩:=List.mem_take_iff_getElem.1 hy
  exact⟨k,hk,j,by omega,by rw[bq l j (by omega)];exact h⟩
theorem O8(n0:Nat)(CP:gf→Int→Bool)(N:Nat)(p:eU)(h:Yg p.m p.c)(hN:n0+1≤N)(kc:2100≤N)
  (H3:∀n,n0≤n→∀x∈p.c.moves,0≤x.bank→x.bank<p.m.banks.length→R n 54 [ag (aD p),.p (.str ⟨#[99,111,112,121]⟩),ag (bm x.copy),ai x.bank] []=some (ab (aG p.m x.copy false&&CP x.copy x.bank),[])):
  R N 52 [ag (aD p)] []=some (ab (xB p.m p.c CP),[]):=by
 have q1:=h.ml
 have aa:rows 52=_:=YK.eq_1
 obtain⟨n,rfl⟩:=up N
 rw[aE 52 Tryz.func52 rfl rfl]
 unfold xB
 by_cases c0:p.c.moves.length=0
 ·have FG:p.c.moves=[]:=List.eq_nil_of_length_eq_zero c0
  simp[aa,FG]
 have FG:¬p.c.moves=[]:=fun h=>c0 (by rw[h];rfl)
 have e0:decide (0<p.c.moves.length)=true:=by simpa using Nat.pos_of_ne_zero c0
 by_cases c1:16<p.c.moves.length
 ·have fY:(16:Int)<(p.c.moves.length:Int):=by omega
  have e1:decide (p.c.moves.length≤16)=false:=by simpa using c1
  simp[aa,FG,fY,e1]
 have fY:¬(16:Int)<(p.c.moves.length:Int):=by omega
 have e1:decide (p.c.moves.length≤16)=true:=by simpa using Nat.le_of_not_lt c1
 rw[e0,e1]
 generalize AJ:(List.range p.c.moves.length).all (mJ p.m p.c CP)=Q1
 generalize GA:(p.c.moves.any fun x=>decide (x.bank=p.c.bank))=Q2
 simp[aa,FG,fY]
 rw[mF p.c.moves.length (fun k=> !mJ p.m p.c CP k) (fun k=>⟨[(1,.ref 0 0),(2,qv k),(3,ai (lK p.c k)),(4,ab ((p.c.moves.take k).any fun x=>decide (x.bank=p.c.bank))),(25,.p (.sl (p.c.moves.map iG))),(26,ai p.c.moves.length),(27,ai k)],[bx (aD p)]⟩)
  (fun k=>if xl p.m p.c k=false then(.ret,⟨[(1,.ref 0 0),(2,ab false),(3,ai (lK p.c k)),(4,ab ((p.c.moves.take k).any fun x=>decide (x.bank=p.c.bank))),(25,.p (.sl (p.c.moves.map iG))),(26,ai p.c.moves.length),(27,ai k)],[bx (aD p)]⟩)
    else if D8 p.m (nth p.m.banks (nth p.c.moves k).bank).regs=true then(.exit 0,⟨[(1,.ref 0 0),(2,.undef),(3,ai (lK p.c (k+1))),(4,ab false),(25,.p (.sl (p.c.moves.map iG))),(26,ai p.c.moves.length),(27,ai k)],[bx (aD p)]⟩)
    else(.ret,⟨[(1,.ref 0 0),(2,ab false),(3,ai (lK p.c (k+1))),(4,ab ((p.c.moves.take (k+1)).any fun x=>decide (x.bank=p.c.bank))),(25,.p (.sl (p.c.moves.map iG))),(26,ai p.c.moves.length),(27,ai k)],[bx (aD p)]⟩))
  (.exit 0,⟨[(1,.ref 0 0),(2,.undef),(3,ai (lK p.c p.c.moves.length)),(4,ab Q2),(25,.p (.sl (p.c.moves.map iG))),(26,ai p.c.moves.length),(27,ai p.c.moves.length)],[bx (aD p)]⟩) (by omega) (by simp[aa,qv,lK]) (by
    intro k hk HX K
    have w1:=aA hk (by omega)
    obtain⟨x,hx,bI,m9⟩:=ay hk
    have Ul:=h.mt x m9
    have ape: -1≤lK p.c k:=by
     cases k with
     |zero=>exact Int.le_refl _
     |succ k=>
      have:=HX k (by omega)
      simp only[Bool.not_eq_false'] at this
      unfold mJ xl at this
      simp only[Bool.and_eq_true,decide_eq_true_eq] at this
      rw[xT];omega
    have el:lK p.c (k+1)=x.bank:=by rw[xT,bI]
    have eo:(p.c.moves.take (k+1)).any (fun x=>decide (x.bank=p.c.bank))=cE ((p.c.moves.take k).any fun x=>decide (x.bank=p.c.bank)) (decide (x.bank=p.c.bank)):=tg _ hk hx
    rw[el,eo]
    have eq1:qv (k+1)=.undef:=rfl
    rw[eq1]
    generalize (p.c.moves.take k).any (fun x=>decide (x.bank=p.c.bank))=ow
    generalize qv k=qk
    have EI:=KX (m:=p.m) ape
    unfold mJ
    rw[bI] at EI ⊢
    generalize lK p.c k=la at*
    cases c2:xl p.m p.c k
    ·rw[c2] at EI
     have d1:cE (decide (x.bank≤la)) (decide ((p.m.banks.length:Int)≤x.bank))=true:=by
      have:=EI.symm
      rw[Bool.and_eq_false_iff,decide_eq_false_iff_not,decide_eq_false_iff_not] at this
      rw[aK];simp;omega
     simp[aa,hk,hx,d1]
    rw[c2] at EI
    have EI:=EI.symm
    simp only[Bool.and_eq_true,decide_eq_true_eq] at EI
    obtain⟨b2,b1⟩:=EI
    have b0:0≤x.bank:=by omega
    have d1:¬x.bank≤la:=by omega
    have d2:¬(p.m.banks.length:Int)≤x.bank:=by omega
    obtain⟨bk,g2,zq,Cp,hbm⟩:=aR b0 b1
    obtain⟨a1,a2,a3⟩:=h.wb.bank b0 b1
    have EC:=Bj n (by omega) h.wb b0 b1
    have ya:=H3 n (by omega) x m9 b0 b1
    have Dg:=DL n (by omega) p x.load x.bank h.wb Ul.2.1.al Ul.2.1.ins (fun hs=>Ul.2.1.vok hs) b0 b1
    have Ua:=BI n (by omega) p x.store x.bank h.wb Ul.2.2.al Ul.2.2.ins (fun hs=>Ul.2.2.vok hs)
    rw[Cp]
    rw[Cp] at a2 a3
    have RN:=OZ p.m bk.regs
    generalize hP:D8 p.m bk.regs=P at*
    unfold aal
    have ep:(⟨p.m,p.c⟩:eU)=p:=rfl
    rw[ep]
    generalize cy p.m x.bank=wd at*
    generalize (aG p.m x.copy false&&CP x.copy x.bank)=t1 at*
    generalize (aG p.m x.load false&&TX (bc p x.load) x.bank)=t2 at*
    generalize (aG p.m x.store false&&SX (bc p x.store) x.bank)=t3 at*
    generalize hW:gE wd=W
    simp[aa,hk,hx,d1,d2,b0,b1,g2,zq]
    generalize wk:cE ow (decide (x.bank=p.c.bank))=oo
    rw[bf bk.regs.length (fun a=>(bk.regs.take a).any (aP p.m (nth bk.regs a))) (fun a=>⟨[(1,.ref 0 0),(3,ai x.bank),(4,ab oo),(6,.ref 1 0),(7,.p (ints bk.regs)),(25,.p (.sl (p.c.moves.map iG))),(26,ai p.c.moves.length),(27,ai k),(63,.p (ints bk.regs)),(64,ai bk.regs.length),(65,ai a)],[bx (aD p),bx (ew x)]⟩)
     (fun a=>(.exit 0,⟨[(1,.ref 0 0),(3,ai x.bank),(4,ab false),(6,.ref 1 0),(7,.p (ints bk.regs)),(25,.p (.sl (p.c.moves.map iG))),(26,ai p.c.moves.length),(27,ai k),(63,.p (ints bk.regs)),(64,ai bk.regs.length),(65,ai a)],[bx (aD p),bx (ew x)]⟩))
     (.exit 2,⟨[(1,.ref 0 0),(3,ai x.bank),(4,ab oo),(6,.ref 1 0),(7,.p (ints bk.regs)),(25,.p (.sl (p.c.moves.map iG))),(26,ai p.c.moves.length),(27,ai k),(63,.p (ints bk.regs)),(64,ai bk.regs.length),(65,ai bk.regs.length)],[bx (aD p),bx (ew x)]⟩) (by omega) (by simp[aa]) (by
       intro a ha K
       have v1:=aA ha (by omega)
       obtain⟨r,mi,zD,ti⟩:=ay ha
       have zH:a≤bk.regs.length:=by omega
       have hR:=a3 r ti
       have tu:R n 51 [ag (aD p),ai r,.p (.sl ((bk.regs.map i64).take a))] []=some (ab ((bk.regs.take a).any (aP p.m r)),[]):=by
        rw[←List.map_take];exact iw n p r (bk.regs.take a) (by simp;omega) (by simp;omega) hR.1 hR.2 (fun y hy=>(a3 y (List.mem_of_mem_take hy)).2)
       rw[zD]
       cases hp:(bk.regs.take a).any (aP p.m r)<;>rw[hp] at tu<;>simp[aa,ha,zH,mi,tu,v1]) (by simp[aa])]
    rcases ao (fun a:Nat=>(bk.regs.take a).any (aP p.m (nth bk.regs a))) (List.range bk.regs.length) with⟨e1,e2,_⟩|⟨i,e1,e2,_⟩
    rotate_left
    ·rw[e2] at RN;subst RN;rw[e1];simp[aa]
    rw[e2] at RN;subst RN;rw[e1]
    unfold gE at hW
    cases W
    ·have lr:aj (aj (aj (!decide (wd=8)) (!decide (wd=16))) (!decide (wd=32))) (!decide (wd=64))=true:=by
      simp only[aK,Bool.or_eq_false_iff,decide_eq_false_iff_not] at hW
      simp[ak,hW]
     simp[aa,EC,lr]
    have lr:aj (aj (aj (!decide (wd=8)) (!decide (wd=16))) (!decide (wd=32))) (!decide (wd=64))=false:=by
     simp only[aK,Bool.or_eq_true,decide_eq_true_eq] at hW
     rcases hW with((hW|hW)|hW)|hW<;>simp[ak,hW]
    cases t1
    ·simp[aa,EC,lr,ya]
    cases t2
    ·simp[aa,EC,lr,ya,Dg]
    cases t3
    ·simp[aa,EC,lr,ya,Dg,Ua]
    simp[aa,EC,lr,ya,Dg,Ua,w1]) (by
     intro _ K
     have e:qv p.c.moves.length=.undef:=by
      obtain⟨q,hq⟩:∃q,p.c.moves.length=q+1:=⟨p.c.moves.length-1,by omega⟩
      rw[hq];rfl
     rw[List.take_length,GA,e];simp[aa])]
 have l6:(List.range p.c.moves.length).any (fun k=> !mJ p.m p.c CP k)= !Q1:=by rw[←AJ];exact k_ _ _
 rcases ao (fun k:Nat=> !mJ p.m p.c CP k) (List.range p.c.moves.length) with⟨e3,e4,_⟩|⟨i,e3,e4,_⟩
 ·rw[e4] at l6
  have HW:Q1=true:=by cases Q1 with
   |true=>rfl
   |false=>simp at l6
  subst HW
  rw[e3];simp[aa]
 ·rw[e4] at l6
  have HW:Q1=false:=by cases Q1 with
   |false=>rfl
   |true=>simp at l6
  subst HW
  rw[e3,E_]
  split
  ·simp[aa]
  ·split<;>simp[aa]
end Go.En.V
