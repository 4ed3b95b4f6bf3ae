/- Part of the proof of CallingFills: engine, contracts or law, joined by a program from the texts X87 X88 X89 X90 X91 X92. -/
import Derived.Test.YtlcechkalldhfaaGreatDoorKaj
set_option linter.all false
set_option maxRecDepth 100000
set_option maxHeartbeats 4000000
namespace Go.En.V
open Go.Proofs
def bQ(x i:Nat):Int:=if x.testBit i then 1 else 0
def bl(w x:Nat):List Int:=(List.range w).map (bQ x)
@[simp] theorem b8(w x:Nat):(bl w x).length=w:=by simp[bl]
theorem b9(w x k:Nat)(h:k<(bl w x).length):(bl w x)[k]=bQ x k:=by simp[bl]
theorem kh(w x:Nat):bl (w+1) x=bl w x++[bQ x w]:=by simp[bl,List.range_succ]
theorem jq(x i:Nat):bQ x i=((x/2^i % 2:Nat):Int):=by
 unfold bQ
 rw[Nat.testBit_eq_decide_div_mod_eq]
 have:=Nat.mod_two_eq_zero_or_one (x/2^i)
 rcases this with h|h<;>simp[h]
theorem QH{w x y:Nat}(h:∀i,i<w→x.testBit i=y.testBit i):bl w x=bl w y:=by
 unfold bl
 apply List.map_congr_left
 intro i hi
 simp at hi
 unfold bQ
 rw[h i hi]
theorem QG(w x:Nat):bl w (x % 2^w)=bl w x:=QH fun i hi=>by simp[Nat.testBit_mod_two_pow,hi]
theorem mod_succ(x k:Nat):x % 2^(k+1)=x % 2^k+2^k*(x/2^k % 2):=by rw[Nat.pow_succ,Nat.mod_mul]
theorem SB(N:Nat)(hN:1010≤N)(x i:Nat)(hx:x<18446744073709551616)(hi:i<64):R N 251 [.p (.int .u64 x),ai i] []=some (ai (bQ x i),[]):=by
 have aa:rows 251={}:=rfl
 obtain⟨n,rfl⟩:=up N
 rw[aE 251 Tryz.func251 rfl rfl]
 have hp:=tp n i (by omega) (by omega)
 have D5:2^i≤2^63:=Nat.pow_le_pow_right (by decide) (by omega)
 have h0:0<2^i:=Nat.pow_pos (by decide)
 have e:(2:Int)^(i:Int).toNat % 18446744073709551616=((2^i:Nat):Int):=by
  rw[Int.toNat_natCast]
  have:((2^i:Nat):Int)=(2:Int)^i:=by simp
  rw[←this]
  omega
 rw[e] at hp
 rw[jq]
 generalize 2^i=P at*
 have HW:(0:Int)≤(x:Int)/(P:Int):=Int.ediv_nonneg (by omega) (by omega)
 have Nd:(x:Int)/(P:Int)≤x:=Int.ediv_le_self _ (by omega)
 have hP:P≠0:=by omega
 have hw:=f_ HW (by omega)
 rw[Int.natCast_emod,Int.natCast_ediv]
 obtain⟨q,hq⟩:∃q,(x:Int)/(P:Int)=q:=⟨_,rfl⟩
 rw[hq] at HW Nd hw ⊢
 have ht:=Int.tmod_eq_emod_of_nonneg (b:=2) HW
 rcases (show q % 2=0∨q % 2=1 by omega) with h|h
 ·simp[aa,hp,hP,hq,hw,ht,h,show IntKind.u64.wrap 0=0 from rfl]
 ·simp[aa,hp,hP,hq,hw,ht,h,show IntKind.u64.wrap 1=1 from rfl]
theorem cB(N:Nat)(hN:1011≤N)(w x:Nat)(hx:x<18446744073709551616)(hw:w≤64):R N 225 [ai w,.p (.int .u64 x)] []=some (.arr 1 w 0 w,[.arr 0 1 false [],.arr w 1 false ((bl w x).map i64)]):=by
 have aa:rows 225=_:=ZC.eq_1
 obtain⟨n,rfl⟩:=up N
 rw[aE 225 Tryz.func225 rfl rfl]
 simp -implicitDefEqProofs[aa]
 rw[abC w (fun k=>⟨[(0,ai w),(1,.p (.int .u64 x)),(5,.arr 1 k 0 k),(6,ai k)],[.arr 0 1 false [],.arr k 1 false ((bl k x).map i64)]⟩) (by omega) (by simp -implicitDefEqProofs[aa,bl]) (by
    intro k h K
    have w1:=aA h (by omega)
    have hb:=SB n (by omega) x k hx (by omega)
    have b1:(k+1)*8≤1099511627776:=by omega
    have b2:k+1≤1099511627776:=by omega
    rw[kh]
    have hlen:=b8 k x
    generalize bl k x=L at*
    simp -implicitDefEqProofs[aa,h,hb,w1,b1,b2,hlen]) (by simp -implicitDefEqProofs[aa])]
 simp -implicitDefEqProofs[aa]
theorem dO(N:Nat)(hN:1011≤N)(w x:Nat)(hw:w≤64):R N 228 [.p (ints (bl w x))] []=some (.p (.int .u64 ((x % 2^w:Nat):Int)),[]):=by
 have aa:rows 228=_:=ZA.eq_1
 obtain⟨n,rfl⟩:=up N
 rw[aE 228 Tryz.func228 rfl rfl]
 simp[aa]
 rw[abC w (fun k=>⟨[(0,.p (ints (bl w x))),(3,.p (.int .u64 ((x % 2^k:Nat):Int))),(4,ai k)],[]⟩) (by omega) (by simp[aa,Nat.mod_one]) (by
    intro k h K
    have w1:=aA h (by omega)
    have hg:=b9 w x k
    have hlen:=b8 w x
    have hp:=tp n k (by omega) (by omega)
    have D5:2^k≤2^63:=Nat.pow_le_pow_right (by decide) (by omega)
    have h0:0<2^k:=Nat.pow_pos (by decide)
    have e:(2:Int)^(k:Int).toNat % 18446744073709551616=((2^k:Nat):Int):=by
     rw[Int.toNat_natCast]
     have:((2^k:Nat):Int)=(2:Int)^k:=by simp
     rw[←this]
     omega
    rw[e] at hp
    rw[jq] at hg
    rw[mod_succ]
    have hm:=Nat.mod_lt x h0
    have h2:=Nat.mod_two_eq_zero_or_one (x/2^k)
    generalize bl w x=L at*
    generalize 2^k=P at*
    generalize x % P=r at*
    generalize x/P % 2=c at*
    rcases h2 with rfl|rfl
    ·have hg:=fun h=>hg h
     simp[aa,h,hg,hlen,w1]
    ·have Rw:=f_ (a:=(r:Int)+P) (by omega) (by omega)
     simp[aa,h,hg,hlen,hp,w1,Rw]) (by simp[aa])]
 simp[aa]
theorem rS(N:Nat)(hN:1011≤N)(w x:Nat)(hx:x<2^w)(hw:w≤100):R N 224 [.p (ints (bl w x))] []=some (.p (ints (bl w (2^w-1-x))),[]):=by
 have aa:rows 224=_:=ZD.eq_1
 obtain⟨n,rfl⟩:=up N
 rw[aE 224 Tryz.func224 rfl rfl]
 simp -implicitDefEqProofs[aa]
 rw[abC w (fun k=>⟨[(0,.p (ints (bl w x))),(3,.arr 1 k 0 k),(4,ai k)],[.arr 0 1 false [],.arr k 1 false ((bl k (2^w-1-x)).map i64)]⟩) (by omega) (by simp -implicitDefEqProofs[aa,bl]) (by
    intro k h K
    have w1:=aA h (by omega)
    have hg:=b9 w x k
    have hlen:=b8 w x
    have b1:(k+1)*8≤1099511627776:=by omega
    have b2:k+1≤1099511627776:=by omega
    rw[kh]
    have iV:=b8 k (2^w-1-x)
    have e:IntKind.i64.wrap (1-bQ x k)=bQ (2^w-1-x) k:=by
     have:(2^w-1-x).testBit k= !x.testBit k:=by
      rw[Nat.sub_right_comm,Nat.sub_sub,Nat.testBit_two_pow_sub_succ hx]
      simp[h]
     unfold bQ
     rw[this]
     cases x.testBit k<;>simp<;>rfl
    generalize bQ (2^w-1-x) k=b' at*
    generalize bl k (2^w-1-x)=L2 at*
    generalize bQ x k=b at*
    generalize bl w x=L at*
    simp -implicitDefEqProofs[aa,h,hg,hlen,w1,b1,b2,iV,e]) (by simp -implicitDefEqProofs[aa])]
 simp -implicitDefEqProofs[aa]
 rw[List.take_of_length_le (by simp)]
theorem QO(a b c k:Nat)(hc:c≤1):
  bQ (a+b+c) k=(((a/2^k % 2+b/2^k % 2+(a % 2^k+b % 2^k+c)/2^k) % 2:Nat):Int)∧
  (a % 2^(k+1)+b % 2^(k+1)+c)/2^(k+1)=(a/2^k % 2+b/2^k % 2+(a % 2^k+b % 2^k+c)/2^k)/2∧
  (a % 2^k+b % 2^k+c)/2^k≤1:=by
 have h0:0<2^k:=Nat.pow_pos (by decide)
 have ha:=Nat.mod_lt a h0
 have hb:=Nat.mod_lt b h0
 have ea:=Nat.div_add_mod a (2^k)
 have eb:=Nat.div_add_mod b (2^k)
 rw[mod_succ,mod_succ,jq,Nat.pow_succ]
 generalize 2^k=P at*
 refine⟨?_, ?_, ?_⟩
 ·have e:a+b+c=(a % P+b % P+c)+P*(a/P+b/P):=by rw[Nat.mul_add];omega
  rw[e,Nat.add_mul_div_left _ _ h0]
  congr 1
  generalize (a % P+b % P+c)/P=r
  generalize a/P=u
  generalize b/P=v
  omega
 ·have e:a % P+P*(a/P % 2)+(b % P+P*(b/P % 2))+c=(a % P+b % P+c)+P*(a/P % 2+b/P % 2):=by rw[Nat.mul_add];omega
  rw[e,←Nat.div_div_eq_div_mul,Nat.add_mul_div_left _ _ h0]
  congr 1
  omega
 ·have:a % P+b % P+c<2*P:=by omega
  have:=Nat.div_lt_of_lt_mul (k:=2) (n:=P) (m:=a % P+b % P+c) (by rw[Nat.mul_comm];exact this)
  omega
theorem rT(N:Nat)(hN:1011≤N)(w a b c:Nat)(hc:c≤1)(hw:w≤100):R N 226 [.p (ints (bl w a)),.p (ints (bl w b)),ai c] []=some (.arr 1 w 0 w,[.arr 0 1 false [],.arr w 1 false ((bl w (a+b+c)).map i64)]):=by
 have aa:rows 226=_:=ZB.eq_1
 obtain⟨n,rfl⟩:=up N
 rw[aE 226 Tryz.func226 rfl rfl]
 simp -implicitDefEqProofs[aa]
 rw[abC w (fun k=>⟨[(0,.p (ints (bl w a))),(1,.p (ints (bl w b))),(2,ai ((a % 2^k+b % 2^k+c)/2^k:Nat)),(7,.arr 1 k 0 k),(8,ai k)],[.arr 0 1 false [],.arr k 1 false ((bl k (a+b+c)).map i64)]⟩) (by omega) (by simp -implicitDefEqProofs[aa,bl,Nat.mod_one]) (by
    intro k h K
    have w1:=aA h (by omega)
    have hga:=b9 w a k
    have apc:=b8 w a
    have hgb:=b9 w b k
    have apb:=b8 w b
    have b1:(k+1)*8≤1099511627776:=by omega
    have b2:k+1≤1099511627776:=by omega
    obtain⟨s1,s2,s3⟩:=QO a b c k hc
    rw[kh,s1,s2]
    rw[jq] at hga hgb
    have p1:=Nat.mod_two_eq_zero_or_one (a/2^k)
    have p2:=Nat.mod_two_eq_zero_or_one (b/2^k)
    have iV:=b8 k (a+b+c)
    generalize bl k (a+b+c)=L2 at*
    generalize bl w a=LA at*
    generalize bl w b=LB at*
    generalize (a % 2^k+b % 2^k+c)/2^k=r at*
    generalize a/2^k % 2=p at*
    generalize b/2^k % 2=q at*
    clear s1 s2
    have i0:IntKind.i64.wrap 0=0:=rfl
    have i1:IntKind.i64.wrap 1=1:=rfl
    have i2:IntKind.i64.wrap 2=2:=rfl
    have i3:IntKind.i64.wrap 3=3:=rfl
    rcases p1 with rfl|rfl<;>rcases p2 with rfl|rfl<;>rcases (show r=0∨r=1 by omega) with rfl|rfl<;>
    simp -implicitDefEqProofs[aa,h,hga,hgb,apc,apb,w1,b1,b2,iV,i0,i1,i2,i3]) (by simp -implicitDefEqProofs[aa])]
 simp -implicitDefEqProofs[aa]
theorem UQ(w:Nat):(bl w 0).map i64=List.replicate w (.int .i64 0):=by
 unfold bl
 rw[List.map_map]
 apply List.ext_getElem
 ·simp
 ·intro i h1 h2
  simp[bQ]
theorem pw(N:Nat)(hN:1≤N)(w:Nat)(hw:w≤100):R N 227 [ai w] []=some (.arr 1 0 0 w,[.arr 0 1 false [],.arr 0 1 false ((bl w 0).map i64)]):=by
 have aa:rows 227=_:=aw0.eq_1
 obtain⟨n,rfl⟩:=up N
 rw[aE 227 Tryz.func227 rfl rfl]
 rw[UQ]
 have h1:(w:Int)≤1099511627776:=by omega
 have h2:8*(w:Int)≤1099511627776:=by omega
 simp[aa,h1,h2]
theorem Xp(m x:Nat):bl (m+1) (2*x)=0::bl m x:=by
 unfold bl
 rw[List.range_succ_eq_map,List.map_cons,List.map_map]
 congr 1
 ·simp[bQ]
 ·apply List.map_congr_left
  intro i _
  simp only[Function.comp,bQ,Nat.testBit_succ]
  rw[Nat.mul_div_cancel_left _ (by decide)]
theorem JW(m k x:Nat)(h:k≤m):(bl m x).take k=bl k x:=by
 unfold bl
 rw[←List.map_take,List.take_range,Nat.min_eq_left h]
theorem NB(N:Nat)(hN:1≤N)(w x:Nat)(hw:w≤100)(h0:1≤w):R N 252 [.p (ints (bl w x))] []=some (.arr 1 (w-1) 0 w,[.arr 0 1 false [],.arr (w-1) 1 false ((bl w (2*x)).map i64)]):=by
 have aa:rows 252=_:=awV.eq_1
 obtain⟨n,rfl⟩:=up N
 rw[aE 252 Tryz.func252 rfl rfl]
 obtain⟨m,rfl⟩:∃m,w=m+1:=⟨w-1,by omega⟩
 have e1:IntKind.i64.wrap (((m+1:Nat):Int)-1)=m:=by rw[wrap64 (by omega) (by omega)];omega
 have e2:(bl (m+1) x).take m=bl m x:=JW _ _ _ (by omega)
 have e3:=b8 (m+1) x
 have e4:=b8 m x
 rw[Xp]
 generalize bl (m+1) x=L at*
 generalize bl m x=L' at*
 have b1:(m+1)*8≤1099511627776:=by omega
 have b2:m≤1099511627775:=by omega
 simp at e1
 have e5:(m:Int)≤(m:Int)+1:=by omega
 have b3:1+m=m+1:=by omega
 by_cases hm:m=0
 ·subst hm
  obtain rfl:L'=[]:=List.eq_nil_of_length_eq_zero e4
  simp at e2 e1
  simp[aa,e1,e3,←List.map_take,e2,e4,e5,b1,b2,b3]
 ·simp[aa,e1,e3,←List.map_take,e2,e4,e5,b1,b2,b3,hm]
theorem wJ(N:Nat)(hN:1≤N)(b:Bool):R N 234 [ab b] []=some (.p (.int .u64 (if b then 1 else 0)),[]):=by
 have aa:rows 234={}:=rfl
 obtain⟨n,rfl⟩:=up N
 rw[aE 234 Tryz.func234 rfl rfl]
 cases b<;>simp[aa]
def dy(x:Nat):Nat:=if x≤64 then x else 64
theorem qx(N:Nat)(hN:200≤N)(x:Nat)(hx:x<18446744073709551616):R N 232 [.p (.int .u64 x)] []=some (ai (dy x),[]):=by
 have aa:rows 232=_:=Zx.eq_1
 obtain⟨n,rfl⟩:=up N
 rw[aE 232 Tryz.func232 rfl rfl]
 simp[aa]
 have hp:dy x≤64∧dy x≤x:=by unfold dy;split<;>omega
 have hp2:dy x=64∨dy x=x:=by unfold dy;split<;>omega
 rw[abC (dy x) (fun k=>⟨[(0,.p (.int .u64 x)),(3,ai k)],[]⟩) (by omega) (by simp[aa]) (by
    intro k h K
    have w1:=aA h (by omega)
    have c1:(k:Int)<64:=by omega
    have c2:k<x:=by omega
    have c3:k<64:=by omega
    have wu:=f_ (a:=(k:Int)) (by omega) (by omega)
    simp[aa,c1,c2,c3,w1,wu]) (by
    intro K
    have wu:=f_ (a:=(dy x:Int)) (by omega) (by omega)
    rcases hp2 with e|e
    ·rw[e];simp[aa]
    ·have c2:¬(dy x<x):=by omega
     by_cases c1:(dy x:Int)<64
     ·have c3:dy x<64:=by omega
      simp[aa,c1,c2,c3,wu]
     ·have c3:¬dy x<64:=by omega
      simp[aa,c1,c2,c3,wu])]
 simp[aa]
theorem Li{a b i:Nat}(h:a/2^(i+1)=b/2^(i+1)):(bQ a i=bQ b i→a/2^i=b/2^i)∧(bQ a i≠bQ b i→decide (bQ a i<bQ b i)=decide (a<b)):=by
 rw[jq,jq]
 rw[Nat.pow_succ,←Nat.div_div_eq_div_mul,←Nat.div_div_eq_div_mul] at h
 have h0:0<2^i:=Nat.pow_pos (by decide)
 have ea:=Nat.div_add_mod a (2^i)
 have eb:=Nat.div_add_mod b (2^i)
 have ha:=Nat.mod_lt a h0
 have hb:=Nat.mod_lt b h0
 generalize 2^i=P at*
 refine⟨fun e=>by omega,fun e=> ?_⟩
 rw[decide_eq_decide]
 by_cases hl:a/P<b/P
 ·have h1:a<b:=Nat.lt_of_not_le fun hle=>absurd (Nat.div_le_div_right (c:=P) hle) (by omega)
  constructor
  ·intro _;exact h1
  ·intro _;omega
 ·have Ly:b/P<a/P:=by omega
  have h1:b<a:=Nat.lt_of_not_le fun hle=>absurd (Nat.div_le_div_right (c:=P) hle) (by omega)
  constructor
  ·intro _;omega
  ·intro _;omega
theorem B6(N:Nat)(hN:1011≤N)(w a b:Nat)(hw:w≤100)(ha:a<2^w)(hb:b<2^w):R N 235 [.p (ints (bl w a)),.p (ints (bl w b))] []=some (ab (decide (a<b)),[]):=by
 have aa:rows 235=_:=Zv.eq_1
 obtain⟨n,rfl⟩:=up N
 rw[aE 235 Tryz.func235 rfl rfl]
 simp[aa]
 have WN:=b8 w a
 have WM:=b8 w b
 have hgA:=b9 w a
 have hgB:=b9 w b
 have hd:∀x,x<2^w→x/2^w=0:=fun x h=>Nat.div_eq_of_lt h
 generalize bl w a=A at*
 generalize bl w b=B at*
 refine mE w (fun k s=>s=⟨[(0,.p (ints A)),(1,.p (ints B)),(4,ab false),(5,ai ((w:Int)-1-k))],[]⟩∧a/2^(w-k)=b/2^(w-k))
  (fun r=>Qm _ 0 [ResultVar.tmp 4] (Ov _ (pa 0 r) _)=some (ab (decide (a<b)),[])) ?_ ?_ (by omega) ⟨by
    have e:IntKind.i64.wrap ((w:Int)-1)=(w:Int)-1:=wrap64 (by omega) (by omega)
    simp[aa,e],by rw[Nat.sub_zero,hd a ha,hd b hb]⟩
 ·rintro k _ K hk ⟨rfl,hi⟩ hK
  obtain⟨i,Sc,PW⟩:∃i:Nat,((w:Int)-1-k)=i∧w-k=i+1:=⟨w-1-k,by omega,by omega⟩
  have LD:i<w:=by omega
  rw[PW] at hi
  obtain⟨l1,l2⟩:=Li hi
  have e:IntKind.i64.wrap ((i:Int)-1)=(i:Int)-1:=wrap64 (by omega) (by omega)
  have gA:=fun h=>hgA i h
  have gB:=fun h=>hgB i h
  rw[Sc]
  by_cases hc:bQ a i=bQ b i
  ·have hK:=hK _ ⟨rfl,by rw[show w-(k+1)=i by omega];exact l1 hc⟩
   rw[show((w:Int)-1-(k+1:Nat))=(i:Int)-1 by omega] at hK
   simp[aa,WN,WM,LD,gA,gB,hc,e]
   exact hK
  ·have l2:=l2 hc
   simp[aa,WN,WM,LD,gA,gB,hc,l2]
 ·rintro _ K ⟨rfl,hi⟩
  have eV:a=b:=by
   rw[Nat.sub_self] at hi
   simpa using hi
  have e:((w:Int)-1-w)=-1:=by omega
  rw[e]
  simp[aa,eV]
theorem wV(N:Nat)(hN:1011≤N)(w x y:Nat)(n':Int)(f:Int)(hw:w≤100)(hn: -64≤n'∧n'≤64)
  (hy:∀i:Nat,i<w→bQ y i=if (i:Int)+n'<0 then 0 else if (w:Int)≤(i:Int)+n' then f else bQ x ((i:Int)+n').toNat):R N 231 [.p (ints (bl w x)),ai n',ai f] []=some (.p (ints (bl w y)),[]):=by
 have aa:rows 231=_:=Zy.eq_1
 obtain⟨n,rfl⟩:=up N
 rw[aE 231 Tryz.func231 rfl rfl]
 simp -implicitDefEqProofs[aa]
 rw[abC w (fun k=>⟨[(0,.p (ints (bl w x))),(1,ai n'),(2,ai f),(7,.arr 1 k 0 k),(8,ai k)],[.arr 0 1 false [],.arr k 1 false ((bl k y).map i64)]⟩) (by omega) (by simp -implicitDefEqProofs[aa,bl]) (by
    intro k h K
    have w1:=aA h (by omega)
    have w2:IntKind.i64.wrap ((k:Int)+n')=k+n':=wrap64 (by omega) (by omega)
    have hlen:=b8 w x
    have hg:=b9 w x
    have b1:(k+1)*8≤1099511627776:=by omega
    have b2:k+1≤1099511627776:=by omega
    rw[kh,hy k h]
    have iV:=b8 k y
    generalize bl k y=L2 at*
    generalize bl w x=L at*
    by_cases c1:(k:Int)+n'<0
    ·simp -implicitDefEqProofs[aa,h,hlen,iV,w1,w2,b1,b2,c1]
    ·by_cases c2:(w:Int)≤(k:Int)+n'
     ·simp -implicitDefEqProofs[aa,h,hlen,iV,w1,w2,b1,b2,c1,c2]
     ·obtain⟨j,hj⟩:∃j:Nat,(k:Int)+n'=j:=⟨((k:Int)+n').toNat,by omega⟩
      rw[hj] at c1 c2 w2
      have c3:j<w:=by omega
      have c4:¬w≤j:=by omega
      have gj:=fun h=>hg j h
      simp -implicitDefEqProofs[aa,h,hlen,iV,w1,w2,b1,b2,c1,c2,c3,c4,hj,gj]) (by simp -implicitDefEqProofs[aa])]
 simp -implicitDefEqProofs[aa]
 rw[List.take_of_length_le (by simp)]
theorem abR(N:Nat)(hN:1012≤N)(w a b:Nat)(hw:w≤64)(h1:1≤w)(hb:b<2^w):R N 230 [.p (ints (bl w a)),.p (ints (bl w b))] []=some (.p (ints (bl w (a*b))),[]):=by
 have aa:rows 230=_:=Zz.eq_1
 obtain⟨n,rfl⟩:=up N
 rw[aE 230 Tryz.func230 rfl rfl]
 have hz:=pw n (by omega) w (by omega)
 have zG:∀a b,R n 226 [.p (.sl ((bl w a).map i64)),.p (.sl ((bl w b).map i64)),.p (.int .i64 0)] []=some (.arr 1 w 0 w,[.arr 0 1 false [],.arr w 1 false ((bl w (a+b)).map i64)]):=fun a b=>rT n (by omega) w a b 0 (by omega) (by omega)
 have T_:∀a,R n 252 [.p (.sl ((bl w a).map i64))] []=some (.arr 1 (w-1) 0 w,[.arr 0 1 false [],.arr (w-1) 1 false ((bl w (2*a)).map i64)]):=fun a=>NB n (by omega) w a (by omega) h1
 have EF:∀x,List.take w ((bl w x).map i64)=(bl w x).map i64:=fun x=>List.take_of_length_le (by simp)
 simp[aa,hz]
 have cm:∀k,k<w→(bQ b k=0∧b % 2^(k+1)=b % 2^k)∨(bQ b k=1∧b % 2^(k+1)≠0∧b % 2^(k+1)=b % 2^k+2^k):=by
  intro k _
  have h0:0<2^k:=Nat.pow_pos (by decide)
  rw[mod_succ,jq]
  rcases Nat.mod_two_eq_zero_or_one (b/2^k) with h|h<;>rw[h]
  ·left;simp
  ·right;refine⟨rfl, ?_, ?_⟩<;>omega
 rw[av w (fun k=>if b % 2^k=0 then⟨[(0,.p (ints (bl w (2^k*a)))),(1,.p (ints (bl w b))),(5,.arr 2 0 0 w),(6,ai k)],[.arr 0 1 false [],.arr 0 1 false [],.arr 0 1 false ((bl w 0).map i64)]⟩
    else⟨[(0,.p (ints (bl w (2^k*a)))),(1,.p (ints (bl w b))),(5,.p (ints (bl w (a*(b % 2^k))))),(6,ai k)],[.arr 0 1 false [],.arr 0 1 false [],.arr 0 1 true ((bl w 0).map i64)]⟩)
  (.exit 0,if b % 2^w=0 then⟨[(0,.p (ints (bl w (2^w*a)))),(1,.p (ints (bl w b))),(5,.arr 2 0 0 w),(6,ai w)],[.arr 0 1 false [],.arr 0 1 false [],.arr 0 1 false ((bl w 0).map i64)]⟩
    else⟨[(0,.p (ints (bl w (2^w*a)))),(1,.p (ints (bl w b))),(5,.p (ints (bl w (a*(b % 2^w))))),(6,ai w)],[.arr 0 1 false [],.arr 0 1 false [],.arr 0 1 true ((bl w 0).map i64)]⟩) (by omega) (by simp[aa,Nat.mod_one]) (by
    intro k h K
    have w1:=aA h (by omega)
    have hg:=b9 w b k
    have hlen:=b8 w b
    have e2:2^(k+1)*a=2*(2^k*a):=by rw[Nat.pow_succ];simp only[Nat.mul_comm,Nat.mul_left_comm]
    rw[e2]
    rcases cm k h with⟨q1,q2⟩|⟨q1,q2,q3⟩
    ·rw[q2]
     by_cases c0:b % 2^k=0
     ·simp only[c0,if_true]
      simp[aa,h,hg,hlen,q1,T_,EF,w1,ints]
     ·simp only[c0,if_false]
      simp[aa,h,hg,hlen,q1,T_,EF,w1,ints]
    ·simp only[q2,if_false]
     by_cases c0:b % 2^k=0
     ·have e3:a*(b % 2^(k+1))=2^k*a:=by rw[q3,c0,Nat.zero_add,Nat.mul_comm]
      rw[e3]
      simp only[c0,if_true]
      simp[aa,h,hg,hlen,q1,T_,zG,EF,w1,ints]
     ·have e3:a*(b % 2^(k+1))=a*(b % 2^k)+2^k*a:=by rw[q3,Nat.mul_add,Nat.mul_comm (2^k) a]
      rw[e3]
      simp only[c0,if_false]
      simp[aa,h,hg,hlen,q1,T_,zG,EF,w1,ints]) (by
     intro K
     by_cases c0:b % 2^w=0
     ·simp only[c0,if_true];simp[aa]
     ·simp only[c0,if_false];simp[aa])]
 rw[Nat.mod_eq_of_lt hb]
 by_cases c0:b=0
 ·simp only[c0,if_true,Nat.mul_zero]
  simp[aa,EF,ints]
 ·simp only[c0,if_false]
  simp[aa]
theorem ad3(m x c:Nat)(hc:c<2):bl (m+1) (2*x+c)=(c:Int)::bl m x:=by
 unfold bl
 rw[List.range_succ_eq_map,List.map_cons,List.map_map]
 congr 1
 ·rw[jq];simp;omega
 ·apply List.map_congr_left
  intro i _
  simp only[Function.comp,bQ,Nat.testBit_succ]
  rw[show(2*x+c)/2=x by omega]
theorem US(m x c:Nat)(hc:c<2):((bl (m+1) (2*x)).map i64).set 0 (.int .i64 c)=(bl (m+1) (2*x+c)).map i64:=by
 rw[Xp,ad3 _ _ _ hc];rfl
theorem UR(w A i:Nat)(hi:i<w):((bl w (A*2^(i+1))).map i64).set i (.int .i64 1)=(bl w ((2*A+1)*2^i)).map i64:=by
 apply List.ext_getElem
 ·simp
 ·intro j h1 h2
  simp at h1 h2
  rw[List.getElem_set]
  simp only[List.getElem_map,b9]
  by_cases hj:i=j
  ·subst hj
   rw[if_pos rfl]
   have:((2*A+1)*2^i).testBit i=true:=by rw[Nat.testBit_mul_two_pow];simp
   simp[bQ,this]
  ·rw[if_neg hj]
   have:((2*A+1)*2^i).testBit j=(A*2^(i+1)).testBit j:=by
    rw[Nat.testBit_mul_two_pow,Nat.testBit_mul_two_pow]
    by_cases hl:j<i
    ·have a1:¬(i≤j):=by omega
     have a2:¬(i+1≤j):=by omega
     simp[a1,a2]
    ·obtain⟨m,rfl⟩:∃m,j=i+1+m:=⟨j-i-1,by omega⟩
     have a1:i≤i+1+m:=by omega
     have a2:i+1+m-i=m+1:=by omega
     have a3:i+1+m-(i+1)=m:=by omega
     have a4:i+1≤i+1+m:=by omega
     rw[a2,a3,decide_eq_true a1,decide_eq_true a4,Nat.testBit_succ,show(2*A+1)/2=A by omega]
   unfold bQ
   rw[this]
theorem ad4(w D b:Nat)(h:b≤D)(hb:b<2^w):bl w (D+(2^w-1-b)+1)=bl w (D-b):=by
 rw[←QG w (D+(2^w-1-b)+1),←QG w (D-b),show D+(2^w-1-b)+1=(D-b)+2^w by omega,Nat.add_mod_right]
theorem Qp(a b i:Nat)(hb:0<b):(2*(a/2^(i+1) % b)+a/2^i % 2<b→a/2^i/b=2*(a/2^(i+1)/b)∧a/2^i % b=2*(a/2^(i+1) % b)+a/2^i % 2)∧
  (¬2*(a/2^(i+1) % b)+a/2^i % 2<b→a/2^i/b=2*(a/2^(i+1)/b)+1∧a/2^i % b=2*(a/2^(i+1) % b)+a/2^i % 2-b):=by
 rw[Nat.pow_succ,←Nat.div_div_eq_div_mul]
 generalize a/2^i=X
 have hc:X % 2<2:=Nat.mod_lt _ (by decide)
 have hr:=Nat.mod_lt (X/2) hb
 have e:X=(2*(X/2 % b)+X % 2)+b*(2*(X/2/b)):=by
  have h1:=Nat.div_add_mod X 2
  have h2:=Nat.div_add_mod (X/2) b
  have h3:b*(2*(X/2/b))=2*(b*(X/2/b)):=Nat.mul_left_comm _ _ _
  omega
 refine⟨fun h=> ?_,fun h=> ?_⟩
 ·have d1:X/b=2*(X/2/b):=by
   conv=>lhs;rw[e]
   rw[Nat.add_mul_div_left _ _ hb,Nat.div_eq_of_lt h,Nat.zero_add]
  have d2:X % b=2*(X/2 % b)+X % 2:=by
   conv=>lhs;rw[e]
   rw[Nat.add_mul_mod_self_left,Nat.mod_eq_of_lt h]
  exact⟨d1,d2⟩
 ·have e':X=(2*(X/2 % b)+X % 2-b)+b*(2*(X/2/b)+1):=by
   rw[Nat.mul_add];omega
  have bW:2*(X/2 % b)+X % 2-b<b:=by omega
  have d1:X/b=2*(X/2/b)+1:=by
   conv=>lhs;rw[e']
   rw[Nat.add_mul_div_left _ _ hb,Nat.div_eq_of_lt bW,Nat.zero_add]
  have d2:X % b=2*(X/2 % b)+X % 2-b:=by
   conv=>lhs;rw[e']
   rw[Nat.add_mul_mod_self_left,Nat.mod_eq_of_lt bW]
  exact⟨d1,d2⟩
theorem AW(N:Nat)(hN:1013≤N)(w a b:Nat)(hw:w≤64)(h1:1≤w)(ha:a<2^w)(hb:b<2^w):R N 233 [.p (ints (bl w a)),.p (ints (bl w b))] []=some (.tup [.p (ints (bl w (if b=0 then 2^w-1 else a/b))),.p (ints (bl w (if b=0 then a else a % b)))],[]):=by
 have aa:rows 233=_:=Zw.eq_1
 obtain⟨n,rfl⟩:=up N
 rw[aE 233 Tryz.func233 rfl rfl]
 have hz:=pw n (by omega) w (by omega)
 have Rs:R n 227 [ai ((w:Int)+1)] []=some (.arr 1 0 0 (w+1),[.arr 0 1 false [],.arr 0 1 false ((bl (w+1) 0).map i64)]):=pw n (by omega) (w+1) (by omega)
 have eM:=dO n (by omega) w b (by omega)
 rw[Nat.mod_eq_of_lt hb] at eM
 have EF:∀w x,List.take w ((bl w x).map i64)=(bl w x).map i64:=fun w x=>List.take_of_length_le (by simp)
 have WE:IntKind.i64.wrap ((w:Int)+1)=(w:Int)+1:=wrap64 (by omega) (by omega)
 by_cases jC:b=0
 ·subst jC
  have Uj:R n 224 [.p (.sl ((bl w 0).map i64))] []=some (.p (ints (bl w (2^w-1))),[]):=by
   have:=rS n (by omega) w 0 (Nat.pow_pos (by decide)) (by omega)
   exact this
  simp[aa,eM,hz,Uj,EF]
 ·have c1:(w+1)*8≤1099511627776:=by omega
  have c2:w+1≤1099511627776:=by omega
  have hlb:((bl w b).map i64).length=w:=by simp
  have c3:w*8≤1099511627776:=by omega
  have c4:w≤1099511627776:=by omega
  have c5:w≤1099511627775:=by omega
  have ur:w≠0:=by omega
  have hwm:IntKind.i64.wrap ((w:Int)-1)=(w:Int)-1:=wrap64 (by omega) (by omega)
  simp[aa,eM,jC,hz,Rs,EF,WE,c1,c2,c3,c4,c5,ur,hwm]
  have aoQ:(bl w b).map i64++[.int .i64 0]=(bl (w+1) b).map i64:=by
   have:b.testBit w=false:=Nat.testBit_lt_two_pow hb
   rw[kh];simp[bQ,this]
  rw[aoQ]
  have T_:∀x,R n 252 [.p (.sl ((bl (w+1) x).map i64))] []=some (.arr 1 w 0 (w+1),[.arr 0 1 false [],.arr w 1 false ((bl (w+1) (2*x)).map i64)]):=fun x=>NB n (by omega) (w+1) x (by omega) (by omega)
  rw[av w (fun k=>⟨[(0,.p (ints (bl w a))),(6,.arr 3 0 0 w),(7,if k=0 then .arr 5 0 0 (w+1) else .p (ints (bl (w+1) (a/2^(w-k) % b)))),(8,.arr 6 (w+1) 0 (w+1)),(9,ai ((w:Int)-1-k))],
   [.arr 0 1 false [],.arr 0 1 false [],.arr 0 1 false [],.arr 0 1 false ((bl w (a/2^(w-k)/b*2^(w-k))).map i64),.arr 0 1 false [],.arr 0 1 (!decide (k=0)) ((bl (w+1) 0).map i64),.arr (w+1) 1 (!decide (a/2^(w-k)/b=0)) ((bl (w+1) b).map i64)]⟩)
   (.exit 0,⟨[(0,.p (ints (bl w a))),(6,.arr 3 0 0 w),(7,.p (ints (bl (w+1) (a % b)))),(8,.arr 6 (w+1) 0 (w+1)),(9,ai (-1))],
   [.arr 0 1 false [],.arr 0 1 false [],.arr 0 1 false [],.arr 0 1 false ((bl w (a/b)).map i64),.arr 0 1 false [],.arr 0 1 true ((bl (w+1) 0).map i64),.arr (w+1) 1 (!decide (a/b=0)) ((bl (w+1) b).map i64)]⟩) (by omega) (by simp[aa,Nat.div_eq_of_lt ha]) (by
   intro k h K
   obtain⟨i,Sc,PW⟩:∃i:Nat,((w:Int)-1-k)=i∧w-k=i+1:=⟨w-1-k,by omega,by omega⟩
   have LD:i<w:=by omega
   have hi4:w-(k+1)=i:=by omega
   have hi5:((w:Int)-1-(k+1:Nat))=(i:Int)-1:=by omega
   have e:IntKind.i64.wrap ((i:Int)-1)=(i:Int)-1:=wrap64 (by omega) (by omega)
   rw[Sc,PW,hi4,hi5]
   have gA:=b9 w a i
   have RT:=b8 w a
   have EW:0<b:=by omega
   have hc:=Nat.mod_lt (a/2^i) (show 0<2 by decide)
   have hr:=Nat.mod_lt (a/2^(i+1)) EW
   have Mt:2^(w+1)=2*2^w:=by rw[Nat.pow_succ,Nat.mul_comm]
   have Jx:=US w (a/2^(i+1) % b) (a/2^i % 2) hc
   have AE:=UR w (a/2^(i+1)/b) i LD
   have vl:R n 235 [.p (.sl ((bl (w+1) (2*(a/2^(i+1) % b)+a/2^i % 2)).map i64)),.p (.sl ((bl (w+1) b).map i64))] []=some (ab (decide (2*(a/2^(i+1) % b)+a/2^i % 2<b)),[]):=
    B6 n (by omega) (w+1) _ b (by omega) (by omega) (by omega)
   have Uj:R n 224 [.p (.sl ((bl (w+1) b).map i64))] []=some (.p (.sl ((bl (w+1) (2^(w+1)-1-b)).map i64)),[]):=rS n (by omega) (w+1) b (by omega) (by omega)
   have zG:b≤2*(a/2^(i+1) % b)+a/2^i % 2→R n 226 [.p (.sl ((bl (w+1) (2*(a/2^(i+1) % b)+a/2^i % 2)).map i64)),.p (.sl ((bl (w+1) (2^(w+1)-1-b)).map i64)),.p (.int .i64 1)] []=
     some (.arr 1 (w+1) 0 (w+1),[.arr 0 1 false [],.arr (w+1) 1 false ((bl (w+1) (2*(a/2^(i+1) % b)+a/2^i % 2-b)).map i64)]):=by
    intro hle
    have:=rT n (by omega) (w+1) (2*(a/2^(i+1) % b)+a/2^i % 2) (2^(w+1)-1-b) 1 (by omega) (by omega)
    rw[ad4 (w+1) _ b hle (by omega)] at this
    exact this
   have hds:=Qp a b i EW
   have Mx:k=0→a/2^(i+1) % b=0:=by
    intro h
    rw[show i+1=w by omega,Nat.div_eq_of_lt ha];simp
   rw[jq] at gA
   generalize bl w a=LA at*
   generalize a/2^i % 2=c at*
   generalize a/2^(i+1) % b=r at*
   generalize a/2^(i+1)/b=q at*
   generalize a/2^i % b=r' at*
   generalize a/2^i/b=q' at*
   generalize 2^(w+1)-1-b=nb at*
   by_cases bW:2*r+c<b
   ·obtain⟨d1,d2⟩:=hds.1 bW
    subst d1;subst d2
    rw[decide_eq_true bW] at vl
    rw[show 2*q*2^i=q*2^(i+1) by rw[Nat.pow_succ,Nat.mul_comm 2 q,Nat.mul_assoc,Nat.mul_comm 2]]
    have hq:decide (2*q=0)=decide (q=0):=by rw[decide_eq_decide];omega
    rw[hq]
    by_cases k0:k=0
    ·have AF:=Mx k0
     clear Mx
     subst k0;subst AF
     simp at Jx vl
     simp[aa,LD,T_,EF,gA,RT,Jx,vl,e,ints]
    ·simp[aa,LD,T_,EF,gA,RT,Jx,vl,e,k0,ints]
   ·obtain⟨d1,d2⟩:=hds.2 bW
    subst d1;subst d2
    rw[decide_eq_false bW] at vl
    have hq:decide (2*q+1=0)=false:=decide_eq_false (by omega)
    rw[hq]
    have zG:=zG (by omega)
    by_cases k0:k=0
    ·have AF:=Mx k0
     clear Mx
     subst k0;subst AF
     simp at Jx vl zG
     simp[aa,LD,T_,EF,gA,RT,Jx,AE,vl,Uj,zG,e,ints]
    ·simp[aa,LD,T_,EF,gA,RT,Jx,AE,vl,Uj,zG,e,k0,ints]) (by
    intro K
    have e:((w:Int)-1-w)=-1:=by omega
    simp[aa,ur,e])]
  have c6:(w:Int)≤(w:Int)+1:=by omega
  have ayd:List.take w ((bl (w+1) (a % b)).map i64)=(bl w (a % b)).map i64:=by
   rw[←List.map_take,JW _ _ _ (by omega)]
  simp[aa,EF,ayd,c6,ints]
theorem dB{w:Nat}(hw:w≤64):2^w≤18446744073709551616:=Nat.le_trans (Nat.pow_le_pow_right (by decide) hw) (by decide)
theorem kC(N:Nat)(hN:5≤N)(w:Nat)(h1:1≤w)(hw:w≤64):R N 192 [ai w] []=some (ab true,[]):=by
 have:=w_ N (by omega) w
 have e1:(1:Int)≤w:=by omega
 have e2:(w:Int)≤64:=by omega
 rw[this];simp[e1,e2,h1,hw]
theorem rN(N:Nat)(hN:2000≤N)(w x:Nat)(h1:1≤w)(hw:w≤64)(hx:x<2^w):R N 193 [ai w,.p (.int .u64 x)] []=some (ab true,[]):=by
 have:=OR N hN w x
 have e1:(1:Int)≤w:=by omega
 have e2:(w:Int)≤64:=by omega
 rw[this]
 have:cE (decide ((w:Int)=64)) (decide ((x:Int)<2^(w:Int).toNat % 18446744073709551616))=true:=by
  simp only[aK,Bool.or_eq_true,decide_eq_true_eq]
  by_cases h:w=64
  ·left;omega
  ·right
   have hp:2^w≤2^63:=Nat.pow_le_pow_right (by decide) (by omega)
   have e:((2^w:Nat):Int)=(2:Int)^w:=by simp
   rw[Int.toNat_natCast,←e]
   omega
 rw[this];simp[e1,e2,h1,hw]
theorem eF(w x:Nat):List.take w ((bl w x).map i64)=(bl w x).map i64:=List.take_of_length_le (by simp)
def zu(k w a:Nat):Nat:=if k=3 then 2^w-1-a else(2^w-a) % 2^w
theorem Tz(N:Nat)(hN:2001≤N)(w a:Nat)(h1:1≤w)(hw:w≤64)(ha:a<2^w):R N 197 [.p (.int .u8 3),ai w,.p (.int .u64 a)] []=some (.tup [.p (.int .u64 (zu 3 w a)),ai 0],[]):=by
 have aa:rows 197={}:=rfl
 obtain⟨n,rfl⟩:=up N
 rw[aE 197 Tryz.func197 rfl rfl]
 have g1:=kC n (by omega) w h1 hw
 have g2:=rN n (by omega) w a h1 hw ha
 have g3:=cB n (by omega) w a (by have:=dB hw;omega) hw
 have g4:R n 224 [.p (.sl ((bl w a).map i64))] []=some (.p (.sl ((bl w (2^w-1-a)).map i64)),[]):=rS n (by omega) w a ha (by omega)
 have g5:R n 228 [.p (.sl ((bl w (2^w-1-a)).map i64))] []=some (.p (.int .u64 ((2^w-1-a:Nat):Int)),[]):=by
  have:=dO n (by omega) w (2^w-1-a) hw
  rw[Nat.mod_eq_of_lt (show 2^w-1-a<2^w by omega)] at this
  exact this
 have e:zu 3 w a=2^w-1-a:=rfl
 rw[e]
 generalize 2^w-1-a=na at*
 simp[aa,g1,g2,g3,eF,g4,g5]
theorem Ty(N:Nat)(hN:2001≤N)(w a:Nat)(h1:1≤w)(hw:w≤64)(ha:a<2^w):R N 197 [.p (.int .u8 4),ai w,.p (.int .u64 a)] []=some (.tup [.p (.int .u64 (zu 4 w a)),ai 0],[]):=by
 have aa:rows 197={}:=rfl
 obtain⟨n,rfl⟩:=up N
 rw[aE 197 Tryz.func197 rfl rfl]
 have g1:=kC n (by omega) w h1 hw
 have g2:=rN n (by omega) w a h1 hw ha
 have g3:=cB n (by omega) w a (by have:=dB hw;omega) hw
 have g4:R n 224 [.p (.sl ((bl w a).map i64))] []=some (.p (.sl ((bl w (2^w-1-a)).map i64)),[]):=rS n (by omega) w a ha (by omega)
 have g6:=pw n (by omega) w (by omega)
 have g7:R n 226 [.p (.sl ((bl w (2^w-1-a)).map i64)),.p (.sl ((bl w 0).map i64)),.p (.int .i64 1)] []=some (.arr 1 w 0 w,[.arr 0 1 false [],.arr w 1 false ((bl w (2^w-a)).map i64)]):=by
  have:=rT n (by omega) w (2^w-1-a) 0 1 (by omega) (by omega)
  rw[show 2^w-1-a+0+1=2^w-a by omega] at this
  exact this
 have g5:R n 228 [.p (.sl ((bl w (2^w-a)).map i64))] []=some (.p (.int .u64 (((2^w-a) % 2^w:Nat):Int)),[]):=dO n (by omega) w (2^w-a) hw
 have e:zu 4 w a=(2^w-a) % 2^w:=rfl
 rw[e]
 generalize (2^w-a) % 2^w=na2 at*
 generalize 2^w-1-a=na at*
 generalize 2^w-a=na3 at*
 simp[aa,g1,g2,g3,eF,g4,g5,g6,g7]
theorem ad5(l h a b:Nat)(hb:b<2^l):bl l b++bl h a=bl (l+h) (a*2^l+b):=by
 apply List.ext_getElem
 ·simp
 ·intro i h1 h2
  rw[b9,List.getElem_append]
  simp only[b8]
  have e:a*2^l+b=2^l*a+b:=by rw[Nat.mul_comm]
  split
  ·rename_i hl
   rw[b9]
   unfold bQ
   rw[e,Nat.testBit_two_pow_mul_add a hb];simp[hl]
  ·rename_i hl
   rw[b9]
   unfold bQ
   rw[e,Nat.testBit_two_pow_mul_add a hb];simp[hl]
theorem Hu(N:Nat)(hN:2001≤N)(h l a b:Nat)(h1:1≤h)(l1:1≤l)(hw:h+l≤64)(ha:a<2^h)(hb:b<2^l):
  R N 198 [ai h,.p (.int .u64 a),ai l,.p (.int .u64 b)] []=some (.tup [.p (.int .u64 ((a*2^l+b:Nat):Int)),ai 0],[]):=by
 have aa:rows 198={}:=rfl
 obtain⟨n,rfl⟩:=up N
 rw[aE 198 Tryz.func198 rfl rfl]
 have g1:=kC n (by omega) h h1 (by omega)
 have E0:=kC n (by omega) l l1 (by omega)
 have g2:=rN n (by omega) h a h1 (by omega) ha
 have tA:=rN n (by omega) l b l1 (by omega) hb
 have g3:=cB n (by omega) h a (by have:=dB (w:=h) (by omega);omega) (by omega)
 have vp:=cB n (by omega) l b (by have:=dB (w:=l) (by omega);omega) (by omega)
 have bW:a*2^l+b<2^(l+h):=by
  rw[Nat.pow_add,Nat.mul_comm a]
  have:2^l*(a+1)≤2^l*2^h:=Nat.mul_le_mul_left _ ha
  rw[Nat.mul_add] at this
  omega
 have g5:R n 228 [.p (.sl ((bl (l+h) (a*2^l+b)).map i64))] []=some (.p (.int .u64 ((a*2^l+b:Nat):Int)),[]):=by
  have:=dO n (by omega) (l+h) (a*2^l+b) (by omega)
  rw[Nat.mod_eq_of_lt bW] at this
  exact this
 have e1:IntKind.i64.wrap ((h:Int)+l)=(h:Int)+l:=wrap64 (by omega) (by omega)
 have e2:¬(64:Int)<(h:Int)+l:=by omega
 have e3:(bl l b).map i64++(bl h a).map i64=(bl (l+h) (a*2^l+b)).map i64:=by rw[←List.map_append,ad5 l h a b hb]
 generalize a*2^l+b=c at*
 have c1:(l+h)*8≤1099511627776:=by omega
 have c2:l+h≤1099511627776:=by omega
 have c3:h≠0:=by omega
 simp[aa,g1,E0,g2,tA,g3,vp,eF,e1,e2,e3,g5,c1,c2,c3]
theorem QF(w x low many:Nat)(h:low+many≤w):((bl w x).map i64|>.drop low).take many=(bl many (x/2^low)).map i64:=by
 apply List.ext_getElem
 ·simp;omega
 ·intro i h1 h2
  simp at h1 h2
  simp only[List.getElem_take,List.getElem_drop,List.getElem_map,b9]
  unfold bQ
  rw[Nat.testBit_div_two_pow,Nat.add_comm]
theorem DU(N:Nat)(hN:2001≤N)(w x low many:Nat)(h1:1≤w)(hw:w≤64)(hx:x<2^w)(hm:1≤many)(hl:low+many≤w):
  R N 199 [ai w,.p (.int .u64 x),ai low,ai many] []=some (.tup [.p (.int .u64 ((x/2^low % 2^many:Nat):Int)),ai 0],[]):=by
 have aa:rows 199={}:=rfl
 obtain⟨n,rfl⟩:=up N
 rw[aE 199 Tryz.func199 rfl rfl]
 have g1:=kC n (by omega) w h1 hw
 have g2:=rN n (by omega) w x h1 hw hx
 have g3:=cB n (by omega) w x (by have:=dB hw;omega) hw
 have g5:R n 228 [.p (.sl ((bl many (x/2^low)).map i64))] []=some (.p (.int .u64 ((x/2^low % 2^many:Nat):Int)),[]):=dO n (by omega) many (x/2^low) (by omega)
 have e3:=QF w x low many hl
 have e1:IntKind.i64.wrap ((low:Int)+many)=(low:Int)+many:=wrap64 (by omega) (by omega)
 have c1:¬((low:Int)<0):=by omega
 have c2:¬((many:Int)<1):=by omega
 have c3:¬((w:Int)<low):=by omega
 have c4:¬((w:Int)<many):=by omega
 have c5:¬((w:Int)<(low:Int)+many):=by omega
 have c6:(low:Int)≤(low:Int)+many:=by omega
 have c7:(low:Int)+many≤w:=by omega
 have c8:((low:Int)+many-low).toNat=many:=by omega
 generalize x/2^low % 2^many=c at*
 simp[aa,g1,g2,g3,eF,e1,e3,g5,c1,c2,c3,c4,c5,c6,c7,c8,hl]
def vx(w x to:Nat)(sign:Bool):Nat:=if (sign&&x.testBit (w-1))=true then 2^w*(2^(to-w)-1)+x else x
theorem Ih(w x to:Nat)(sign:Bool)(hx:x<2^w)(ht:w≤to):vx w x to sign<2^to:=by
 obtain⟨d,rfl⟩:∃d,to=w+d:=⟨to-w,by omega⟩
 have hd:0<2^d:=Nat.pow_pos (by decide)
 have e:w+d-w=d:=by omega
 unfold vx
 rw[e,Nat.pow_add]
 split
 ·rw[Nat.mul_sub]
  have:2^w*1≤2^w*2^d:=Nat.mul_le_mul_left _ hd
  omega
 ·have:2^w*1≤2^w*2^d:=Nat.mul_le_mul_left _ hd
  omega
theorem UE(w x to:Nat)(sign:Bool)(hx:x<2^w)(ht:w≤to)(i:Nat)(hi:i<to):bQ (vx w x to sign) i=if i<w then bQ x i else(if sign then bQ x (w-1) else 0):=by
 unfold vx
 by_cases hs:(sign&&x.testBit (w-1))=true
 ·rw[if_pos hs]
  simp at hs
  unfold bQ
  rw[Nat.testBit_two_pow_mul_add _ hx]
  by_cases hl:i<w
  ·simp[hl]
  ·have:i-w<to-w:=by omega
   simp[hl,hs.1,hs.2,Nat.testBit_two_pow_sub_one,this]
 ·rw[if_neg hs]
  by_cases hl:i<w
  ·simp[hl]
  ·have:x.testBit i=false:=Nat.testBit_lt_two_pow (Nat.lt_of_lt_of_le hx (Nat.pow_le_pow_right (by decide) (by omega)))
   simp at hs
   cases sign
   ·simp[hl,bQ,this]
   ·have hs:=hs rfl
    simp[hl,bQ,this,hs]
theorem Ht(N:Nat)(hN:2001≤N)(w x to:Nat)(sign:Bool)(h1:1≤w)(ht:w≤to)(hw:to≤64)(hx:x<2^w):
  R N 200 [ai w,.p (.int .u64 x),ai to,ab sign] []=some (.tup [.p (.int .u64 (vx w x to sign:Nat)),ai 0],[]):=by
 have aa:rows 200=_:=ZK.eq_1
 obtain⟨n,rfl⟩:=up N
 rw[aE 200 Tryz.func200 rfl rfl]
 have g1:=kC n (by omega) w h1 (by omega)
 have E0:=kC n (by omega) to (by omega) (by omega)
 have g2:=rN n (by omega) w x h1 (by omega) hx
 have g3:=cB n (by omega) w x (by have:=dB (w:=w) (by omega);omega) (by omega)
 have g5:R n 228 [.p (.sl ((bl to (vx w x to sign)).map i64))] []=some (.p (.int .u64 (vx w x to sign:Nat)),[]):=by
  have:=dO n (by omega) to (vx w x to sign) (by omega)
  rw[Nat.mod_eq_of_lt (Ih w x to sign hx ht)] at this
  exact this
 have e1:¬((to:Int)<w):=by omega
 have e2:IntKind.i64.wrap ((w:Int)-1)=((w-1:Nat):Int):=by rw[wrap64 (by omega) (by omega)];omega
 have e3:w-1<w:=by omega
 have hg:=b9 w x (w-1)
 have hlen:=b8 w x
 have c1:¬to<w:=by omega
 simp[aa,g1,E0,g2,g3,e1,e2,e3,hg,c1]
 have hE:=UE w x to sign hx ht
 have h0:(bl w x).map i64=(bl w (vx w x to sign)).map i64:=by
  congr 1
  apply QH
  intro i hi
  have:=hE i (by omega)
  rw[if_pos hi] at this
  unfold bQ at this
  cases h1:x.testBit i<;>cases h2:(vx w x to sign).testBit i<;>simp[h1,h2] at this<;>rfl
 rw[h0]
 generalize vx w x to sign=y at*
 generalize bQ x (w-1)=tb at*
 obtain⟨d,rfl⟩:∃d,to=w+d:=⟨to-w,by omega⟩
 rw[abC d (fun k=>⟨[(2,ai ((w+d:Nat):Int)),(3,ab sign),(10,.arr 1 (w+k) 0 (w+k)),(11,ai tb)],[.arr 0 1 false [],.arr (w+k) 1 false ((bl (w+k) y).map i64)]⟩) (by omega) (by simp[aa]) (by
    intro k h K
    have b0:(w:Int)+k<(w:Int)+d:=by omega
    have b1:(w+k+1)*8≤1099511627776:=by omega
    have b2:w+k+1≤1099511627776:=by omega
    have b3:w+k+1≠0:=by omega
    have iV:=b8 (w+k) y
    have hb:=hE (w+k) (by omega)
    rw[if_neg (by omega)] at hb
    rw[show w+(k+1)=w+k+1 by omega,kh,hb]
    generalize bl (w+k) y=L at*
    cases sign<;>simp[aa,b0,b1,b2,b3,iV,h]) (by simp[aa])]
 simp[aa,eF,g5]
def oe(w x:Nat):Int:=if x<2^(w-1) then x else(x:Int)-2^w
def bF(k w a b:Nat):Nat:=
 if k=5 then(a+b) % 2^w else if k=6 then(a+(2^w-b)) % 2^w else if k=7 then a*b % 2^w
 else if k=8 then a&&&b else if k=9 then a|||b else if k=10 then a^^^b
 else if k=11 then a*2^dy b % 2^w else if k=12 then a/2^dy b
 else if k=13 then(oe w a/2^dy b % 2^w).toNat
 else if k=14 then(if b=0 then 2^w-1 else a/b) else if k=15 then(if b=0 then a else a % b)
 else if k=16 then(if a=b then 1 else 0) else if k=17 then(if a<b then 1 else 0) else(if oe w a<oe w b then 1 else 0)
def RB(k:Nat)(K:Int):Prop:=∀N,2001≤N→∀w a b:Nat,1≤w→w≤64→a<2^w→b<2^w→R N 202 [.p (.int .u8 K),ai w,.p (.int .u64 a),.p (.int .u64 b)] []=some (.tup [.p (.int .u64 (bF k w a b)),ai 0],[])
theorem kA(n:Nat)(hn:2000≤n)(w a b:Nat)(h1:1≤w)(hw:w≤64)(ha:a<2^w)(hb:b<2^w):R n 192 [ai w] []=some (ab true,[])∧R n 193 [ai w,.p (.int .u64 a)] []=some (ab true,[])∧R n 193 [ai w,.p (.int .u64 b)] []=some (ab true,[])∧2^w≤18446744073709551616∧
  R n 225 [ai w,.p (.int .u64 a)] []=some (.arr 1 w 0 w,[.arr 0 1 false [],.arr w 1 false ((bl w a).map i64)])∧R n 225 [ai w,.p (.int .u64 b)] []=some (.arr 1 w 0 w,[.arr 0 1 false [],.arr w 1 false ((bl w b).map i64)])∧IntKind.i64.wrap ((w:Int)-1)=((w-1:Nat):Int)∧w-1<w∧
  (∀h:w-1<(bl w a).length,(bl w a)[w-1]=bQ a (w-1))∧(∀h:w-1<(bl w b).length,(bl w b)[w-1]=bQ b (w-1))∧(bl w a).length=w∧(bl w b).length=w:=by
 have v_:=dB hw
 exact⟨kC n (by omega) w h1 hw,rN n hn w a h1 hw ha,rN n hn w b h1 hw hb,v_,cB n (by omega) w a (by omega) hw,cB n (by omega) w b (by omega) hw,by rw[wrap64 (by omega) (by omega)];omega,by omega,b9 w a (w-1),b9 w b (w-1),b8 w a,b8 w b⟩
theorem amj:RB 5 5:=by
 intro N hN w a b h1 hw ha hb
 have aa:rows 202=_:=ic.eq_1
 obtain⟨n,rfl⟩:=up N
 rw[aE 202 Tryz.func202 rfl rfl]
 obtain⟨g1,g2,tA,v_,g3,vp,e2,e3,hg,JF,hlen,qn⟩:=kA n (by omega) w a b h1 hw ha hb
 have g4:R n 226 [.p (.sl ((bl w a).map i64)),.p (.sl ((bl w b).map i64)),.p (.int .i64 0)] []=some (.arr 1 w 0 w,[.arr 0 1 false [],.arr w 1 false ((bl w (a+b)).map i64)]):=rT n (by omega) w a b 0 (by omega) (by omega)
 have g5:R n 228 [.p (.sl ((bl w (a+b)).map i64))] []=some (.p (.int .u64 (((a+b) % 2^w:Nat):Int)),[]):=dO n (by omega) w (a+b) hw
 have e:bF 5 w a b=(a+b) % 2^w:=rfl
 rw[e]
 generalize (a+b) % 2^w=c at*
 generalize a+b=s at*
 simp -implicitDefEqProofs[aa,g1,g2,tA,g3,vp,e2,e3,hg,eF,g4,g5]
theorem ami:RB 6 6:=by
 intro N hN w a b h1 hw ha hb
 have aa:rows 202=_:=ic.eq_1
 obtain⟨n,rfl⟩:=up N
 rw[aE 202 Tryz.func202 rfl rfl]
 obtain⟨g1,g2,tA,v_,g3,vp,e2,e3,hg,JF,hlen,qn⟩:=kA n (by omega) w a b h1 hw ha hb
 have gn:R n 224 [.p (.sl ((bl w b).map i64))] []=some (.p (.sl ((bl w (2^w-1-b)).map i64)),[]):=rS n (by omega) w b hb (by omega)
 have g4:R n 226 [.p (.sl ((bl w a).map i64)),.p (.sl ((bl w (2^w-1-b)).map i64)),.p (.int .i64 1)] []=some (.arr 1 w 0 w,[.arr 0 1 false [],.arr w 1 false ((bl w (a+(2^w-b))).map i64)]):=by
  have:=rT n (by omega) w a (2^w-1-b) 1 (by omega) (by omega)
  rw[show a+(2^w-1-b)+1=a+(2^w-b) by omega] at this
  exact this
 have g5:R n 228 [.p (.sl ((bl w (a+(2^w-b))).map i64))] []=some (.p (.int .u64 (((a+(2^w-b)) % 2^w:Nat):Int)),[]):=dO n (by omega) w _ hw
 have e:bF 6 w a b=(a+(2^w-b)) % 2^w:=rfl
 rw[e]
 generalize (a+(2^w-b)) % 2^w=c at*
 generalize a+(2^w-b)=s at*
 generalize 2^w-1-b=nb at*
 simp -implicitDefEqProofs[aa,g1,g2,tA,g3,vp,e2,e3,hg,eF,g4,g5,gn]
theorem amh:RB 7 7:=by
 intro N hN w a b h1 hw ha hb
 have aa:rows 202=_:=ic.eq_1
 obtain⟨n,rfl⟩:=up N
 rw[aE 202 Tryz.func202 rfl rfl]
 obtain⟨g1,g2,tA,v_,g3,vp,e2,e3,hg,JF,hlen,qn⟩:=kA n (by omega) w a b h1 hw ha hb
 have g4:R n 230 [.p (.sl ((bl w a).map i64)),.p (.sl ((bl w b).map i64))] []=some (.p (.sl ((bl w (a*b)).map i64)),[]):=abR n (by omega) w a b hw h1 hb
 have g5:R n 228 [.p (.sl ((bl w (a*b)).map i64))] []=some (.p (.int .u64 ((a*b % 2^w:Nat):Int)),[]):=dO n (by omega) w _ hw
 have e:bF 7 w a b=a*b % 2^w:=rfl
 rw[e]
 generalize a*b % 2^w=c at*
 generalize a*b=s at*
 simp -implicitDefEqProofs[aa,g1,g2,tA,g3,vp,e2,e3,hg,eF,g4,g5]
theorem aa7:RB 14 14:=by
 intro N hN w a b h1 hw ha hb
 have aa:rows 202=_:=ic.eq_1
 obtain⟨n,rfl⟩:=up N
 rw[aE 202 Tryz.func202 rfl rfl]
 obtain⟨g1,g2,tA,v_,g3,vp,e2,e3,hg,JF,hlen,qn⟩:=kA n (by omega) w a b h1 hw ha hb
 have g4:R n 233 [.p (.sl ((bl w a).map i64)),.p (.sl ((bl w b).map i64))] []=some (.tup [.p (.sl ((bl w (if b=0 then 2^w-1 else a/b)).map i64)),.p (.sl ((bl w (if b=0 then a else a % b)).map i64))],[]):=AW n (by omega) w a b hw h1 ha hb
 have bW:(if b=0 then 2^w-1 else a/b)<2^w:=by
  split
  ·omega
  ·exact Nat.lt_of_le_of_lt (Nat.div_le_self _ _) ha
 have g5:R n 228 [.p (.sl ((bl w (if b=0 then 2^w-1 else a/b)).map i64))] []=some (.p (.int .u64 ((if b=0 then 2^w-1 else a/b:Nat):Int)),[]):=by
  have:=dO n (by omega) w (if b=0 then 2^w-1 else a/b) hw
  rw[Nat.mod_eq_of_lt bW] at this
  exact this
 have e:bF 14 w a b=(if b=0 then 2^w-1 else a/b):=rfl
 rw[e]
 generalize (if b=0 then 2^w-1 else a/b)=q at*
 generalize (if b=0 then a else a % b)=r at*
 simp -implicitDefEqProofs[aa,g1,g2,tA,g3,vp,e2,e3,hg,eF,g4,g5]
theorem aa6:RB 15 15:=by
 intro N hN w a b h1 hw ha hb
 have aa:rows 202=_:=ic.eq_1
 obtain⟨n,rfl⟩:=up N
 rw[aE 202 Tryz.func202 rfl rfl]
 obtain⟨g1,g2,tA,v_,g3,vp,e2,e3,hg,JF,hlen,qn⟩:=kA n (by omega) w a b h1 hw ha hb
 have g4:R n 233 [.p (.sl ((bl w a).map i64)),.p (.sl ((bl w b).map i64))] []=some (.tup [.p (.sl ((bl w (if b=0 then 2^w-1 else a/b)).map i64)),.p (.sl ((bl w (if b=0 then a else a % b)).map i64))],[]):=AW n (by omega) w a b hw h1 ha hb
 have bW:(if b=0 then a else a % b)<2^w:=by
  split
  ·omega
  ·exact Nat.lt_of_le_of_lt (Nat.mod_le _ _) ha
 have g5:R n 228 [.p (.sl ((bl w (if b=0 then a else a % b)).map i64))] []=some (.p (.int .u64 ((if b=0 then a else a % b:Nat):Int)),[]):=by
  have:=dO n (by omega) w (if b=0 then a else a % b) hw
  rw[Nat.mod_eq_of_lt bW] at this
  exact this
 have e:bF 15 w a b=(if b=0 then a else a % b):=rfl
 rw[e]
 generalize (if b=0 then 2^w-1 else a/b)=q at*
 generalize (if b=0 then a else a % b)=r at*
 simp -implicitDefEqProofs[aa,g1,g2,tA,g3,vp,e2,e3,hg,eF,g4,g5]
theorem aa5:RB 16 16:=by
 intro N hN w a b h1 hw ha hb
 have aa:rows 202=_:=ic.eq_1
 obtain⟨n,rfl⟩:=up N
 rw[aE 202 Tryz.func202 rfl rfl]
 obtain⟨g1,g2,tA,v_,g3,vp,e2,e3,hg,JF,hlen,qn⟩:=kA n (by omega) w a b h1 hw ha hb
 have g4:=wJ n (by omega) (decide (a=b))
 have e:bF 16 w a b=(if a=b then 1 else 0):=rfl
 rw[e]
 by_cases eV:a=b
 ·subst eV
  simp at g4
  simp -implicitDefEqProofs[aa,g1,g2,g3,e2,e3,hg,eF,g4]
 ·simp[eV] at g4
  have acW:decide ((a:Int)=(b:Int))=false:=decide_eq_false (by omega)
  simp -implicitDefEqProofs[aa,g1,g2,tA,g3,vp,e2,e3,hg,eF,g4,eV,acW]
theorem aa4:RB 17 17:=by
 intro N hN w a b h1 hw ha hb
 have aa:rows 202=_:=ic.eq_1
 obtain⟨n,rfl⟩:=up N
 rw[aE 202 Tryz.func202 rfl rfl]
 obtain⟨g1,g2,tA,v_,g3,vp,e2,e3,hg,JF,hlen,qn⟩:=kA n (by omega) w a b h1 hw ha hb
 have g4:=wJ n (by omega) (decide (a<b))
 have g5:R n 235 [.p (.sl ((bl w a).map i64)),.p (.sl ((bl w b).map i64))] []=some (ab (decide (a<b)),[]):=B6 n (by omega) w a b (by omega) ha hb
 have e:bF 17 w a b=(if a<b then 1 else 0):=rfl
 rw[e]
 by_cases hq:a<b
 ·rw[decide_eq_true hq] at g4 g5
  simp -implicitDefEqProofs[aa,g1,g2,tA,g3,vp,e2,e3,hg,eF,g4,g5,hq]
 ·rw[decide_eq_false hq] at g4 g5
  simp -implicitDefEqProofs[aa,g1,g2,tA,g3,vp,e2,e3,hg,eF,g4,g5,hq]
theorem Oo(w a p:Nat):∀i:Nat,i<w→bQ (a*2^p) i=if (i:Int)+(-(p:Int))<0 then 0 else if (w:Int)≤(i:Int)+(-(p:Int)) then 0 else bQ a ((i:Int)+(-(p:Int))).toNat:=by
 intro i hi
 unfold bQ
 rw[Nat.testBit_mul_two_pow]
 by_cases h:p≤i
 ·have h1:¬((i:Int)+(-(p:Int))<0):=by omega
  have h2:¬((w:Int)≤(i:Int)+(-(p:Int))):=by omega
  have h3:((i:Int)+(-(p:Int))).toNat=i-p:=by omega
  rw[if_neg h1,if_neg h2,h3];simp[h]
 ·have h1:((i:Int)+(-(p:Int))<0):=by omega
  rw[if_pos h1];simp[h]
theorem DC(w a p:Nat)(ha:a<2^w):∀i:Nat,i<w→bQ (a/2^p) i=if (i:Int)+(p:Int)<0 then 0 else if (w:Int)≤(i:Int)+(p:Int) then 0 else bQ a ((i:Int)+(p:Int)).toNat:=by
 intro i hi
 unfold bQ
 rw[Nat.testBit_div_two_pow]
 have h1:¬((i:Int)+(p:Int)<0):=by omega
 have h3:((i:Int)+(p:Int)).toNat=i+p:=by omega
 rw[if_neg h1,h3]
 by_cases h:w≤i+p
 ·have:a.testBit (i+p)=false:=Nat.testBit_lt_two_pow (Nat.lt_of_lt_of_le ha (Nat.pow_le_pow_right (by decide) h))
  have h2:((w:Int)≤(i:Int)+(p:Int)):=by omega
  rw[if_pos h2,this];rfl
 ·have h2:¬((w:Int)≤(i:Int)+(p:Int)):=by omega
  rw[if_neg h2]
theorem v7{w a:Nat}(h1:1≤w)(ha:a<2^w):(bQ a (w-1)=0∧a<2^(w-1))∨(bQ a (w-1)=1∧2^(w-1)≤a):=by
 obtain⟨m,rfl⟩:∃m,w=m+1:=⟨w-1,by omega⟩
 rw[Nat.pow_succ] at ha
 have h0:0<2^m:=Nat.pow_pos (by decide)
 simp only[Nat.add_sub_cancel]
 rw[jq]
 by_cases h:a<2^m
 ·left;rw[Nat.div_eq_of_lt h];exact⟨rfl,h⟩
 ·right
  have:a/2^m=1:=by
   have h2:a=(a-2^m)+2^m*1:=by omega
   rw[h2,Nat.add_mul_div_left _ _ h0,Nat.div_eq_of_lt (by omega)]
  rw[this];exact⟨rfl,by omega⟩
def r_(w a p:Nat):Nat:=(oe w a/2^p % 2^w).toNat
theorem Ja(w a p:Nat)(h1:1≤w)(ha:a<2^w):(a<2^(w-1)∧r_ w a p=a/2^p)∨(2^(w-1)≤a∧r_ w a p=2^w-((2^w-1-a)/2^p+1)):=by
 have c1:((2^w:Nat):Int)=(2:Int)^w:=by simp
 have c2:((2^p:Nat):Int)=(2:Int)^p:=by simp
 have Mu:0<2^p:=Nat.pow_pos (by decide)
 unfold r_ oe
 rw[←c1,←c2]
 by_cases h:a<2^(w-1)
 ·left
  refine⟨h, ?_⟩
  rw[if_pos h,←Int.natCast_ediv,←Int.natCast_emod,Int.toNat_natCast]
  exact Nat.mod_eq_of_lt (Nat.lt_of_le_of_lt (Nat.div_le_self _ _) ha)
 ·right
  refine⟨by omega, ?_⟩
  rw[if_neg h]
  have hq:(2^w-1-a)/2^p≤2^w-1-a:=Nat.div_le_self _ _
  have e:(a:Int)-((2^w:Nat):Int)=Int.negSucc (2^w-1-a):=by
   rw[Int.negSucc_eq];omega
  rw[e,Int.negSucc_ediv _ (by omega)]
  show(-((((2^w-1-a)/2^p:Nat):Int)+1) % ((2^w:Nat):Int)).toNat=_
  have ur:0<2^w:=Nat.pow_pos (by decide)
  generalize (2^w-1-a)/2^p=q at*
  generalize 2^w=W at*
  have e2:(-((q:Int)+1))=((W:Int)-((q:Int)+1))+(W:Int)*(-1):=by omega
  rw[e2,Int.add_mul_emod_self_left,Int.emod_eq_of_lt (by omega) (by omega)]
  omega
theorem Oy(w a p:Nat)(h1:1≤w)(ha:a<2^w):∀i:Nat,i<w→bQ (r_ w a p) i=if (i:Int)+(p:Int)<0 then 0 else if (w:Int)≤(i:Int)+(p:Int) then bQ a (w-1) else bQ a ((i:Int)+(p:Int)).toNat:=by
 intro i hi
 have oL:=v7 h1 ha
 rcases Ja w a p h1 ha with⟨h,e⟩|⟨h,e⟩
 ·have ht:bQ a (w-1)=0:=by rcases oL with h|h<;>omega
  rw[e,ht]
  exact DC w a p ha i hi
 ·have ht:bQ a (w-1)=1:=by rcases oL with h|h<;>omega
  rw[e,ht]
  have bW:(2^w-1-a)/2^p<2^w:=Nat.lt_of_le_of_lt (Nat.div_le_self _ _) (by omega)
  have g1:¬((i:Int)+(p:Int)<0):=by omega
  have h3:((i:Int)+(p:Int)).toNat=i+p:=by omega
  rw[if_neg g1,h3]
  unfold bQ
  rw[Nat.testBit_two_pow_sub_succ bW,Nat.testBit_div_two_pow]
  have e2:2^w-1-a=2^w-(a+1):=by omega
  rw[e2,Nat.testBit_two_pow_sub_succ ha]
  by_cases hl:w≤i+p
  ·have g2:((w:Int)≤(i:Int)+(p:Int)):=by omega
   rw[if_pos g2]
   simp[hi,Nat.not_lt.2 hl]
  ·have g2:¬((w:Int)≤(i:Int)+(p:Int)):=by omega
   rw[if_neg g2]
   have:i+p<w:=by omega
   simp[hi,this]
theorem aba:RB 11 11:=by
 intro N hN w a b h1 hw ha hb
 have aa:rows 202=_:=ic.eq_1
 obtain⟨n,rfl⟩:=up N
 rw[aE 202 Tryz.func202 rfl rfl]
 obtain⟨g1,g2,tA,v_,g3,vp,e2,e3,hg,JF,hlen,qn⟩:=kA n (by omega) w a b h1 hw ha hb
 have gp:R n 232 [.p (.int .u64 b)] []=some (ai (dy b),[]):=qx n (by omega) b (by omega)
 have Jy:dy b≤64:=by unfold dy;split<;>omega
 have e:bF 11 w a b=a*2^dy b % 2^w:=rfl
 rw[e]
 have gw:IntKind.i64.wrap (-(dy b:Int))=-(dy b:Int):=wrap64 (by omega) (by omega)
 have g4:R n 231 [.p (.sl ((bl w a).map i64)),.p (.int .i64 (-(dy b:Int))),.p (.int .i64 0)] []=some (.p (.sl ((bl w (a*2^dy b)).map i64)),[]):=
  wV n (by omega) w a (a*2^dy b) (-(dy b:Int)) 0 (by omega) (by omega) (Oo w a (dy b))
 have g5:R n 228 [.p (.sl ((bl w (a*2^dy b)).map i64))] []=some (.p (.int .u64 ((a*2^dy b % 2^w:Nat):Int)),[]):=dO n (by omega) w _ hw
 generalize a*2^dy b % 2^w=c at*
 generalize a*2^dy b=y at*
 generalize dy b=pl at*
 simp -implicitDefEqProofs[aa,g1,g2,tA,g3,vp,e2,e3,hg,eF,gp,gw,g4,g5]
theorem aa9:RB 12 12:=by
 intro N hN w a b h1 hw ha hb
 have aa:rows 202=_:=ic.eq_1
 obtain⟨n,rfl⟩:=up N
 rw[aE 202 Tryz.func202 rfl rfl]
 obtain⟨g1,g2,tA,v_,g3,vp,e2,e3,hg,JF,hlen,qn⟩:=kA n (by omega) w a b h1 hw ha hb
 have gp:R n 232 [.p (.int .u64 b)] []=some (ai (dy b),[]):=qx n (by omega) b (by omega)
 have Jy:dy b≤64:=by unfold dy;split<;>omega
 have e:bF 12 w a b=a/2^dy b % 2^w:=by rw[Nat.mod_eq_of_lt (Nat.lt_of_le_of_lt (Nat.div_le_self _ _) ha)];rfl
 rw[e]
 have gw:IntKind.i64.wrap (-(dy b:Int))=-(dy b:Int):=wrap64 (by omega) (by omega)
 have g4:R n 231 [.p (.sl ((bl w a).map i64)),.p (.int .i64 ((dy b:Int))),.p (.int .i64 0)] []=some (.p (.sl ((bl w (a/2^dy b)).map i64)),[]):=
  wV n (by omega) w a (a/2^dy b) ((dy b:Int)) 0 (by omega) (by omega) (DC w a (dy b) ha)
 have g5:R n 228 [.p (.sl ((bl w (a/2^dy b)).map i64))] []=some (.p (.int .u64 ((a/2^dy b % 2^w:Nat):Int)),[]):=dO n (by omega) w _ hw
 generalize a/2^dy b % 2^w=c at*
 generalize a/2^dy b=y at*
 generalize dy b=pl at*
 simp -implicitDefEqProofs[aa,g1,g2,tA,g3,vp,e2,e3,hg,eF,gp,gw,g4,g5]
theorem Te(w a p:Nat)(h1:1≤w)(ha:a<2^w):r_ w a p<2^w:=by
 rcases Ja w a p h1 ha with⟨h,e⟩|⟨h,e⟩<;>rw[e]
 ·exact Nat.lt_of_le_of_lt (Nat.div_le_self _ _) ha
 ·have:0<2^w:=Nat.pow_pos (by decide)
  generalize (2^w-1-a)/2^p=q
  omega
theorem aa8:RB 13 13:=by
 intro N hN w a b h1 hw ha hb
 have aa:rows 202=_:=ic.eq_1
 obtain⟨n,rfl⟩:=up N
 rw[aE 202 Tryz.func202 rfl rfl]
 obtain⟨g1,g2,tA,v_,g3,vp,e2,e3,hg,JF,hlen,qn⟩:=kA n (by omega) w a b h1 hw ha hb
 have gp:R n 232 [.p (.int .u64 b)] []=some (ai (dy b),[]):=qx n (by omega) b (by omega)
 have Jy:dy b≤64:=by unfold dy;split<;>omega
 have e:bF 13 w a b=r_ w a (dy b) % 2^w:=by rw[Nat.mod_eq_of_lt (Te w a _ h1 ha)];rfl
 rw[e]
 have gw:IntKind.i64.wrap (-(dy b:Int))=-(dy b:Int):=wrap64 (by omega) (by omega)
 have g4:R n 231 [.p (.sl ((bl w a).map i64)),.p (.int .i64 ((dy b:Int))),.p (.int .i64 (bQ a (w-1)))] []=some (.p (.sl ((bl w (r_ w a (dy b))).map i64)),[]):=
  wV n (by omega) w a (r_ w a (dy b)) ((dy b:Int)) (bQ a (w-1)) (by omega) (by omega) (Oy w a (dy b) h1 ha)
 have g5:R n 228 [.p (.sl ((bl w (r_ w a (dy b))).map i64))] []=some (.p (.int .u64 ((r_ w a (dy b) % 2^w:Nat):Int)),[]):=dO n (by omega) w _ hw
 generalize r_ w a (dy b) % 2^w=c at*
 generalize r_ w a (dy b)=y at*
 generalize dy b=pl at*
 simp -implicitDefEqProofs[aa,g1,g2,tA,g3,vp,e2,e3,hg,eF,gp,gw,g4,g5]
theorem aaL{w a b:Nat}(h1:1≤w)(ha:a<2^w)(hb:b<2^w):
  (bQ a (w-1)=bQ b (w-1)→(oe w a<oe w b↔a<b))∧(bQ a (w-1)≠bQ b (w-1)→(oe w a<oe w b↔bQ a (w-1)=1)):=by
 have c1:((2^w:Nat):Int)=(2:Int)^w:=by simp
 unfold oe
 rw[←c1]
 rcases v7 h1 ha with⟨p1,p2⟩|⟨p1,p2⟩<;>rcases v7 h1 hb with⟨q1,q2⟩|⟨q1,q2⟩<;>rw[p1,q1]<;>refine⟨fun h=> ?_,fun h=> ?_⟩<;>
 (first|omega|(split<;>split<;>omega)|skip)
theorem aa3:RB 18 18:=by
 intro N hN w a b h1 hw ha hb
 have aa:rows 202=_:=ic.eq_1
 obtain⟨n,rfl⟩:=up N
 rw[aE 202 Tryz.func202 rfl rfl]
 obtain⟨g1,g2,tA,v_,g3,vp,e2,e3,hg,JF,hlen,qn⟩:=kA n (by omega) w a b h1 hw ha hb
 have g4:=wJ n (by omega)
 have g5:R n 235 [.p (.sl ((bl w a).map i64)),.p (.sl ((bl w b).map i64))] []=some (ab (decide (a<b)),[]):=B6 n (by omega) w a b (by omega) ha hb
 have e:bF 18 w a b=(if oe w a<oe w b then 1 else 0):=rfl
 rw[e]
 obtain⟨s1,s2⟩:=aaL h1 ha hb
 by_cases hs:bQ a (w-1)=bQ b (w-1)
 ·simp only[s1 hs]
  by_cases hq:a<b
  ·rw[decide_eq_true hq] at g5
   simp -implicitDefEqProofs[aa,g1,g2,tA,g3,vp,e2,e3,hg,JF,hs,eF,g4,g5,hq]
  ·rw[decide_eq_false hq] at g5
   simp -implicitDefEqProofs[aa,g1,g2,tA,g3,vp,e2,e3,hg,JF,hs,eF,g4,g5,hq]
 ·simp only[s2 hs]
  by_cases hq:bQ a (w-1)=1
  ·have Ce:¬(1=bQ b (w-1)):=by rw[←hq];exact hs
   simp -implicitDefEqProofs[aa,g1,g2,tA,g3,vp,e2,e3,hg,JF,hq,Ce,eF,g4]
  ·simp -implicitDefEqProofs[aa,g1,g2,tA,g3,vp,e2,e3,hg,JF,hq,hs,eF,g4]
theorem amg:RB 8 8:=by
 intro N hN w a b h1 hw ha hb
 have aa:rows 202=_:=ic.eq_1
 obtain⟨n,rfl⟩:=up N
 rw[aE 202 Tryz.func202 rfl rfl]
 obtain⟨g1,g2,tA,v_,g3,vp,e2,e3,hg,JF,hlen,qn⟩:=kA n (by omega) w a b h1 hw ha hb
 have e:bF 8 w a b=a&&&b:=rfl
 rw[e]
 have bW:a&&&b<2^w:=Nat.and_lt_two_pow _ hb
 have g5:R n 228 [.p (.sl ((bl w (a&&&b)).map i64))] []=some (.p (.int .u64 ((a&&&b:Nat):Int)),[]):=by
  have:=dO n (by omega) w (a&&&b) hw
  rw[Nat.mod_eq_of_lt bW] at this
  exact this
 simp -implicitDefEqProofs[aa,g1,g2,tA,g3,vp,e2,e3,hg,eF]
 rw[av w (fun k=>⟨[(0,.p (.int .u8 8)),(1,ai w),(10,.arr 1 w 0 w),(11,.arr 3 w 0 w),(13,.arr 4 k 0 k),(14,ai k)],[.arr 0 1 false [],.arr w 1 false ((bl w a).map i64),.arr 0 1 false [],.arr w 1 false ((bl w b).map i64),.arr k 1 false ((bl k (a&&&b)).map i64)]⟩) (.exit 1,⟨[(0,.p (.int .u8 8)),(1,ai w),(10,.arr 1 w 0 w),(11,.arr 3 w 0 w),(13,.arr 4 w 0 w),(14,ai w)],[.arr 0 1 false [],.arr w 1 false ((bl w a).map i64),.arr 0 1 false [],.arr w 1 false ((bl w b).map i64),.arr w 1 false ((bl w (a&&&b)).map i64)]⟩) (by omega) (by simp -implicitDefEqProofs[aa,bl]) (by
  intro k h K
  have w1:=aA h (by omega)
  have b1:(k+1)*8≤1099511627776:=by omega
  have b2:k+1≤1099511627776:=by omega
  have gA:=b9 w a k
  have gB:=b9 w b k
  have iV:=b8 k (a&&&b)
  have p9:bQ (a&&&b) k=if a.testBit k&&b.testBit k then 1 else 0:=by unfold bQ;rw[Nat.testBit_and]
  rw[kh,p9]
  unfold bQ at gA gB
  generalize bl w a=LA at*
  generalize bl w b=LB at*
  generalize bl k (a&&&b)=L2 at*
  have i0:IntKind.i64.wrap 0=0:=rfl
  have i1:IntKind.i64.wrap 1=1:=rfl
  have i2:IntKind.i64.wrap 2=2:=rfl
  cases p1:a.testBit k<;>cases p2:b.testBit k<;>rw[p1] at gA<;>rw[p2] at gB<;>simp at gA gB<;>
  simp -implicitDefEqProofs[aa,h,hlen,qn,gA,gB,w1,b1,b2,iV,i0,i1,i2]) (by simp -implicitDefEqProofs[aa])]
 simp -implicitDefEqProofs[aa,eF,g5]
theorem amf:RB 9 9:=by
 intro N hN w a b h1 hw ha hb
 have aa:rows 202=_:=ic.eq_1
 obtain⟨n,rfl⟩:=up N
 rw[aE 202 Tryz.func202 rfl rfl]
 obtain⟨g1,g2,tA,v_,g3,vp,e2,e3,hg,JF,hlen,qn⟩:=kA n (by omega) w a b h1 hw ha hb
 have e:bF 9 w a b=a|||b:=rfl
 rw[e]
 have bW:a|||b<2^w:=Nat.or_lt_two_pow ha hb
 have g5:R n 228 [.p (.sl ((bl w (a|||b)).map i64))] []=some (.p (.int .u64 ((a|||b:Nat):Int)),[]):=by
  have:=dO n (by omega) w (a|||b) hw
  rw[Nat.mod_eq_of_lt bW] at this
  exact this
 simp -implicitDefEqProofs[aa,g1,g2,tA,g3,vp,e2,e3,hg,eF]
 rw[av w (fun k=>⟨[(0,.p (.int .u8 9)),(1,ai w),(10,.arr 1 w 0 w),(11,.arr 3 w 0 w),(13,.arr 4 k 0 k),(14,ai k)],[.arr 0 1 false [],.arr w 1 false ((bl w a).map i64),.arr 0 1 false [],.arr w 1 false ((bl w b).map i64),.arr k 1 false ((bl k (a|||b)).map i64)]⟩) (.exit 1,⟨[(0,.p (.int .u8 9)),(1,ai w),(10,.arr 1 w 0 w),(11,.arr 3 w 0 w),(13,.arr 4 w 0 w),(14,ai w)],[.arr 0 1 false [],.arr w 1 false ((bl w a).map i64),.arr 0 1 false [],.arr w 1 false ((bl w b).map i64),.arr w 1 false ((bl w (a|||b)).map i64)]⟩) (by omega) (by simp -implicitDefEqProofs[aa,bl]) (by
  intro k h K
  have w1:=aA h (by omega)
  have b1:(k+1)*8≤1099511627776:=by omega
  have b2:k+1≤1099511627776:=by omega
  have gA:=b9 w a k
  have gB:=b9 w b k
  have iV:=b8 k (a|||b)
  have p9:bQ (a|||b) k=if a.testBit k||b.testBit k then 1 else 0:=by unfold bQ;rw[Nat.testBit_or]
  rw[kh,p9]
  unfold bQ at gA gB
  generalize bl w a=LA at*
  generalize bl w b=LB at*
  generalize bl k (a|||b)=L2 at*
  have i0:IntKind.i64.wrap 0=0:=rfl
  have i1:IntKind.i64.wrap 1=1:=rfl
  have i2:IntKind.i64.wrap 2=2:=rfl
  cases p1:a.testBit k<;>cases p2:b.testBit k<;>rw[p1] at gA<;>rw[p2] at gB<;>simp at gA gB<;>
  simp -implicitDefEqProofs[aa,h,hlen,qn,gA,gB,w1,b1,b2,iV,i0,i1,i2]) (by simp -implicitDefEqProofs[aa])]
 simp -implicitDefEqProofs[aa,eF,g5]
theorem abb:RB 10 10:=by
 intro N hN w a b h1 hw ha hb
 have aa:rows 202=_:=ic.eq_1
 obtain⟨n,rfl⟩:=up N
 rw[aE 202 Tryz.func202 rfl rfl]
 obtain⟨g1,g2,tA,v_,g3,vp,e2,e3,hg,JF,hlen,qn⟩:=kA n (by omega) w a b h1 hw ha hb
 have e:bF 10 w a b=a^^^b:=rfl
 rw[e]
 have bW:a^^^b<2^w:=Nat.xor_lt_two_pow ha hb
 have g5:R n 228 [.p (.sl ((bl w (a^^^b)).map i64))] []=some (.p (.int .u64 ((a^^^b:Nat):Int)),[]):=by
  have:=dO n (by omega) w (a^^^b) hw
  rw[Nat.mod_eq_of_lt bW] at this
  exact this
 simp -implicitDefEqProofs[aa,g1,g2,tA,g3,vp,e2,e3,hg,eF]
 rw[av w (fun k=>⟨[(0,.p (.int .u8 10)),(1,ai w),(10,.arr 1 w 0 w),(11,.arr 3 w 0 w),(13,.arr 4 k 0 k),(14,ai k)],[.arr 0 1 false [],.arr w 1 false ((bl w a).map i64),.arr 0 1 false [],.arr w 1 false ((bl w b).map i64),.arr k 1 false ((bl k (a^^^b)).map i64)]⟩) (.exit 1,⟨[(0,.p (.int .u8 10)),(1,ai w),(10,.arr 1 w 0 w),(11,.arr 3 w 0 w),(13,.arr 4 w 0 w),(14,ai w)],[.arr 0 1 false [],.arr w 1 false ((bl w a).map i64),.arr 0 1 false [],.arr w 1 false ((bl w b).map i64),.arr w 1 false ((bl w (a^^^b)).map i64)]⟩) (by omega) (by simp -implicitDefEqProofs[aa,bl]) (by
  intro k h K
  have w1:=aA h (by omega)
  have b1:(k+1)*8≤1099511627776:=by omega
  have b2:k+1≤1099511627776:=by omega
  have gA:=b9 w a k
  have gB:=b9 w b k
  have iV:=b8 k (a^^^b)
  have p9:bQ (a^^^b) k=if a.testBit k^^b.testBit k then 1 else 0:=by unfold bQ;rw[Nat.testBit_xor]
  rw[kh,p9]
  unfold bQ at gA gB
  generalize bl w a=LA at*
  generalize bl w b=LB at*
  generalize bl k (a^^^b)=L2 at*
  have i0:IntKind.i64.wrap 0=0:=rfl
  have i1:IntKind.i64.wrap 1=1:=rfl
  have i2:IntKind.i64.wrap 2=2:=rfl
  cases p1:a.testBit k<;>cases p2:b.testBit k<;>rw[p1] at gA<;>rw[p2] at gB<;>simp at gA gB<;>
  simp -implicitDefEqProofs[aa,h,hlen,qn,gA,gB,w1,b1,b2,iV,i0,i1,i2]) (by simp -implicitDefEqProofs[aa])]
 simp -implicitDefEqProofs[aa,eF,g5]
end Go.En.V
