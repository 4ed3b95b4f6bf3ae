/- Part of the proof of CallingFills: engine, contracts or law, joined by a program from the texts X93 X94 X95. -/
import Derived.Test.YtlcechkalldhfaaGreatDoorKap
set_option linter.all false
set_option maxRecDepth 100000
set_option maxHeartbeats 4000000
namespace Go.En.V
open Go.Proofs
theorem qi{w:Nat}(h1:1≤w)(hw:w≤64):br w=((2^w-1:Nat):Int):=by
 have h0:0<2^w:=Nat.pow_pos (by decide)
 have c1:((2^w:Nat):Int)=(2:Int)^w:=by simp
 unfold br
 rw[if_pos (by omega),Int.toNat_natCast,←c1]
 omega
theorem eI{w:Nat}(h1:1≤w)(hw:w≤64){x:Int}(h0:0≤x)(hx:x<18446744073709551616):mg .u64 x (br w)=x % ((2^w:Nat):Int):=by
 have c1:((2^w:Nat):Int)=(2:Int)^w:=by simp
 have:=uQ (k:=w) h0 hx hw
 have e:br w=(2:Int)^w-1:=by
  have hp:0<2^w:=Nat.pow_pos (by decide)
  rw[qi h1 hw,←c1];omega
 rw[e,c1,this]
theorem kX{w:Nat}(h1:1≤w)(hw:w≤64)(x:Int):mg .u64 (IntKind.u64.wrap x) (br w)=x % ((2^w:Nat):Int):=by
 rw[eI h1 hw (by rw[iY];omega) (by rw[iY];omega),iY]
 have:(((2^w:Nat):Int)) ∣ 18446744073709551616:=by
  have h:2^w ∣ 2^64:=Nat.pow_dvd_pow 2 hw
  have:=Int.natCast_dvd_natCast.2 h
  exact this
 exact Int.emod_emod_of_dvd _ this
theorem yZ{a b:Nat}(ha:a<18446744073709551616)(hb:b<18446744073709551616):mg .u64 a b=((a&&&b:Nat):Int):=by
 have e:(BitVec.ofInt 64 (a:Int)&&&BitVec.ofInt 64 (b:Int)).toNat=a&&&b:=by
  rw[BitVec.toNat_and]
  simp only[BitVec.ofInt_natCast,BitVec.toNat_ofNat]
  rw[Nat.mod_eq_of_lt (show a<2^64 from ha),Nat.mod_eq_of_lt (show b<2^64 from hb)]
 show IntKind.u64.wrap ((BitVec.ofInt 64 (a:Int)&&&BitVec.ofInt 64 (b:Int)).toNat:Int)=_
 rw[e]
 have:a&&&b<2^64:=Nat.and_lt_two_pow _ hb
 exact f_ (by omega) (by omega)
theorem wa{a b:Nat}(ha:a<18446744073709551616)(hb:b<18446744073709551616):KY .u64 a b=((a|||b:Nat):Int):=by
 have e:(BitVec.ofInt 64 (a:Int)|||BitVec.ofInt 64 (b:Int)).toNat=a|||b:=by
  rw[BitVec.toNat_or]
  simp only[BitVec.ofInt_natCast,BitVec.toNat_ofNat]
  rw[Nat.mod_eq_of_lt (show a<2^64 from ha),Nat.mod_eq_of_lt (show b<2^64 from hb)]
 show IntKind.u64.wrap ((BitVec.ofInt 64 (a:Int)|||BitVec.ofInt 64 (b:Int)).toNat:Int)=_
 rw[e]
 have:a|||b<2^64:=Nat.or_lt_two_pow ha hb
 exact f_ (by omega) (by omega)
theorem NA{a b:Nat}(ha:a<18446744073709551616)(hb:b<18446744073709551616):SA .u64 a b=((a^^^b:Nat):Int):=by
 have e:(BitVec.ofInt 64 (a:Int)^^^BitVec.ofInt 64 (b:Int)).toNat=a^^^b:=by
  rw[BitVec.toNat_xor]
  simp only[BitVec.ofInt_natCast,BitVec.toNat_ofNat]
  rw[Nat.mod_eq_of_lt (show a<2^64 from ha),Nat.mod_eq_of_lt (show b<2^64 from hb)]
 show IntKind.u64.wrap ((BitVec.ofInt 64 (a:Int)^^^BitVec.ofInt 64 (b:Int)).toNat:Int)=_
 rw[e]
 have:a^^^b<2^64:=Nat.xor_lt_two_pow ha hb
 exact f_ (by omega) (by omega)
theorem nJ(N:Nat)(hN:5≤N)(w:Nat)(h1:1≤w)(hw:w≤64):R N 113 [ai w] []=some (ab true,[]):=by
 have:=yO N (by omega) w
 have e1:(1:Int)≤w:=by omega
 have e2:(w:Int)≤64:=by omega
 rw[this];simp[e1,e2,h1,hw]
def us(l:List Nat):PV:=.sl (l.map fun x:Nat=>PV.int .u64 (x:Int))
theorem o8(N:Nat)(hN:50≤N)(w:Nat)(l:List Nat)(h1:1≤w)(hw:w≤64)(hl:∀x∈l,x<2^w)(oO:l.length≤5):R N 266 [ai w,.p (us l)] []=some (ai 0,[]):=by
 have aa:rows 266=_:=Zk.eq_1
 obtain⟨n,rfl⟩:=up N
 rw[aE 266 Tryz.func266 rfl rfl]
 have g1:=nJ n (by omega) w h1 hw
 have gm:=jr n (by omega) w
 rw[qi h1 hw] at gm
 unfold us
 simp[aa,g1]
 rw[abC l.length (fun k=>⟨[(0,ai w),(4,ai 0),(10,.p (us l)),(11,ai l.length),(12,ai k)],[]⟩) (by omega) (by simp[aa,us]) (by
    intro k h K
    have w1:=aA h (by omega)
    have hx:=hl _ (List.getElem_mem h)
    have tt:¬(((2^w-1:Nat):Int)<(l[k]:Int)):=by omega
    generalize 2^w-1=mk at*
    unfold us
    generalize hy:l[k]=y at*
    simp[aa,h,hy,gm,w1,tt]
    try rfl) (by simp[aa,us])]
 simp[aa]
theorem Ak{w:Nat}(hw:w≤64):∃c:Nat,18446744073709551616=2^w*c:=by
 obtain⟨c,hc⟩:=Nat.pow_dvd_pow 2 hw
 exact⟨c,hc⟩
theorem O1{a:Nat}(ha:a<18446744073709551616):anQ .u64 a=18446744073709551615-(a:Int):=by
 have e:(BitVec.ofInt 64 18446744073709551615^^^BitVec.ofInt 64 (a:Int)).toNat=18446744073709551615-a:=by
  have e1:BitVec.ofInt 64 18446744073709551615=BitVec.allOnes 64:=rfl
  rw[e1,BitVec.allOnes_xor,BitVec.toNat_not,BitVec.ofInt_natCast,BitVec.toNat_ofNat,Nat.mod_eq_of_lt (show a<2^64 from ha)]
 show IntKind.u64.wrap ((BitVec.ofInt 64 18446744073709551615^^^BitVec.ofInt 64 (a:Int)).toNat:Int)=_
 rw[e,f_ (by omega) (by omega)]
 omega
theorem UY(N:Nat)(hN:51≤N)(w a:Nat)(h1:1≤w)(hw:w≤64)(ha:a<2^w):R N 257 [.p (.int .u8 3),ai w,.p (.int .u64 a)] []=some (.tup [.p (.int .u64 (zu 3 w a)),ai 0],[]):=by
 have aa:rows 257=_:=NI.eq_1
 obtain⟨n,rfl⟩:=up N
 rw[aE 257 Tryz.func257 rfl rfl]
 have g1:=nJ n (by omega) w h1 hw
 have gm:=jr n (by omega) w
 have gc:=o8 n (by omega) w [a] h1 hw (by simpa using ha) (by simp)
 simp[us] at gc
 simp[aa,g1,gm,gc]
 have v_:=dB hw
 rw[O1 (by omega),eI h1 hw (by omega) (by omega)]
 obtain⟨c,hc⟩:=Ak hw
 have e:zu 3 w a=2^w-1-a:=rfl
 rw[e]
 have h0:0<2^w:=Nat.pow_pos (by decide)
 have hc0:0<c:=by
  rcases Nat.eq_zero_or_pos c with h|h
  ·subst h;omega
  ·exact h
 generalize 2^w=W at*
 have e2:(18446744073709551615:Int)-(a:Int)=((W-1-a:Nat):Int)+(W:Int)*((c:Int)-1):=by
  have:(18446744073709551616:Int)=(W:Int)*c:=by
   have:=congrArg (Nat.cast:Nat→Int) hc
   rw[Int.natCast_mul] at this
   exact this
  rw[Int.mul_sub,←this]
  omega
 rw[e2,Int.add_mul_emod_self_left,Int.emod_eq_of_lt (by omega) (by omega)]
theorem UX(N:Nat)(hN:51≤N)(w a:Nat)(h1:1≤w)(hw:w≤64)(ha:a<2^w):R N 257 [.p (.int .u8 4),ai w,.p (.int .u64 a)] []=some (.tup [.p (.int .u64 (zu 4 w a)),ai 0],[]):=by
 have aa:rows 257=_:=NI.eq_1
 obtain⟨n,rfl⟩:=up N
 rw[aE 257 Tryz.func257 rfl rfl]
 have g1:=nJ n (by omega) w h1 hw
 have gm:=jr n (by omega) w
 have gc:=o8 n (by omega) w [a] h1 hw (by simpa using ha) (by simp)
 simp[us] at gc
 simp[aa,g1,gm,gc]
 have v_:=dB hw
 rw[kX h1 hw]
 have e:zu 4 w a=(2^w-a) % 2^w:=rfl
 rw[e,Int.natCast_emod]
 have h0:0<2^w:=Nat.pow_pos (by decide)
 generalize 2^w=W at*
 have e2: -(a:Int)=((W-a:Nat):Int)+(W:Int)*(-1):=by omega
 rw[e2,Int.add_mul_emod_self_left]
theorem I_{x u:Nat}(h:x*2^u<18446744073709551616)(hu:u≤64):IntKind.u64.wrap ((x:Int)*2^(min u 64))=((x*2^u:Nat):Int):=by
 rw[Nat.min_eq_left hu]
 have e:(x:Int)*2^u=((x*2^u:Nat):Int):=by simp
 rw[e]
 exact f_ (by omega) (by omega)
theorem I7(x u:Nat):(x:Int).fdiv (2^u)=((x/2^u:Nat):Int):=by
 have e:(2:Int)^u=((2^u:Nat):Int):=by simp
 rw[e,Int.fdiv_eq_ediv_of_nonneg _ (Int.natCast_nonneg _)]
 rfl
theorem aqI(N:Nat)(hN:10≤N)(w x:Nat)(h1:1≤w)(hw:w≤64)(hx:x<2^w):R N 187 [ai w,.p (.int .u64 x)] []=some (ab true,[]):=by
 have:=Y0 N (by omega) w x
 have e1:(1:Int)≤w:=by omega
 have e2:(w:Int)≤64:=by omega
 have e3:(x:Int)≤br w:=by rw[qi h1 hw];omega
 rw[this];simp[e1,e2,e3,h1,hw]
theorem Iv(N:Nat)(hN:51≤N)(h l a b:Nat)(h1:1≤h)(l1:1≤l)(hw:h+l≤64)(ha:a<2^h)(hb:b<2^l):
  R N 258 [ai h,.p (.int .u64 a),ai l,.p (.int .u64 b)] []=some (.tup [.p (.int .u64 ((a*2^l+b:Nat):Int)),ai 0],[]):=by
 have aa:rows 258={}:=rfl
 obtain⟨n,rfl⟩:=up N
 rw[aE 258 Tryz.func258 rfl rfl]
 have g1:=nJ n (by omega) h h1 (by omega)
 have E0:=nJ n (by omega) l l1 (by omega)
 have azq:R n 113 [ai ((h:Int)+l)] []=some (ab true,[]):=nJ n (by omega) (h+l) (by omega) (by omega)
 have g2:=aqI n (by omega) h a h1 (by omega) ha
 have tA:=aqI n (by omega) l b l1 (by omega) hb
 have e1:IntKind.i64.wrap ((h:Int)+l)=(h:Int)+l:=wrap64 (by omega) (by omega)
 have bW:a*2^l+b<2^(l+h):=by
  rw[Nat.pow_add,Nat.mul_comm a]
  have:2^l*(a+1)≤2^l*2^h:=Nat.mul_le_mul_left _ ha
  rw[Nat.mul_add] at this
  omega
 have v_:=dB (w:=l+h) (by omega)
 have hs:=I_ (x:=a) (u:=l) (by omega) (by omega)
 have ho:=wa (a:=a*2^l) (b:=b) (by omega) (by omega)
 have e2:a*2^l|||b=a*2^l+b:=by
  rw[←Nat.shiftLeft_eq,Nat.shiftLeft_add_eq_or_of_lt hb]
 rw[e2] at ho
 simp at ho hs
 simp[aa,g1,E0,azq,g2,tA,e1,hs,ho]
theorem FL(N:Nat)(hN:51≤N)(w x low many:Nat)(h1:1≤w)(hw:w≤64)(hx:x<2^w)(hm:1≤many)(hl:low+many≤w):
  R N 259 [ai w,.p (.int .u64 x),ai low,ai many] []=some (.tup [.p (.int .u64 ((x/2^low % 2^many:Nat):Int)),ai 0],[]):=by
 have aa:rows 259=_:=Zn.eq_1
 obtain⟨n,rfl⟩:=up N
 rw[aE 259 Tryz.func259 rfl rfl]
 have gm:=jr n (by omega) many
 have gc:=o8 n (by omega) w [x] h1 hw (by simpa using hx) (by simp)
 simp[us] at gc
 have v_:=dB hw
 have e1:IntKind.i64.wrap ((w:Int)-many)=(w:Int)-many:=wrap64 (by omega) (by omega)
 have c1:¬((low:Int)<0):=by omega
 have c2:¬((many:Int)<1):=by omega
 have c4:¬((w:Int)<many):=by omega
 have fF:¬(w<many):=by omega
 have c5:¬((w:Int)-many<(low:Int)):=by omega
 have hq:x/2^low≤x:=Nat.div_le_self _ _
 have EU:=eI (w:=many) hm (by omega) (x:=((x/2^low:Nat):Int)) (Int.natCast_nonneg _) (Int.lt_of_le_of_lt (Int.ofNat_le.2 hq) (by omega))
 have hs:=I7 x low
 have Lx:min low 64=low:=Nat.min_eq_left (by omega)
 rw[Int.natCast_emod,←EU]
 simp[aa,gm,gc,c1,c2,c4,fF,c5,e1,hs,Lx]
theorem pA(N:Nat)(hN:2≤N)(w x:Nat)(h1:1≤w)(hw:w≤64)(hx:x<2^w):R N 267 [ai w,.p (.int .u64 x)] []=some (ai (oe w x),[]):=by
 have aa:rows 267={}:=rfl
 obtain⟨n,rfl⟩:=up N
 rw[aE 267 Tryz.func267 rfl rfl]
 obtain⟨u,hu⟩:∃u:Nat,u=64-w:=⟨_,rfl⟩
 have e1:IntKind.i64.wrap (64-(w:Int))=(u:Int):=by rw[wrap64 (by omega) (by omega)];omega
 have Mt:2^w*2^u=18446744073709551616:=by rw[←Nat.pow_add,show w+u=64 by omega]
 have bW:x*2^u<18446744073709551616:=by
  rw[←Mt]
  exact Nat.mul_lt_mul_of_pos_right hx (Nat.pow_pos (by decide))
 have hs:=I_ (x:=x) (u:=u) bW (by omega)
 have Lx:min u 64=u:=Nat.min_eq_left (by omega)
 have hf:(IntKind.i64.wrap ((x*2^u:Nat):Int)).fdiv (2^u)=oe w x:=by
  obtain⟨m,rfl⟩:∃m,w=m+1:=⟨w-1,by omega⟩
  have e:2^(m+1)=2*2^m:=by rw[Nat.pow_succ,Nat.mul_comm]
  have c1:((2^(m+1):Nat):Int)=(2:Int)^(m+1):=by simp
  have c2:((2^u:Nat):Int)=(2:Int)^u:=by simp
  have Rx:0<2^u:=Nat.pow_pos (by decide)
  have hh:2^m*2^u=9223372036854775808:=by
   rw[e,Nat.mul_assoc] at Mt;omega
  unfold oe
  rw[←c1,←c2,Int.fdiv_eq_ediv_of_nonneg _ (Int.natCast_nonneg _)]
  simp only[Nat.add_sub_cancel]
  by_cases hl:x<2^m
  ·have:x*2^u<9223372036854775808:=by rw[←hh];exact Nat.mul_lt_mul_of_pos_right hl Rx
   rw[if_pos hl,wrap64 (by omega) (by omega),←Int.natCast_ediv,Nat.mul_div_cancel _ Rx]
  ·have h2:9223372036854775808≤x*2^u:=by rw[←hh];exact Nat.mul_le_mul_right _ (by omega)
   have h3:IntKind.i64.wrap ((x*2^u:Nat):Int)=((x*2^u:Nat):Int)-18446744073709551616:=by
    simp only[IntKind.wrap,IntKind.bits,IntKind.signed,Bool.true_and]
    generalize x*2^u=y at*
    split
    ·rename_i h;simp at h;omega
    ·rename_i h;simp at h;omega
   rw[if_neg hl,h3]
   have h4:((x*2^u:Nat):Int)-18446744073709551616=((x:Int)-((2^(m+1):Nat):Int))*((2^u:Nat):Int):=by
    rw[Int.sub_mul,←Int.natCast_mul,←Int.natCast_mul,Mt]
    rfl
   rw[h4,Int.mul_ediv_cancel _ (by omega)]
 rw[Lx] at hs
 generalize ((x*2^u:Nat):Int)=y at*
 simp[aa,e1,hs,Lx,hf]
theorem Iu(N:Nat)(hN:51≤N)(w x to:Nat)(sign:Bool)(h1:1≤w)(ht:w≤to)(hw:to≤64)(hx:x<2^w):
  R N 260 [ai w,.p (.int .u64 x),ai to,ab sign] []=some (.tup [.p (.int .u64 (vx w x to sign:Nat)),ai 0],[]):=by
 have aa:rows 260=_:=Zm.eq_1
 obtain⟨n,rfl⟩:=up N
 rw[aE 260 Tryz.func260 rfl rfl]
 have g1:=nJ n (by omega) w h1 (by omega)
 have E0:=nJ n (by omega) to (by omega) (by omega)
 have gm:=jr n (by omega) to
 have gs:=pA n (by omega) w x h1 (by omega) hx
 have gc:=o8 n (by omega) w [x] h1 (by omega) (by simpa using hx) (by simp)
 simp[us] at gc
 have e1:¬((to:Int)<w):=by omega
 have e2:¬(to<w):=by omega
 have EU:=kX (w:=to) (by omega) hw (oe w x)
 have hex:oe w x % ((2^to:Nat):Int)=(vx w x to true:Nat):=by
  have c1:((2^w:Nat):Int)=(2:Int)^w:=by simp
  obtain⟨d,rfl⟩:∃d,to=w+d:=⟨to-w,by omega⟩
  have hd:0<2^d:=Nat.pow_pos (by decide)
  have bW:=Ih w x (w+d) true hx ht
  have oL:=v7 h1 hx
  unfold bQ at oL
  unfold oe
  unfold vx at bW ⊢
  rw[←c1]
  rw[show w+d-w=d by omega] at*
  rcases oL with⟨p1,p2⟩|⟨p1,p2⟩
  ·have q:x.testBit (w-1)=false:=by
    cases hb:x.testBit (w-1)
    ·rfl
    ·rw[hb] at p1;simp at p1
   rw[q] at bW ⊢
   simp at bW ⊢
   rw[if_pos p2]
   have c3:((2^(w+d):Nat):Int)=(2:Int)^(w+d):=by simp
   rw[←c3,Int.emod_eq_of_lt (Int.natCast_nonneg _) (Int.ofNat_lt.2 bW)]
  ·have q:x.testBit (w-1)=true:=by
    cases hb:x.testBit (w-1)
    ·rw[hb] at p1;simp at p1
    ·rfl
   rw[q] at bW ⊢
   simp only[Bool.and_self,if_true] at bW ⊢
   rw[if_neg (by omega)]
   have e3:(x:Int)-((2^w:Nat):Int)=((2^w*(2^d-1)+x:Nat):Int)+((2^(w+d):Nat):Int)*(-1):=by
    rw[Nat.pow_add,Nat.mul_sub]
    have:2^w*1≤2^w*2^d:=Nat.mul_le_mul_left _ hd
    generalize 2^w*2^d=z at*
    omega
   rw[e3,Int.add_mul_emod_self_left,Int.emod_eq_of_lt (Int.natCast_nonneg _) (Int.ofNat_lt.2 bW)]
 rw[hex] at EU
 cases sign
 ·have e3:vx w x to false=x:=by simp[vx]
  rw[e3]
  simp[aa,g1,E0,gc,e1,e2]
 ·generalize vx w x to true=y at*
  generalize oe w x=z at*
  simp[aa,g1,E0,gm,gs,gc,e1,e2,EU]
theorem fD(n:Nat)(hn:60≤n)(k f w a b:Nat)(Y:Int)(hk:5≤k∧k≤18)(oN:T.muts f=false)(h1:1≤w)(hw:w≤64)(ha:a<2^w)(hb:b<2^w)
  (ho:R n 270 [.p (.int .u8 k)] []=some (.p (.fn f []),[]))
  (hf:R n f [ai w,.p (.int .u64 a),.p (.int .u64 b)] []=some (.p (.int .u64 Y),[])):
  R (n+1) 262 [.p (.int .u8 k),ai w,.p (.int .u64 a),.p (.int .u64 b)] []=some (.tup [.p (.int .u64 (mg .u64 Y (br w))),ai 0],[]):=by
 obtain⟨N,hN⟩:∃N,N=n+1:=⟨_,rfl⟩
 rw[←hN]
 have g1:=nJ n (by omega) w h1 hw
 have gm:=jr n (by omega) w
 have gc:=o8 n (by omega) w [a,b] h1 hw (by simp;omega) (by simp)
 simp[us] at gc
 have Uw:n=N-1:=by omega
 subst Uw
 have aa:rows 262=_:=Zl.eq_1
 obtain⟨n,rfl⟩:=up N
 rw[aE 262 Tryz.func262 rfl rfl]
 simp only[Nat.add_sub_cancel] at*
 simp at oN
 have c1:¬((k:Int)<5):=by omega
 have c2:¬(18<(k:Int)):=by omega
 have c3:¬(k<5):=by omega
 have c4:¬(18<k):=by omega
 simp[aa,g1,gm,gc,c1,c2,c3,c4,ho,hf,oN]
theorem Ie(N:Nat)(hN:1≤N)(b:Nat):R N 288 [.p (.int .u64 b)] []=some (.p (.int .u64 (dy b:Nat)),[]):=by
 have aa:rows 288={}:=rfl
 obtain⟨n,rfl⟩:=up N
 rw[aE 288 Tryz.func288 rfl rfl]
 unfold dy
 by_cases h:b≤64
 ·have h2:¬((64:Int)<(b:Int)):=by omega
  have h3:¬(64<b):=by omega
  simp[aa,sB,h,h2,h3]
 ·have h2:((64:Int)<(b:Int)):=by omega
  have h3:(64<b):=by omega
  simp[aa,sB,h,h2,h3]
theorem Hz(N:Nat)(hN:1≤N)(b:Bool):R N 294 [ab b] []=some (.p (.int .u64 (if b then 1 else 0)),[]):=by
 have aa:rows 294={}:=rfl
 obtain⟨n,rfl⟩:=up N
 rw[aE 294 Tryz.func294 rfl rfl]
 cases b<;>simp[aa]
theorem aby{w x:Nat}(h1:1≤w)(hw:w≤64)(v_:2^w≤18446744073709551616)(bW:x<2^w):mg .u64 (x:Int) (br w)=x:=by
 rw[eI h1 hw (Int.natCast_nonneg _) (Int.lt_of_lt_of_le (Int.ofNat_lt.2 bW) (by omega)),Int.emod_eq_of_lt (Int.natCast_nonneg _) (Int.ofNat_lt.2 bW)]
def aaA(k:Nat)(K:Int):Prop:=∀N,100≤N→∀w a b:Nat,1≤w→w≤64→a<2^w→b<2^w→R N 262 [.p (.int .u8 K),ai w,.p (.int .u64 a),.p (.int .u64 b)] []=some (.tup [.p (.int .u64 (bF k w a b)),ai 0],[])
theorem aaz(k f:Nat)(Y:Nat→Nat→Nat→Int)(hk:5≤k∧k≤18)(hm:T.muts f=false)(ho:∀n,R (n+3) 270 [.p (.int .u8 (k:Nat))] []=some (.p (.fn f []),[]))
  (hf:∀N w a b:Nat,99≤N→1≤w→w≤64→a<2^w→b<2^w→2^w≤18446744073709551616→R N f [ai w,.p (.int .u64 a),.p (.int .u64 b)] []=some (.p (.int .u64 (Y w a b)),[]))
  (he:∀w a b:Nat,1≤w→w≤64→a<2^w→b<2^w→2^w≤18446744073709551616→mg .u64 (Y w a b) (br w)=((bF k w a b:Nat):Int)):aaA k k:=by
 intro N hN w a b h1 hw ha hb
 obtain⟨m,rfl⟩:∃m,N=m+1:=⟨N-1,by omega⟩
 obtain⟨j,rfl⟩:∃j,m=j+3:=⟨m-3,by omega⟩
 rw[fD (j+3) (by omega) k f w a b _ hk hm h1 hw ha hb (ho j) (hf _ w a b (by omega) h1 hw ha hb (dB hw)),he w a b h1 hw ha hb (dB hw)]
theorem are:aaA 5 5:=
 aaz 5 281 (fun w a b=>(IntKind.u64.wrap ((a:Int)+b))) (by omega) rfl (fun n=>by kernel_rfl) (fun N w a b hN h1 hw ha hb v_=>by
  try dsimp only
  have aa:rows 281={}:=rfl
  obtain⟨n,rfl⟩:=up N
  rw[aE 281 Tryz.func281 rfl rfl]
  simp[aa]) (fun w a b h1 hw ha hb v_=>by
  try dsimp only
  rw[kX h1 hw]
  show _=(((a+b) % 2^w:Nat):Int)
  rw[Int.natCast_emod,Int.natCast_add])
theorem ard:aaA 6 6:=
 aaz 6 282 (fun w a b=>(IntKind.u64.wrap ((a:Int)-b))) (by omega) rfl (fun n=>by kernel_rfl) (fun N w a b hN h1 hw ha hb v_=>by
  try dsimp only
  have aa:rows 282={}:=rfl
  obtain⟨n,rfl⟩:=up N
  rw[aE 282 Tryz.func282 rfl rfl]
  simp[aa]) (fun w a b h1 hw ha hb v_=>by
  try dsimp only
  rw[kX h1 hw]
  show _=(((a+(2^w-b)) % 2^w:Nat):Int)
  rw[Int.natCast_emod]
  have e2:(a:Int)-b=((a+(2^w-b):Nat):Int)+((2^w:Nat):Int)*(-1):=by omega
  rw[e2,Int.add_mul_emod_self_left])
theorem arc:aaA 7 7:=
 aaz 7 283 (fun w a b=>(IntKind.u64.wrap ((a:Int)*b))) (by omega) rfl (fun n=>by kernel_rfl) (fun N w a b hN h1 hw ha hb v_=>by
  try dsimp only
  have aa:rows 283={}:=rfl
  obtain⟨n,rfl⟩:=up N
  rw[aE 283 Tryz.func283 rfl rfl]
  simp[aa]) (fun w a b h1 hw ha hb v_=>by
  try dsimp only
  rw[kX h1 hw]
  show _=((a*b % 2^w:Nat):Int)
  rw[Int.natCast_emod,Int.natCast_mul])
theorem arb:aaA 8 8:=
 aaz 8 284 (fun w a b=>(mg .u64 (a:Int) b)) (by omega) rfl (fun n=>by kernel_rfl) (fun N w a b hN h1 hw ha hb v_=>by
  try dsimp only
  have aa:rows 284={}:=rfl
  obtain⟨n,rfl⟩:=up N
  rw[aE 284 Tryz.func284 rfl rfl]
  simp[aa]) (fun w a b h1 hw ha hb v_=>by
  try dsimp only
  have bW:a&&&b<2^w:=Nat.and_lt_two_pow _ hb
  rw[yZ (by omega) (by omega),eI h1 hw (Int.natCast_nonneg _) (Int.lt_of_lt_of_le (Int.ofNat_lt.2 bW) (by omega)),Int.emod_eq_of_lt (Int.natCast_nonneg _) (Int.ofNat_lt.2 bW)]
  rfl)
theorem ara:aaA 9 9:=
 aaz 9 285 (fun w a b=>(KY .u64 (a:Int) b)) (by omega) rfl (fun n=>by kernel_rfl) (fun N w a b hN h1 hw ha hb v_=>by
  try dsimp only
  have aa:rows 285={}:=rfl
  obtain⟨n,rfl⟩:=up N
  rw[aE 285 Tryz.func285 rfl rfl]
  simp[aa]) (fun w a b h1 hw ha hb v_=>by
  try dsimp only
  have bW:a|||b<2^w:=Nat.or_lt_two_pow ha hb
  rw[wa (by omega) (by omega),eI h1 hw (Int.natCast_nonneg _) (Int.lt_of_lt_of_le (Int.ofNat_lt.2 bW) (by omega)),Int.emod_eq_of_lt (Int.natCast_nonneg _) (Int.ofNat_lt.2 bW)]
  rfl)
theorem aeM:aaA 10 10:=
 aaz 10 286 (fun w a b=>(SA .u64 (a:Int) b)) (by omega) rfl (fun n=>by kernel_rfl) (fun N w a b hN h1 hw ha hb v_=>by
  try dsimp only
  have aa:rows 286={}:=rfl
  obtain⟨n,rfl⟩:=up N
  rw[aE 286 Tryz.func286 rfl rfl]
  simp[aa]) (fun w a b h1 hw ha hb v_=>by
  try dsimp only
  have bW:a^^^b<2^w:=Nat.xor_lt_two_pow ha hb
  rw[NA (by omega) (by omega),eI h1 hw (Int.natCast_nonneg _) (Int.lt_of_lt_of_le (Int.ofNat_lt.2 bW) (by omega)),Int.emod_eq_of_lt (Int.natCast_nonneg _) (Int.ofNat_lt.2 bW)]
  rfl)
theorem aeL:aaA 11 11:=
 aaz 11 287 (fun w a b=>(IntKind.u64.wrap ((a:Int)*2^(dy b)))) (by omega) rfl (fun n=>by kernel_rfl) (fun N w a b hN h1 hw ha hb v_=>by
  try dsimp only
  have aa:rows 287={}:=rfl
  obtain⟨n,rfl⟩:=up N
  rw[aE 287 Tryz.func287 rfl rfl]
  have g:=Ie n (by omega) b
  have hp:dy b≤64:=by unfold dy;split<;>omega
  have hm:min (dy b) 64=dy b:=Nat.min_eq_left hp
  generalize dy b=p at*
  simp[aa,g,hm]) (fun w a b h1 hw ha hb v_=>by
  try dsimp only
  rw[kX h1 hw]
  show _=((a*2^dy b % 2^w:Nat):Int)
  rw[Int.natCast_emod,Int.natCast_mul]
  congr 2)
theorem aeK:aaA 12 12:=
 aaz 12 289 (fun w a b=>(((a/2^dy b:Nat):Int))) (by omega) rfl (fun n=>by kernel_rfl) (fun N w a b hN h1 hw ha hb v_=>by
  try dsimp only
  have aa:rows 289={}:=rfl
  obtain⟨n,rfl⟩:=up N
  rw[aE 289 Tryz.func289 rfl rfl]
  have g:=Ie n (by omega) b
  have hp:dy b≤64:=by unfold dy;split<;>omega
  have hm:min (dy b) 64=dy b:=Nat.min_eq_left hp
  have hs:=I7 a (dy b)
  generalize dy b=p at*
  generalize ((a/2^p:Nat):Int)=q at*
  simp[aa,g,hm,hs]) (fun w a b h1 hw ha hb v_=>by
  try dsimp only
  have hle:a/2^dy b≤a:=Nat.div_le_self _ _
  have bW:a/2^dy b<2^w:=Nat.lt_of_le_of_lt hle ha
  rw[aby h1 hw v_ bW]
  rfl)
theorem aeJ:aaA 13 13:=
 aaz 13 290 (fun w a b=>(IntKind.u64.wrap (oe w a/2^dy b))) (by omega) rfl (fun n=>by kernel_rfl) (fun N w a b hN h1 hw ha hb v_=>by
  try dsimp only
  have aa:rows 290={}:=rfl
  obtain⟨n,rfl⟩:=up N
  rw[aE 290 Tryz.func290 rfl rfl]
  have g:=Ie n (by omega) b
  have gs:=pA n (by omega) w a h1 hw ha
  have hp:dy b≤64:=by unfold dy;split<;>omega
  have hm:min (dy b) 64=dy b:=Nat.min_eq_left hp
  have c2:((2^dy b:Nat):Int)=(2:Int)^dy b:=by simp
  have hs:(oe w a).fdiv (2^dy b)=oe w a/2^dy b:=by rw[←c2,Int.fdiv_eq_ediv_of_nonneg _ (Int.natCast_nonneg _)]
  generalize dy b=p at*
  generalize oe w a/2^p=q at*
  generalize oe w a=z at*
  simp[aa,g,gs,hm,hs]) (fun w a b h1 hw ha hb v_=>by
  try dsimp only
  rw[kX h1 hw]
  show _=((r_ w a (dy b):Nat):Int)
  unfold r_
  have c1:((2^w:Nat):Int)=(2:Int)^w:=by simp
  have h0:0<2^w:=Nat.pow_pos (by decide)
  rw[←c1,Int.toNat_of_nonneg (Int.emod_nonneg _ (by omega))])
theorem aeI:aaA 14 14:=
 aaz 14 291 (fun w a b=>(((if b=0 then 18446744073709551615 else a/b:Nat):Int))) (by omega) rfl (fun n=>by kernel_rfl) (fun N w a b hN h1 hw ha hb v_=>by
  try dsimp only
  have aa:rows 291={}:=rfl
  obtain⟨n,rfl⟩:=up N
  rw[aE 291 Tryz.func291 rfl rfl]
  by_cases jC:b=0
  ·subst jC;simp[aa]
  ·have hle:a/b≤a:=Nat.div_le_self _ _
   have Rw:=f_ (a:=((a/b:Nat):Int)) (Int.natCast_nonneg _) (Int.le_of_lt_add_one (Int.lt_of_le_of_lt (Int.ofNat_le.2 hle) (by omega)))
   rw[Int.natCast_ediv] at Rw
   have nY:¬((b:Int)=0):=by omega
   simp[aa,jC,nY,Rw]) (fun w a b h1 hw ha hb v_=>by
  try dsimp only
  show _=((if b=0 then 2^w-1 else a/b:Nat):Int)
  by_cases jC:b=0
  ·rw[if_pos jC,if_pos jC,eI h1 hw (by omega) (by omega)]
   obtain⟨c,hc⟩:=Ak hw
   have h0:0<2^w:=Nat.pow_pos (by decide)
   generalize 2^w=W at*
   have e2:((18446744073709551615:Nat):Int)=((W-1:Nat):Int)+(W:Int)*((c:Int)-1):=by
    have:(18446744073709551616:Int)=(W:Int)*c:=by
     have:=congrArg (Nat.cast:Nat→Int) hc
     rw[Int.natCast_mul] at this
     exact this
    rw[Int.mul_sub,←this]
    omega
   rw[e2,Int.add_mul_emod_self_left,Int.emod_eq_of_lt (by omega) (by omega)]
  ·rw[if_neg jC,if_neg jC]
   have bW:a/b<2^w:=Nat.lt_of_le_of_lt (Nat.div_le_self _ _) ha
   exact aby h1 hw v_ bW)
theorem aeH:aaA 15 15:=
 aaz 15 292 (fun w a b=>(((if b=0 then a else a % b:Nat):Int))) (by omega) rfl (fun n=>by kernel_rfl) (fun N w a b hN h1 hw ha hb v_=>by
  try dsimp only
  have aa:rows 292={}:=rfl
  obtain⟨n,rfl⟩:=up N
  rw[aE 292 Tryz.func292 rfl rfl]
  by_cases jC:b=0
  ·subst jC;simp[aa]
  ·have nY:¬((b:Int)=0):=by omega
   have ht:(a:Int).tmod b=a % b:=Int.tmod_eq_emod_of_nonneg (by omega)
   simp[aa,jC,nY,ht]) (fun w a b h1 hw ha hb v_=>by
  try dsimp only
  show _=((if b=0 then a else a % b:Nat):Int)
  have bW:(if b=0 then a else a % b)<2^w:=by
   split
   ·exact ha
   ·exact Nat.lt_of_le_of_lt (Nat.mod_le _ _) ha
  exact aby h1 hw v_ bW)
theorem aeG:aaA 16 16:=
 aaz 16 293 (fun w a b=>(((if a=b then 1 else 0:Nat):Int))) (by omega) rfl (fun n=>by kernel_rfl) (fun N w a b hN h1 hw ha hb v_=>by
  try dsimp only
  have aa:rows 293={}:=rfl
  obtain⟨n,rfl⟩:=up N
  rw[aE 293 Tryz.func293 rfl rfl]
  have g:=Hz n (by omega)
  by_cases h:a=b
  ·subst h;simp[aa,g]
  ·have h2:decide ((a:Int)=(b:Int))=false:=decide_eq_false (by omega)
   simp[aa,g,h,h2]) (fun w a b h1 hw ha hb v_=>by
  try dsimp only
  have bW:(if a=b then 1 else 0:Nat)<2^w:=by
   have:2^1≤2^w:=Nat.pow_le_pow_right (by decide) h1
   split<;>omega
  show _=((if a=b then 1 else 0:Nat):Int)
  exact aby h1 hw v_ bW)
theorem aeF:aaA 17 17:=
 aaz 17 295 (fun w a b=>(((if a<b then 1 else 0:Nat):Int))) (by omega) rfl (fun n=>by kernel_rfl) (fun N w a b hN h1 hw ha hb v_=>by
  try dsimp only
  have aa:rows 295={}:=rfl
  obtain⟨n,rfl⟩:=up N
  rw[aE 295 Tryz.func295 rfl rfl]
  have g:=Hz n (by omega)
  by_cases h:a<b
  ·have h2:decide ((a:Int)<(b:Int))=true:=decide_eq_true (by omega)
   simp[aa,g,h,h2]
  ·have h2:decide ((a:Int)<(b:Int))=false:=decide_eq_false (by omega)
   simp[aa,g,h,h2]) (fun w a b h1 hw ha hb v_=>by
  try dsimp only
  have bW:(if a<b then 1 else 0:Nat)<2^w:=by
   have:2^1≤2^w:=Nat.pow_le_pow_right (by decide) h1
   split<;>omega
  show _=((if a<b then 1 else 0:Nat):Int)
  exact aby h1 hw v_ bW)
theorem aeE:aaA 18 18:=
 aaz 18 296 (fun w a b=>(((if oe w a<oe w b then 1 else 0:Nat):Int))) (by omega) rfl (fun n=>by kernel_rfl) (fun N w a b hN h1 hw ha hb v_=>by
  try dsimp only
  have aa:rows 296={}:=rfl
  obtain⟨n,rfl⟩:=up N
  rw[aE 296 Tryz.func296 rfl rfl]
  have g:=Hz n (by omega)
  have gs:=pA n (by omega) w a h1 hw ha
  have gs':=pA n (by omega) w b h1 hw hb
  generalize oe w a=x at*
  generalize oe w b=y at*
  by_cases h:x<y
  ·simp[aa,g,gs,gs',h]
  ·simp[aa,g,gs,gs',h]) (fun w a b h1 hw ha hb v_=>by
  try dsimp only
  have bW:(if oe w a<oe w b then 1 else 0:Nat)<2^w:=by
   have:2^1≤2^w:=Nat.pow_le_pow_right (by decide) h1
   split<;>omega
  show _=((if oe w a<oe w b then 1 else 0:Nat):Int)
  exact aby h1 hw v_ bW)
end Go.En.V
