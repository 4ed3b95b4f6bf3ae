/- Part of the proof of CallingFills: engine, contracts or law, joined by a program from the texts X81 Y26. -/
import Derived.Test.YtlcechkalldhfaaGreatDoorKal
set_option linter.all false
set_option maxRecDepth 100000
set_option maxHeartbeats 4000000
namespace Go.En.V
open Go.Proofs
mutual
def bh:Tr→Tr
 | .mk k w b n l _ s=>.mk k w b n l false (qc s)
def qc:List Tr→List Tr
 |[]=>[]
 |x::r=>bh x::qc r
end
theorem SL(l:List Tr):qc l=l.map bh:=by
 induction l with
 |nil=>rfl
 |cons x r ih=>simp[qc,ih]
theorem jI(t:Tr):bh t=.mk t.kind t.width t.bits t.name t.low false (t.sub.map bh):=by
 cases t;simp only[bh,SL,Tr.kind,Tr.width,Tr.bits,Tr.name,Tr.low,Tr.sub]
theorem bA(k w b:Int)(n:ByteArray)(l:Int)(z:Bool)(s:List Tr):aC (.mk k w b n l z s)=[.int .u8 k,.int .i64 w,.int .u64 b,.str n,.int .i64 l,fg z (s.map aT)]:=by
 rw[ae];rfl
theorem N':∀(d N:Nat) (t:Tr),Dp d t→d+1100≤N→R N 171 [ag (aC t)] []=some (ag (aC (bh t)),[]):=by
 intro d
 induction d with
 |zero=>intro N t h;exact h.elim
 |succ d ih=>
  intro N t ht hN
  have hl:=ht.1
  have aa:rows 171=_:=ZT.eq_1
  obtain⟨n,rfl⟩:=up N
  rw[aE 171 Tryz.func171 rfl rfl]
  simp[aa]
  rw[abC t.sub.length (fun k=>⟨[(1,.ref 0 0),(2,.ref 1 0),(3,.arr 2 k 0 k),(7,.p (fg t.z (t.sub.map aT))),(8,ai t.sub.length),(9,ai k)],
     [bx (aC t),.box [.p (.int .u8 0),ai 0,.p (.int .u64 0),.p (.str ⟨#[]⟩),ai 0,.p .nils],.arr k 6 false (((t.sub.take k).map bh).map aT)]⟩) (by omega) (by simp[aa]) (by
     intro k h K
     have w1:=aA h (by omega)
     obtain⟨x,hx,_,hm⟩:=ay h
     have bI:=ih n x (ht.2 x hm) (by omega)
     have b1:(k+1)*72≤1099511627776:=by omega
     have b2:k+1≤1099511627776:=by omega
     have e:(t.sub.take (k+1)).map bh=(t.sub.take k).map bh++[bh x]:=by
      rw[List.take_succ_eq_append_getElem h,hx h];simp
     rw[e]
     have hlen:((t.sub.take k).map bh).length=k:=by simp;omega
     generalize (t.sub.take k).map bh=A at*
     simp[aa,h,hx,bX t.z h,bI,w1,b1,b2,hlen]
     try rfl) (by simp[aa])]
  rw[jI,bA]
  simp[aa,ae t]
theorem OP:∀(d N:Nat) (t:Tr),Dp d t→d+1100≤N→R N 162 [ag (aC t)] []=some (ag (aC (bh t)),[]):=by
 intro d
 induction d with
 |zero=>intro N t h;exact h.elim
 |succ d ih=>
  intro N t ht hN
  have hl:=ht.1
  have aa:rows 162=_:=ZW.eq_1
  obtain⟨n,rfl⟩:=up N
  rw[aE 162 Tryz.func162 rfl rfl]
  simp[aa]
  simp[aa,qo,nw]
  rw[abC t.sub.length (fun k=>⟨[(1,.ref 0 0),(2,.ref 1 0),(3,.ref 2 0),(4,ai k)],
     [bx (aC t),.box [.p (.int .u8 0),ai 0,.p (.int .u64 0),.p (.str ⟨#[]⟩),ai 0,.p .nils],.box [.p (.int .u8 t.kind),ai t.width,.p (.int .u64 t.bits),.p (.str t.name),ai t.low,.arr 3 k 0 k],.arr k 6 false (((t.sub.take k).map bh).map aT)]⟩) (by omega) (by simp[aa]) (by
     intro k h K
     have w1:=aA h (by omega)
     obtain⟨x,hx,_,hm⟩:=ay h
     have bI:=ih n x (ht.2 x hm) (by omega)
     have b1:(k+1)*72≤1099511627776:=by omega
     have b2:k+1≤1099511627776:=by omega
     have e:(t.sub.take (k+1)).map bh=(t.sub.take k).map bh++[bh x]:=by
      rw[List.take_succ_eq_append_getElem h,hx h];simp
     rw[e]
     have hlen:((t.sub.take k).map bh).length=k:=by simp;omega
     generalize (t.sub.take k).map bh=A at*
     simp[aa,h,hx,bX t.z h,bI,w1,b1,b2,hlen]
     try rfl) (by simp[aa])]
  rw[jI,bA]
  simp[aa]
theorem Wd(N:Nat)(a b:List Int)(h:a.length+1<N)(hl:a.length≤1000000):R N 29 [.p (ints a),.p (ints b)] []=some (ab (decide (a=b)),[]):=by
 have aa:rows 29=_:=w29.eq_1
 obtain⟨n,rfl⟩:=up N
 rw[aE 29 Tryz.func29 rfl rfl]
 by_cases eV:a.length=b.length
 ·simp[aa,eV]
  rw[acI a.length (fun k=> !decide (nth a k=nth b k)) (fun k=>⟨[(0,.p (ints a)),(1,.p (ints b)),(4,ab false),(5,ai k)],[]⟩)
   (fun k=>(.ret,⟨[(0,.p (ints a)),(1,.p (ints b)),(4,ab false),(5,ai k)],[]⟩)) (by omega) (by simp) (by
     intro k h K
     have w1:=aA h hl
     obtain⟨x,hx,bI,_⟩:=ay h
     obtain⟨y,hy,dV,_⟩:=ay (l:=b) (k:=k) (by omega)
     rw[bI,dV]
     by_cases hp:x=y<;>simp[aa,h,eV ▸ h,hx,hy,hp,w1]) (by simp)]
  have e:(decide (a=b))= !((List.range a.length).any fun k=> !decide (nth a k=nth b k)):=by
   rw[Bool.eq_iff_iff]
   simp only[decide_eq_true_eq,Bool.not_eq_true',List.any_eq_false,List.mem_range,Bool.not_eq_true,Bool.not_eq_false',decide_eq_true_eq]
   constructor
   ·rintro rfl x _;simp
   ·intro e
    apply List.ext_getElem eV
    intro i h1 h2
    have:=e i h1
    simpa [bq _ _ h1,bq _ _ h2] using this
  rw[e]
  rcases ao (fun k:Nat=> !decide (nth a k=nth b k)) (List.range a.length) with⟨e1,e2,_⟩|⟨i,e1,e2,_⟩<;>simp[aa,e1,e2]
 ·have e:decide (a=b)=false:=decide_eq_false (fun h=>eV (by rw[h]))
  have acW:¬(a.length:Int)=(b.length:Int):=by omega
  simp[aa,eV,acW,e]
theorem SI(N:Nat)(a b:XW)(h:a.args.length+2<N)(hl:a.args.length≤1000000):R N 13 [ag (abm a),ag (abm b)] []=some (ab (aj (decide (a.instr=b.instr)) (decide (a.args=b.args))),[]):=by
 have aa:rows 13={}:=rfl
 obtain⟨n,rfl⟩:=up N
 rw[aE 13 Tryz.func13 rfl rfl]
 have g:=Wd n a.args b.args (by omega) hl
 by_cases h:a.instr=b.instr<;>simp[aa,g,h]
theorem L6(N:Nat)(h:3≤N):R N 13 [.agg [ai 0,.p .nils],.agg [ai 0,.p .nils]] []=some (ab true,[]):=by
 have g:∀n,2≤n→R n 29 [.p .nils,.p .nils] []=some (ab true,[]):=by
  intro N hN
  have aa:rows 29=_:=w29.eq_1
  obtain⟨n,rfl⟩:=up N
  rw[aE 29 Tryz.func29 rfl rfl]
  simp[aa]
  rw[abC 0 (fun k=>⟨[(0,.p .nils),(1,.p .nils),(4,ab false),(5,ai 0)],[]⟩) (by omega) (by simp[aa]) (by intro k h;omega) (by intro K;simp[aa])]
  simp[aa]
 have aa:rows 13={}:=rfl
 obtain⟨n,rfl⟩:=up N
 rw[aE 13 Tryz.func13 rfl rfl]
 simp[aa,g n (by omega)]
def vR(to eE link num a:Int):Int:=if a=-1 then to else if a=-2 then eE else if a=-3 then link else if a=-4 then num else a
theorem U3(N:Nat)(c:Conv)(t:gf)(to eE num:Int)(ht:t.args.length≤100)(hN:200≤N):R N 27 [ag (ax c),ag (bm t),ai to,ai eE,ai num] []=some (.agg [ai t.instr,.p (ints (t.args.map (vR to eE c.stack num)))],[]):=by
 have aa:rows 27=_:=w27.eq_1
 obtain⟨n,rfl⟩:=up N
 rw[aE 27 Tryz.func27 rfl rfl]
 simp[aa]
 simp[aa,qo,nw]
 rw[abC t.args.length (fun k=>⟨[(2,ai to),(3,ai eE),(4,ai num),(5,.ref 0 0),(6,.ref 1 0),(10,.ref 2 0),(11,.ref 3 0),(12,ai k)],[bx (ax c),bx (bm t),.box [ai 0,.p .nils],.box [ai t.instr,.arr 4 k 0 k],.arr k 1 false (((t.args.take k).map (vR to eE c.stack num)).map i64)]⟩) (by omega) (by simp[aa]) (by
     intro k h K
     have w1:=aA h (by omega)
     obtain⟨x,hx,_,hm⟩:=ay h
     have b1:(k+1)*8≤1099511627776:=by omega
     have b2:k+1≤1099511627776:=by omega
     have e:(t.args.take (k+1)).map (vR to eE c.stack num)=(t.args.take k).map (vR to eE c.stack num)++[vR to eE c.stack num x]:=by
      rw[List.take_succ_eq_append_getElem h,hx h];simp
     rw[e]
     have hlen:((t.args.take k).map (vR to eE c.stack num)).length=k:=by simp;omega
     generalize (t.args.take k).map (vR to eE c.stack num)=A at*
     by_cases h1:x=-1
     ·simp[aa,h,hx,w1,b1,b2,hlen,vR,h1]
     ·by_cases h2:x=-2
      ·simp[aa,h,hx,w1,b1,b2,hlen,vR,h2]
      ·by_cases h3:x=-3
       ·simp[aa,h,hx,w1,b1,b2,hlen,vR,h3]
       ·by_cases h4:x=-4<;>simp[aa,h,hx,w1,b1,b2,hlen,vR,h1,h2,h3,h4]) (by simp[aa])]
 simp[aa]
end Go.En.V
