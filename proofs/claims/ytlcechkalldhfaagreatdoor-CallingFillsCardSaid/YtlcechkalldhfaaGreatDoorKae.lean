/- Part of the proof of CallingFills: engine, contracts or law, joined by a program from the texts X9 X10 X11 X12 X13 X14 X15 X16 X17 X18. -/
import Derived.Test.YtlcechkalldhfaaGreatDoorKad
set_option linter.all false
set_option maxRecDepth 100000
set_option maxHeartbeats 4000000
namespace Go.En.V
open Go.Proofs
theorem NS{σ:Type}{Hs:σ→Hp→Prop}{base id d0:Nat}{step:σ→Tr→Bool×σ}(hC:Client σ Hs base)(aH:id<base){d:Nat}
  (hy:∀M s h t,d0≤M→Dp d t→Hs s h→∃h',Y M id [ag (aC t)] h=some ((step s t).1,h')∧Hs (step s t).2 h'∧h.length≤h'.length∧∀i,base≤i→i<h.length→h'.at i=h.at i):
  ∀(k N:Nat) (s:σ) (h:Hp) (t:Tr),k≤d→Dp k t→d0+k+1002≤N→Hs s h→
   ∃h',R N 184 [ag (aC t),.yl id] h=some (ab (jH step s t).1,h')∧Hs (jH step s t).2 h'∧h'.length=h.length:=by
 intro k
 induction k with
 |zero=>intro N s h t _ ht;exact ht.elim
 |succ k ih=>
  intro N s h t hk ht hN hs
  have aa:rows 184=_:=NK.eq_1
  obtain⟨n,rfl⟩:=up N
  rw[aE 184 Tryz.func184 rfl rfl]
  have hb:=hC.len s h hs
  have nY:=hC.box s h (aC t) hs
  obtain⟨h1,y1,y2,y3,y4⟩:=hy n s _ t (by omega) (ht.mono hk) nY
  have y4:=y4 h.length hb (by simp)
  rw[ki] at y4
  rw[nf]
  cases e:step s t with
  |mk b s1=>
   rw[e] at y1 y2
   cases b with
   |false=>
    simp at y3
    refine⟨(h1.map (eS h.length)).take h.length, ?_,hC.low _ _ _ y2 hb (by omega),by simp;omega⟩
    simp[aa,ki,y1]
    omega
   |true=>
    simp at y3 y2
    simp[aa,ki,y1,y4]
    have ux:id<h1.length:=by omega
    generalize hr:iter _ _ _ _ _=r
    have key:∃h',((fm step s1 t.sub).1=true∧r=some (.exit 0,⟨[(1,.yl id),(4,ab false),(12,.p (fg t.z (t.sub.map aT))),(13,ai t.sub.length),(14,ai t.sub.length)],h'⟩)∨
      ((fm step s1 t.sub).1=false∧∃j:Int,r=some (.ret,⟨[(1,.yl id),(4,ab false),(12,.p (fg t.z (t.sub.map aT))),(13,ai t.sub.length),(14,ai j)],h'⟩)))∧
      Hs (fm step s1 t.sub).2 h'∧h'.length=h1.length:=by
     rw[←hr]
     refine mE t.sub.length (fun k s=>∃h' s',s=⟨[(1,.yl id),(4,ab false),(12,.p (fg t.z (t.sub.map aT))),(13,ai t.sub.length),(14,ai k)],h'⟩∧Hs s' h'∧h'.length=h1.length∧fm step s' (t.sub.drop k)=fm step s1 t.sub)
      (fun r=>∃h',((fm step s1 t.sub).1=true∧r=some (.exit 0,⟨[(1,.yl id),(4,ab false),(12,.p (fg t.z (t.sub.map aT))),(13,ai t.sub.length),(14,ai t.sub.length)],h'⟩)∨
      ((fm step s1 t.sub).1=false∧∃j:Int,r=some (.ret,⟨[(1,.yl id),(4,ab false),(12,.p (fg t.z (t.sub.map aT))),(13,ai t.sub.length),(14,ai j)],h'⟩)))∧
      Hs (fm step s1 t.sub).2 h'∧h'.length=h1.length) ?_ ?_ (by have:=ht.1;omega) ?_
     ·rintro k _ K hk ⟨h2,s2,rfl,i1,i2,i3⟩ hK
      obtain⟨x,hx,_,hm⟩:=ay hk
      have w1:=aA hk (by have:=ht.1;omega)
      have e1:fg t.z (t.sub.map aT)=.sl (t.sub.map aT):=kF _ _ (by intro e;rw[List.map_eq_nil_iff] at e;rw[e] at hk;cases hk)
      obtain⟨h3,z1,z2,z3⟩:=ih n s2 (h2++[bx (aC x)]) x (by omega) (ht.2 x hm) (by omega) (hC.box _ _ _ i1)
      rw[List.drop_eq_getElem_cons hk,hx hk] at i3
      simp only[fm] at i3
      have Sb:h3.length=h1.length+1:=by simp[z3,i2]
      have a2:∀o,Hp.at (h2++[o]) h1.length=o:=fun o=>by rw[←i2,ki]
      have a3:∀o o',(h2++[o]).set h1.length o'=h2++[o']:=fun o o'=>by rw[←i2,DE]
      cases ev:jH step s2 x with
      |mk b s3=>
       rw[ev] at z1 z2 i3
       cases b with
       |false=>
        simp only at i3
        refine⟨(h3.map (eS h1.length)).take h1.length,.inr ⟨by rw[←i3],(k:Int), ?_⟩,by rw[←i3];exact hC.low _ _ _ z2 (by omega) (by omega),by simp;omega⟩
        simp[aa,e1,hk,hx,a2,a3,z1,i2,ux]
       |true=>
        simp only at i3
        simp[aa,e1,hk,hx,a2,a3,z1,w1,i2,ux]
        have hK:=hK _ ⟨_,s3,rfl,hC.low _ _ h1.length z2 (by omega) (by omega),by simp;omega,i3⟩
        simpa [e1] using hK
     ·rintro _ K ⟨h2,s2,rfl,i1,i2,i3⟩
      simp[fm] at i3
      refine⟨(h2.map (eS h1.length)).take h1.length,.inl ⟨by rw[←i3], ?_⟩,by rw[←i3];exact hC.low _ _ _ i1 (by omega) (by omega),by simp;omega⟩
      simp[aa,ux]
     ·refine⟨(h1.map (eS h1.length)).take h1.length,s1, ?_,hC.low _ _ _ y2 (by omega) (by omega),by simp,by simp⟩
      simp[ux]
    obtain⟨h',k1,k2,k3⟩:=key
    refine⟨(h'.map (eS h.length)).take h.length, ?_,hC.low _ _ _ k2 hb (by omega),by simp;omega⟩
    rcases k1 with⟨k4,rfl⟩|⟨k4,j,rfl⟩
    ·simp[k4];omega
    ·simp[k4];omega
theorem IA(n id:Nat)(a:List AV)(h:Hp):Y (n+1) id a h=tC T fs (R n) (Y n) n id a h:=rfl
def aaT(id m:Nat)(r:Option (Ex×St)):Option (Bool×Hp):=QK r fun e s=>if m≤s.hp.length then gC id e s.hp else none
def aaS(x:X)(id m:Nat)(b:Code)(tm:Tm)(r:Option Hp):Option (Bool×Hp):=aQ r fun h=>aaT id m (ia x b 0 ⟨tm,h⟩)
@[simp] theorem agr(x:X)(id m:Nat)(b:Code)(tm:Tm)(h:Hp):aaS x id m b tm (some h)=aaT id m (ia x b 0 ⟨tm,h⟩):=rfl
def alU(x:X)(id m:Nat)(b:Code)(r:Option (Ex×St)):Option (Bool×Hp):=QK r fun e s=>match e with
 | .nor=>aaS x id m b s.tm (kK id s.hp)
 |_=>none
@[simp] theorem ags(id m:Nat)(e:Ex)(s:St):aaT id m (some (e,s))=if m≤s.hp.length then gC id e s.hp else none:=rfl
@[simp] theorem alT(x:X)(id m:Nat)(b:Code)(s:St):alU x id m b (some (.nor,s))=aaS x id m b s.tm (kK id s.hp):=rfl
theorem xc(x:X)(id:Nat)(xs:List AV)(h:Hp)(tm:Tm)(l:List Nat×Code×Code):round x id xs h tm l=
  if xs.length=l.1.length∧l.1.all (fun p=>decide (p<x.nt))=true then alU x id h.length l.2.2 (ia x l.2.1 0 ⟨ns tm l.1 xs,h⟩) else none:=by
 simp only[round]
 split
 ·match ia x l.2.1 0 ⟨ns tm l.1 xs,h⟩ with
  |none=>rfl
  |some (.nor,s)=>rfl
  |some (.exit _,s)=>rfl
  |some (.ret,s)=>rfl
 ·rfl
theorem Pj{f h_:Nat}{fn:Func}{c:Code}{l:List Nat×Code×Code}(h1:fs f=some fn)(h2:fn.body=some c)(h3:((cK c 0).find? fun r=>r.1==h_).map (·.2)=some l):T.loops f h_=some l:=by
 show pM fs f h_=_
 rw[pM,h1,Option.bind_some,h2,Option.bind_some,h3]
theorem tB{n id:Nat}{a:List AV}{h:Hp}{f h_:Nat}{tm:Tm}{l:List Nat×Code×Code}{fn:Func}{nt:Nat}{c:Code}(h1:h.at id=.loop .ready f h_ tm)(h2:fs f=some fn)(h3:fn.body=some c)
  (h4:((cK c 0).find? fun r=>r.1==h_).map (·.2)=some l)(h5:fn.ntmps=nt):
  tC T fs (R n) (Y n) n id a h=round ⟨T,R n,Y n,f,nt,n,true⟩ id a h tm l:=by
 subst h5
 simp only[tC,h1,Pj h2 h3 h4,h2,aN]
attribute [simp] ns
@[simp] theorem R4(id:Nat)(h:Hp):kK id h=match h.at id with| .loop .ready f h_ tm=>some (h.set id (.loop .busy f h_ tm))|_=>none:=rfl
@[simp] theorem Ti(id:Nat)(h:Hp):gC id .nor h=match h.at id with| .loop .busy f h_ tm=>some (true,h.set id (.loop .ready f h_ tm))|_=>none:=by
  simp only[gC];rfl
@[simp] theorem Th(id:Nat)(h:Hp):gC id .ret h=match h.at id with| .loop .busy f h_ tm=>some (false,h.set id (.loop (.done .ret) f h_ tm))|_=>none:=by
  simp only[gC];rfl
@[simp] theorem R3(id j:Nat)(h:Hp):gC id (.exit j) h=match h.at id with| .loop .busy f h_ tm=>some (false,h.set id (.loop (.done (.exit j)) f h_ tm))|_=>none:=by
  simp only[gC];rfl
theorem ss(N:Nat)(hN:1≤N)(t:Tr):R N 167 [ag (aC t)] []=some (.p (.fn 183 [.ptr (aC t) 0]),[]):=by
 have aa:rows 167={}:=rfl
 obtain⟨n,rfl⟩:=up N
 rw[aE 167 Tryz.func167 rfl rfl]
 simp[aa]
theorem K9{σ:Type}{Hs:σ→Hp→Prop}{base id d0:Nat}{step:σ→Tr→Bool×σ}(hC:Client σ Hs base)(aH:id<base){d:Nat}
  (hy:∀M s h t,d0≤M→Dp d t→Hs s h→∃h',Y M id [ag (aC t)] h=some ((step s t).1,h')∧Hs (step s t).2 h'∧h.length≤h'.length∧∀i,base≤i→i<h.length→h'.at i=h.at i)
  (N:Nat)(s:σ)(h:Hp)(t:Tr)(ht:Dp d t)(hN:d0+d+1003≤N)(hs:Hs s h):
    ∃h',R N 183 [.yl id,.p (.ptr (aC t) 0)] h=some (.tup [],h')∧Hs (jH step s t).2 h'∧h'.length=h.length:=by
 have aa:rows 183={}:=rfl
 obtain⟨n,rfl⟩:=up N
 rw[aE 183 Tryz.func183 rfl rfl]
 obtain⟨h1,y1,y2,y3⟩:=NS hC aH hy d n s h t (Nat.le_refl _) ht (by omega) hs
 have hb:=hC.len s h hs
 refine⟨(h1.map (eS h.length)).take h.length, ?_,hC.low _ _ _ y2 hb (by omega),by simp;omega⟩
 simp[aa,y1,y3]
abbrev aam(t:Tr):Tm:=[(0,ag (aC t)),(1,.ref 0 0),(2,ai 0),(3,.ref 1 0),(4,ag (aC t)),(5,.p (.fn 183 [.ptr (aC t) 0]))]
def af7(t:Tr)(s:Int)(h:Hp):Prop:=∃bs,h=[bx (aC t),.box [ai s],.loop .ready 165 0 (aam t)]++boxes bs
theorem gT(bs:List (List PV))(l:List PV):boxes bs++[bx l]=boxes (bs++[l]):=by simp[boxes]
theorem rI(bs:List (List PV))(m k:Nat):((boxes bs).map (eS m)).take k=boxes (bs.take k):=by
 simp[boxes,List.map_take,Function.comp_def]
theorem Sy(t:Tr)(d:Nat):∀M s h x,1≤M→Dp d x→af7 t s h→∃h',Y M 2 [ag (aC x)] h=some ((Il s x).1,h')∧af7 t (Il s x).2 h'∧h.length≤h'.length∧∀i,3≤i→i<h.length→h'.at i=h.at i:=by
 rintro M s _ x hM _ ⟨bs,rfl⟩
 obtain⟨n,rfl⟩:∃n,M=n+1:=⟨M-1,by omega⟩
 have aa:rows 165={}:=rfl
 refine⟨[bx (aC t),.box [ai (Il s x).2],.loop .ready 165 0 (aam t)]++boxes bs, ?_,⟨bs,rfl⟩,by simp,fun i hi _=> ?_⟩
 ·rw[IA,tB (fn:=Tryz.f165) rfl (show fs 165=some Tryz.f165 from Tryz.func165) rfl rfl rfl,xc]
  simp[aa,Il]
 ·match i,hi with
  |i+3,_=>rfl
theorem Qx(t:Tr):Client Int (af7 t) 3:=by
 refine⟨?_, ?_, ?_⟩
 ·rintro s _ l ⟨bs,rfl⟩
  exact⟨bs++[l],by rw[List.append_assoc,gT]⟩
 ·rintro s _ m ⟨bs,rfl⟩ h1 h2
  obtain⟨m,rfl⟩:∃k,m=k+3:=⟨m-3,by omega⟩
  refine⟨bs.take m, ?_⟩
  rw[←rI bs (m+3) m]
  simp[eS,cA]
 ·rintro s _ ⟨bs,rfl⟩;simp
theorem Vt(N d:Nat)(t:Tr)(ht:Dp d t)(hN:d+1010≤N)(hs:aF t≤1000000):R N 165 [ag (aC t)] []=some (ai (aF t),[]):=by
 have aa:rows 165={}:=rfl
 obtain⟨n,rfl⟩:=up N
 rw[aE 165 Tryz.func165 rfl rfl]
 obtain⟨h',y1,⟨bs,rfl⟩,y3⟩:=K9 (Qx t) (id:=2) (by omega) (Sy t d) n 0 _ t ht (by omega) ⟨[],rfl⟩
 have hb:bs=[]:=by
  apply List.eq_nil_of_length_eq_zero
  simpa [boxes] using y3
 subst hb
 simp[boxes] at y1
 have hn:=ss n (by omega) t
 have hc:=W_ t 0 (by omega) (by omega)
 simp[hc,aam] at y1
 simp[aa,hn,y1]
theorem se:∀(d N:Nat) (t:Tr),Dp d t→d+1004≤N→aF t≤1000000→R N 32 [ag (aC t)] []=some (ai (aF t),[]):=by
 intro d
 induction d with
 |zero=>intro N t h;exact h.elim
 |succ d ih=>
  intro N t ht hN hs
  have hl:=ht.1
  rw[bz] at hs
  have aa:rows 32=_:=w32.eq_1
  obtain⟨n,rfl⟩:=up N
  rw[aE 32 Tryz.func32 rfl rfl]
  simp[aa]
  rw[av t.sub.length (fun k=>⟨[(1,.ref 0 0),(3,ai (1+bM (t.sub.take k):Nat)),(4,ai k)],[bx (aC t)]⟩)
   (.exit 0,⟨[(1,.ref 0 0),(3,ai (aF t)),(4,ai t.sub.length)],[bx (aC t)]⟩) (by omega) (by simp[bM]) (by
     intro k h K
     have w1:=aA h (by omega)
     obtain⟨x,hx,_,hm⟩:=ay h
     have h1:=kG hm
     have h2:=DB t.sub (k+1)
     rw[qG h hx] at h2
     have w2:IntKind.i64.wrap (1+(bM (t.sub.take k):Int)+(aF x:Int))=1+((bM (t.sub.take k):Int)+(aF x:Int)):=by
      rw[wrap64 (by omega) (by omega)];omega
     have bI:=ih n x (ht.2 x hm) (by omega) (by omega)
     simp[aa,h,hx,bX t.z h,bI,w1,w2,qG h hx]) (by simp[bz])]
  simp
theorem KO:∀(d N:Nat) (t:Tr),Dp d t→d+1004≤N→d≤1000000→R N 175 [ag (aC t)] []=some (ai (eg t),[]):=by
 intro d
 induction d with
 |zero=>intro N t h;exact h.elim
 |succ d ih=>
  intro N t ht hN hs
  have hl:=ht.1
  have hd:=ht.dep
  rw[eT] at hd
  have aa:rows 175=_:=ZR.eq_1
  obtain⟨n,rfl⟩:=up N
  rw[aE 175 Tryz.func175 rfl rfl]
  simp[aa]
  rw[abC t.sub.length (fun k=>⟨[(1,.ref 0 0),(3,ai (dt (t.sub.take k))),(4,ai k)],[bx (aC t)]⟩) (by omega) (by simp[dt]) (by
     intro k h K
     have w1:=aA h (by omega)
     obtain⟨x,hx,_,hm⟩:=ay h
     have bI:=ih n x (ht.2 x hm) (by omega) (by omega)
     have e:(if dt (t.sub.take k)<eg x then(eg x:Int) else(dt (t.sub.take k):Int))=((max (dt (t.sub.take k)) (eg x):Nat):Int):=by
      split<;>omega
     simp[aa,h,hx,bX t.z h,bI,w1,AX h hx,sB,e]) (by simp)]
  have w2:IntKind.i64.wrap ((dt t.sub:Int)+1)=(dt t.sub:Int)+1:=wrap64 (by omega) (by omega)
  simp[w2,eT]
theorem RY:∀(d N:Nat) (t:Tr),Dp d t→d+1004≤N→d≤1000000→R N 166 [ag (aC t)] []=some (ai (eg t),[]):=by
 intro d
 induction d with
 |zero=>intro N t h;exact h.elim
 |succ d ih=>
  intro N t ht hN hs
  have hl:=ht.1
  have hd:=ht.dep
  rw[eT] at hd
  have aa:rows 166=_:=ZV.eq_1
  obtain⟨n,rfl⟩:=up N
  rw[aE 166 Tryz.func166 rfl rfl]
  simp[aa]
  rw[abC t.sub.length (fun k=>⟨[(3,ai (dt (t.sub.take k))),(7,.p (fg t.z (t.sub.map aT))),(8,ai t.sub.length),(9,ai k)],[bx (aC t)]⟩) (by omega) (by simp[dt]) (by
     intro k h K
     have w1:=aA h (by omega)
     obtain⟨x,hx,_,hm⟩:=ay h
     have bI:=ih n x (ht.2 x hm) (by omega) (by omega)
     have e:(if dt (t.sub.take k)<eg x then(eg x:Int) else(dt (t.sub.take k):Int))=((max (dt (t.sub.take k)) (eg x):Nat):Int):=by
      split<;>omega
     simp[aa,h,hx,bX t.z h,bI,w1,AX h hx,sB,e]) (by simp)]
  have w2:IntKind.i64.wrap ((dt t.sub:Int)+1)=(dt t.sub:Int)+1:=wrap64 (by omega) (by omega)
  simp[w2,eT]
mutual
def sF:Tr→Bool
 | .mk _ _ _ n _ _ s=>Ek s||decide (200<(n.size:Int))
def Ek:List Tr→Bool
 |[]=>false
 |x::r=>sF x||Ek r
end
theorem Pl(t:Tr):sF t=(Ek t.sub||decide (200<(t.name.size:Int))):=by cases t;rfl
theorem Lh(l:List Tr):Ek l=l.any sF:=by
 induction l with
 |nil=>rfl
 |cons x l ih=>simp[Ek,ih]
theorem OI:∀(d N:Nat) (t:Tr),Dp d t→d+1004≤N→R N 31 [ag (aC t)] []=some (ab (sF t),[]):=by
 intro d
 induction d with
 |zero=>intro N t h;exact h.elim
 |succ d ih=>
  intro N t ht hN
  have hl:=ht.1
  have aa:rows 31=_:=w31.eq_1
  obtain⟨n,rfl⟩:=up N
  rw[aE 31 Tryz.func31 rfl rfl]
  simp[aa]
  rw[abD t.sub sF (fun k=>⟨[(1,.ref 0 0),(2,ab false),(3,ai k)],[bx (aC t)]⟩)
   (fun k=>(.ret,⟨[(1,.ref 0 0),(2,ab true),(3,ai k)],[bx (aC t)]⟩)) (by omega) (by simp) (by
     intro k x h hx _ hm K
     have w1:=aA h (by omega)
     have bI:=ih n x (ht.2 x hm) (by omega)
     cases hp:sF x<;>rw[hp] at bI<;>simp[aa,h,hx,bX t.z h,bI,w1]) (by simp)]
  rw[Pl,Lh]
  rcases ao sF t.sub with⟨e1,e2,_⟩|⟨i,e1,e2,_⟩<;>simp[e1,e2]
def rE(f:Int→Tr→Int×Bool)(ft:Int):Int→List Tr→Int×Bool
 |n,[]=>(n,true)
 |n,x::r=>if n≤ft then(if (f (ft-n) x).2=true then rE f ft (n+(f (ft-n) x).1) r else(n,false)) else(n,true)
def dR:Nat→Int→Tr→Int×Bool
 |0,_,_=>(1,false)
 |d+1,ft,t=>rE (dR d) ft 1 t.sub
theorem yJ{f:Int→Tr→Int×Bool}{ft:Int}(hf:∀l x,0≤l→1≤(f l x).1∧(f l x).1≤l+1):∀(l:List Tr) (n:Int),1≤n→n≤ft+1→1≤(rE f ft n l).1∧(rE f ft n l).1≤ft+1
 |[],n,h1,h2=>⟨h1,h2⟩
 |x::r,n,h1,h2=>by
  simp only[rE]
  split
  ·rename_i h
   have:=hf (ft-n) x (by omega)
   split
   ·exact yJ hf r _ (by omega) (by omega)
   ·exact⟨h1,h2⟩
  ·exact⟨h1,h2⟩
theorem rD:∀(d:Nat) (ft:Int) (t:Tr),0≤ft→1≤(dR d ft t).1∧(dR d ft t).1≤ft+1
 |0,ft,_,h=>⟨Int.le_refl _,by simp only[dR];omega⟩
 |d+1,ft,t,h=>yJ (fun l x hl=>rD d l x hl) t.sub 1 (Int.le_refl _) (by omega)
theorem Qt:∀(d N:Nat) (t:Tr) (ft:Int),0≤ft→ft≤100000→d≤1000→d+ft.toNat+1004≤N→
  R N 30 [ag (aC t),ai ft,ai d] []=some (.tup [ai (dR d ft t).1,ab (dR d ft t).2],[]):=by
 intro d
 induction d with
 |zero=>
  intro N t ft h0 h1 hd hN
  have aa:rows 30=_:=U'.eq_1
  obtain⟨n,rfl⟩:=up N
  rw[aE 30 Tryz.func30 rfl rfl]
  simp[aa,dR]
 |succ d ih=>
  intro N t ft h0 h1 hd hN
  have aa:rows 30=_:=U'.eq_1
  obtain⟨n,rfl⟩:=up N
  rw[aE 30 Tryz.func30 rfl rfl]
  have hd0:¬((d:Int)+1=0):=by omega
  have hd1:IntKind.i64.wrap (d:Int)=d:=wrap64 (by omega) (by omega)
  simp[aa,hd0]
  generalize hr:iter _ _ _ _ _=r
  have key:(∃(k:Int),r=some (.exit 0,⟨[(1,ai ft),(2,ai ((d:Int)+1)),(3,.ref 0 0),(6,ai 0),(7,ab false),(8,ai (dR (d+1) ft t).1),(9,ai k)],[bx (aC t)]⟩)∧(dR (d+1) ft t).2=true)∨
    (∃(k:Int),r=some (.ret,⟨[(1,ai ft),(2,ai ((d:Int)+1)),(3,.ref 0 0),(6,ai (dR (d+1) ft t).1),(7,ab false),(8,ai (dR (d+1) ft t).1),(9,ai k)],[bx (aC t)]⟩)∧(dR (d+1) ft t).2=false):=by
   rw[←hr]
   refine mE (ft+1).toNat (fun k s=>∃m:Int,(k:Int)+1≤m∧m≤ft+1∧k≤t.sub.length∧s=⟨[(1,ai ft),(2,ai ((d:Int)+1)),(3,.ref 0 0),(6,ai 0),(7,ab false),(8,ai m),(9,ai k)],[bx (aC t)]⟩∧rE (dR d) ft m (t.sub.drop k)=dR (d+1) ft t)
    (fun r=>(∃(k:Int),r=some (.exit 0,⟨[(1,ai ft),(2,ai ((d:Int)+1)),(3,.ref 0 0),(6,ai 0),(7,ab false),(8,ai (dR (d+1) ft t).1),(9,ai k)],[bx (aC t)]⟩)∧(dR (d+1) ft t).2=true)∨
    (∃(k:Int),r=some (.ret,⟨[(1,ai ft),(2,ai ((d:Int)+1)),(3,.ref 0 0),(6,ai (dR (d+1) ft t).1),(7,ab false),(8,ai (dR (d+1) ft t).1),(9,ai k)],[bx (aC t)]⟩)∧(dR (d+1) ft t).2=false)) ?_ ?_ (by omega) ?_
   ·rintro k _ K hk ⟨m,m1,m2,hkl,rfl,hm⟩ hK
    by_cases h:k<t.sub.length
    ·obtain⟨x,hx,_,_⟩:=ay h
     rw[List.drop_eq_getElem_cons h,hx h] at hm
     simp only[rE] at hm
     by_cases QT:m≤ft
     ·rw[if_pos QT] at hm
      have w1:IntKind.i64.wrap ((k:Int)+1)=(k:Int)+1:=wrap64 (by omega) (by omega)
      have w2:IntKind.i64.wrap (ft-m)=ft-m:=wrap64 (by omega) (by omega)
      have bI:=ih n x (ft-m) (by omega) (by omega) (by omega) (by omega)
      have hb:=rD d (ft-m) x (by omega)
      have w3:IntKind.i64.wrap (m+(dR d (ft-m) x).1)=m+(dR d (ft-m) x).1:=wrap64 (by omega) (by omega)
      cases hc:(dR d (ft-m) x).2
      ·rw[hc] at bI hm
       simp only[Bool.false_eq_true,if_false] at hm
       rw[←hm]
       refine .inr ⟨k, ?_,rfl⟩
       simp[aa,h,hx,bX t.z h,QT,w2,hd1,bI]
      ·rw[hc] at bI hm
       simp only[if_true] at hm
       have hK:=hK _ ⟨m+(dR d (ft-m) x).1,by omega,by omega,by omega,rfl,hm⟩
       simp[aa,h,hx,bX t.z h,QT,w1,w2,w3,hd1,bI]
       simpa using hK
     ·rw[if_neg QT] at hm
      rw[←hm]
      refine .inl ⟨k, ?_,rfl⟩
      simp[aa,h,QT]
    ·obtain rfl:k=t.sub.length:=by omega
     simp[rE] at hm
     rw[←hm]
     refine .inl ⟨t.sub.length, ?_,rfl⟩
     simp[aa]
   ·rintro _ K ⟨m,m1,m2,hkl,rfl,hm⟩
    omega
   ·exact⟨1,by omega,by omega,by omega,by simp,by simp[dR]⟩
  rcases key with⟨k,rfl,e⟩|⟨k,rfl,e⟩<;>simp[e]
theorem yI{d:Nat}{ft:Int}(hl:ft≤1000)
  (ih:∀(l:Int) (x:Tr),0≤l→l≤1000→(dR d l x).2=true→(dR d l x).1≤l→Dp d x∧(aF x:Int)=(dR d l x).1):
  ∀(l:List Tr) (n:Int),1≤n→(rE (dR d) ft n l).2=true→(rE (dR d) ft n l).1≤ft→
   (∀x∈l,Dp d x)∧(rE (dR d) ft n l).1=n+(bM l:Int)∧n+l.length≤(rE (dR d) ft n l).1
 |[],n,_,_,_=>⟨by simp,by simp[rE,bM],by simp[rE]⟩
 |x::r,n,h1,h2,h3=>by
  simp only[rE] at h2 h3 ⊢
  by_cases h:n≤ft
  ·rw[if_pos h] at h2 h3 ⊢
   have hb:=rD d (ft-n) x (by omega)
   by_cases hc:(dR d (ft-n) x).2=true
   ·rw[if_pos hc] at h2 h3 ⊢
    obtain⟨a1,a2,a3⟩:=yI hl ih r _ (by omega) h2 h3
    obtain⟨b1,b2⟩:=ih (ft-n) x (by omega) (by omega) hc (by omega)
    refine⟨?_, ?_, ?_⟩
    ·intro y hy
     rcases List.mem_cons.1 hy with rfl|hy
     ·exact b1
     ·exact a1 y hy
    ·rw[a2];simp only[bM];push_cast;omega
    ·simp only[List.length_cons];push_cast;omega
   ·rw[if_neg hc] at h2;exact absurd h2 (by simp)
  ·rw[if_neg h] at h3;exact absurd h3 h
theorem rC:∀(d:Nat) (ft:Int) (t:Tr),0≤ft→ft≤1000→(dR d ft t).2=true→(dR d ft t).1≤ft→Dp d t∧(aF t:Int)=(dR d ft t).1
 |0,_,_,_,_,h,_=>by simp[dR] at h
 |d+1,ft,t,h0,h1,h2,h3=>by
  obtain⟨a1,a2,a3⟩:=yI (d:=d) h1 (fun l x=>rC d l x) t.sub 1 (Int.le_refl _) h2 h3
  simp only[dR] at h3 ⊢
  refine⟨⟨by omega,a1⟩, ?_⟩
  rw[a2,bz];push_cast;rfl
def nB(t:Tr):Bool:=cE (cE (!(dR 80 500 t).2) (decide (500<(dR 80 500 t).1))) (sF t)
theorem uA{t:Tr}(h:nB t=false):Dp 80 t∧aF t≤500∧sF t=false:=by
 simp[nB,cE] at h
 obtain⟨a1,a2⟩:=rC 80 500 t (by omega) (by omega) h.1.1 h.1.2
 exact⟨a1,by omega,h.2⟩
theorem zh(N:Nat)(hN:2000≤N)(t:Tr):R N 14 [ag (aC t)] []=some (ab (nB t),[]):=by
 have aa:rows 14={}:=rfl
 obtain⟨n,rfl⟩:=up N
 rw[aE 14 Tryz.func14 rfl rfl]
 have hc:=Qt 80 n t 500 (by omega) (by omega) (by omega) (by omega)
 simp at hc
 by_cases h:(dR 80 500 t).2=true∧(dR 80 500 t).1≤500
 ·have hd:=(rC 80 500 t (by omega) (by omega) h.1 h.2).1
  have hl:=OI 80 n t hd (by omega)
  simp[aa,hc,hl,nB]
 ·by_cases h1:(dR 80 500 t).2=true
  ·have h2:¬(dR 80 500 t).1≤500:=fun e=>h ⟨h1,e⟩
   have h2:500<(dR 80 500 t).1:=by omega
   simp[aa,hc,nB,h1,h2]
  ·simp[aa,hc,nB,h1]
def px(l:List gf):Bool:=l.any fun t=>decide (100<(t.args.length:Int))
theorem Jt(N:Nat)(l:List gf)(h:l.length+1<N)(hl:l.length≤1000000):R N 16 [.p (.sl (l.map zJ))] []=some (ab (px l),[]):=by
 have aa:rows 16=_:=w16.eq_1
 obtain⟨n,rfl⟩:=up N
 rw[aE 16 Tryz.func16 rfl rfl]
 simp[aa]
 rw[abD l (fun t=>decide (100<(t.args.length:Int))) (fun k=>⟨[(0,.p (.sl (l.map zJ))),(2,ab false),(3,ai k)],[]⟩)
  (fun k=>(.ret,⟨[(0,.p (.sl (l.map zJ))),(2,ab true),(3,ai k)],[]⟩)) (by omega) (by simp) (by
    intro k x h hx _ hm K
    have w1:=aA h hl
    by_cases hp:(100:Int)<x.args.length<;>simp[aa,h,hx,hp,w1]) (by simp)]
 unfold px
 rcases ao (fun t:gf=>decide (100<(t.args.length:Int))) l with⟨e1,e2,_⟩|⟨i,e1,e2,_⟩<;>simp[e1,e2]
def xA(e:jY):Nat:=aF e.addr+aF e.val+aF e.cond
def eu{α:Type}(f:α→Nat):List α→Nat
 |[]=>0
 |x::r=>f x+eu f r
theorem ff{α:Type}(f:α→Nat){l:List α}{k:Nat}{x:α}(h:k<l.length)(hx:∀h:k<l.length,l[k]=x):eu f (l.take (k+1))=eu f (l.take k)+f x:=by
 induction l generalizing k with
 |nil=>simp at h
 |cons y r ih=>
  cases k with
  |zero=>have:=hx (by simp);simp at this;subst this;simp[eu]
  |succ k=>
   simp only[List.take_succ_cons,eu]
   rw[ih (by simpa using h) (fun h=>by have:=hx (by simpa using h);simpa using this)]
   omega
theorem py{α:Type}(f:α→Nat)(B:Nat):∀(l:List α),(∀x∈l,f x≤B)→eu f l≤B*l.length
 |[],_=>by simp[eu]
 |x::r,h=>by
  have h1:=h x (by simp)
  have h2:=py f B r fun y hy=>h y (by simp[hy])
  simp only[eu,List.length_cons,Nat.mul_add,Nat.mul_one]
  omega
theorem tJ{α:Type}(f:α→Nat):∀(l:List α) (k:Nat),eu f (l.take k)≤eu f l
 |[],k=>by simp
 |x::r,0=>by simp[eu]
 |x::r,k+1=>by simp only[List.take_succ_cons,eu];have:=tJ f r k;omega
def xz(s:dh):Nat:=eu xA s.effs
def TN(m:aw):Nat:=eu xz m.instrs
def VK(e:jY):Prop:=(Dp 80 e.addr∧aF e.addr≤500)∧(Dp 80 e.val∧aF e.val≤500)∧(Dp 80 e.cond∧aF e.cond≤500)
theorem TO{e:jY}(h:VK e):xA e≤1500:=by have:=h.1.2;have:=h.2.1.2;have:=h.2.2.2;unfold xA;omega
theorem Rq(N:Nat)(m:aw)(h1:m.instrs.length≤100)(h2:∀s∈m.instrs,s.effs.length≤100∧∀e∈s.effs,VK e)(hN:2000≤N):
  R N 15 [ag (ah m)] []=some (ai (TN m),[]):=by
 have aa:rows 15=_:=w15.eq_1
 obtain⟨n,rfl⟩:=up N
 rw[aE 15 Tryz.func15 rfl rfl]
 have hB:∀s∈m.instrs,xz s≤150000:=fun s hs=>by
  have:=py xA 1500 s.effs fun e he=>TO ((h2 s hs).2 e he)
  have:=(h2 s hs).1
  unfold xz;omega
 simp[aa]
 rw[av m.instrs.length (fun k=>⟨[(1,.ref 0 0),(3,ai (eu xz (m.instrs.take k):Nat)),(4,ai k)],[bx (ah m)]⟩)
  (.exit 0,⟨[(1,.ref 0 0),(3,ai (TN m)),(4,ai m.instrs.length)],[bx (ah m)]⟩) (by omega) (by simp[eu]) (by
    intro k h K
    have w1:=aA h (by omega)
    obtain⟨s,hs,_,hm⟩:=ay h
    have ayg:=ff xz h hs
    have nY:=py xz 150000 (m.instrs.take k) fun s hs=>hB s (List.mem_of_mem_take hs)
    simp only[List.length_take] at nY
    obtain⟨g1,g2⟩:=h2 s hm
    have p9:=hB s hm
    simp[aa,h,hs]
    rw[av s.effs.length (fun j=>⟨[(1,.ref 0 0),(3,ai ((eu xz (m.instrs.take k)+eu xA (s.effs.take j):Nat))),(4,ai k),(5,ai j)],[bx (ah m)]⟩)
     (.exit 2,⟨[(1,.ref 0 0),(3,ai (eu xz (m.instrs.take (k+1)):Nat)),(4,ai k),(5,ai s.effs.length)],[bx (ah m)]⟩) (by omega) (by simp[eu,aa]) (by
       intro j hj K
       have v1:=aA hj (by omega)
       obtain⟨e,he,_,Xz⟩:=ay hj
       have zC:=ff xA hj he
       have hE:=g2 e Xz
       obtain⟨⟨a1,a2⟩,⟨b1,b2⟩,c1,c2⟩:=hE
       have RI:=tJ xA s.effs j
       have hb4:eu xA s.effs≤150000:=p9
       have e1:=se 80 n e.addr a1 (by omega) (by omega)
       have e2:=se 80 n e.val b1 (by omega) (by omega)
       have e3:=se 80 n e.cond c1 (by omega) (by omega)
       have v2:IntKind.i64.wrap ((aF e.addr:Int)+(aF e.val:Int))=(aF e.addr:Int)+(aF e.val:Int):=wrap64 (by omega) (by omega)
       have v3:IntKind.i64.wrap ((aF e.addr:Int)+(aF e.val:Int)+(aF e.cond:Int))=(aF e.addr:Int)+(aF e.val:Int)+(aF e.cond:Int):=wrap64 (by omega) (by omega)
       have v4:IntKind.i64.wrap ((eu xz (m.instrs.take k):Int)+(eu xA (s.effs.take j):Int)+((aF e.addr:Int)+(aF e.val:Int)+(aF e.cond:Int)))=(eu xz (m.instrs.take k):Int)+((eu xA (s.effs.take j):Int)+((aF e.addr:Int)+(aF e.val:Int)+(aF e.cond:Int))):=by
        rw[wrap64 (by omega) (by omega)];omega
       have fB:xA e=aF e.addr+aF e.val+aF e.cond:=rfl
       simp[aa,h,hs,hj,he,e1,e2,e3,v1,v2,v3,v4,zC,fB]) (by simp[aa,h,hs,ayg,xz])]
    simp[aa,w1]) (by simp[aa,TN])]
 simp
def pe(b:qw):Bool:=cE (decide (74<(b.regs.length:Int))) (decide (100<(b.name.size:Int)))
def pb(o:n8):Bool:=cE (decide (14<(o.pieces.length:Int))) (decide (100<(o.name.size:Int)))
def nK(e:jY):Bool:=cE (cE (nB e.addr) (nB e.val)) (nB e.cond)
def pd(s:dh):Bool:=cE (cE (decide (14<(s.opds.length:Int))) (decide (14<(s.effs.length:Int)))) (decide (100<(s.name.size:Int)))
def mS(s:dh):Bool:=pd s||(s.opds.any pb||s.effs.any nK)
def rJ(m:aw):Bool:=cE (cE (cE (cE (decide (100<(m.name.size:Int))) (decide (74<(m.regs.length:Int)))) (decide (26<(m.banks.length:Int)))) (decide (18<(m.units.length:Int)))) (decide (74<(m.instrs.length:Int)))
def jd(m:aw):Bool:=rJ m||(m.banks.any pe||(m.instrs.any mS||decide (1500<(TN m:Int))))
theorem JP{e:jY}(h:nK e=false):VK e:=by
 simp[nK,cE] at h
 have h1:=uA h.1.1
 have h2:=uA h.1.2
 have h3:=uA h.2
 exact⟨⟨h1.1,h1.2.1⟩,⟨h2.1,h2.2.1⟩,h3.1,h3.2.1⟩
theorem aK(a b:Bool):cE a b=(a||b):=by cases a<;>cases b<;>rfl
theorem ak(a b:Bool):aj a b=(a&&b):=by cases a<;>cases b<;>rfl
theorem Lf(N:Nat)(m:aw)(hN:3000≤N):R N 5 [ag (ah m)] []=some (ab (jd m),[]):=by
 have aa:rows 5=_:=w5.eq_1
 obtain⟨n,rfl⟩:=up N
 rw[aE 5 Tryz.func5 rfl rfl]
 by_cases oL:rJ m=true
 ·have ht:=oL
  unfold rJ at ht
  simp[aa,ht,jd,oL]
 ·have hf:rJ m=false:=by simpa using oL
  have ht:=hf
  unfold rJ at ht
  have hb:=hf
  simp[rJ,aK] at hb
  simp[aa,ht,jd,hf]
  rw[abD m.banks pe (fun k=>⟨[(1,.ref 0 0),(2,ab false),(3,ai k)],[bx (ah m)]⟩)
   (fun k=>(.ret,⟨[(1,.ref 0 0),(2,ab true),(3,ai k)],[bx (ah m)]⟩)) (by omega) (by simp[aa]) (by
     intro k x h hx _ hm K
     have w1:=aA h (by omega)
     by_cases hp:pe x=true
     ·have hq:=hp;unfold pe at hq
      simp[aa,h,hx,hp,hq,w1]
     ·have hp:pe x=false:=by simpa using hp
      have hq:=hp;unfold pe at hq
      simp[aa,h,hx,hp,hq,w1]) (by simp[aa])]
  rcases ao pe m.banks with⟨e1,e2,_⟩|⟨i,e1,e2,_⟩
  ·simp[aa,e1,e2]
   rw[aJ m.instrs mS (fun k=>⟨[(1,.ref 0 0),(2,ab false),(4,ai k)],[bx (ah m)]⟩)
    (fun k=>(.ret,⟨[(1,.ref 0 0),(2,ab true),(4,ai k)],[bx (ah m)]⟩))
    (.exit 2,⟨[(1,.ref 0 0),(2,ab false),(4,ai m.instrs.length)],[bx (ah m)]⟩) (by omega) (by simp[aa]) (by
      intro k s h hx _ hm K
      have w1:=aA h (by omega)
      by_cases hp:pd s=true
      ·have hq:=hp;unfold pd at hq
       have P1:mS s=true:=by unfold mS;rw[hp];rfl
       simp[aa,h,hx,P1,hp,hq]
      ·have hp:pd s=false:=by simpa using hp
       have hq:=hp;unfold pd at hq
       have hb:=hp
       simp[pd,aK] at hb
       simp[aa,h,hx,hp,hq]
       rw[aJ s.opds pb (fun j=>⟨[(1,.ref 0 0),(2,ab false),(4,ai k),(5,.ref 1 0),(6,ai j)],[bx (ah m),bx (aU s)]⟩)
        (fun j=>(.ret,⟨[(1,.ref 0 0),(2,ab true),(4,ai k),(5,.ref 1 0),(6,ai j)],[bx (ah m),bx (aU s)]⟩))
        (.exit 4,⟨[(1,.ref 0 0),(2,ab false),(4,ai k),(5,.ref 1 0),(6,ai s.opds.length)],[bx (ah m),bx (aU s)]⟩) (by omega) (by simp[aa]) (by
          intro j o h hx _ hm K
          have w1:=aA h (by omega)
          by_cases hp:pb o=true
          ·have hq:=hp;unfold pb at hq
           simp[aa,h,hx,hp,hq,w1]
          ·have hp:pb o=false:=by simpa using hp
           have hq:=hp;unfold pb at hq
           simp[aa,h,hx,hp,hq,w1]) (by simp[aa])]
       rcases ao pb s.opds with⟨e1,e2,_⟩|⟨i,e1,e2,_⟩
       ·simp[aa,e1]
        rw[aJ s.effs nK (fun j=>⟨[(1,.ref 0 0),(2,ab false),(4,ai k),(5,.ref 1 0),(7,ai j)],[bx (ah m),bx (aU s)]⟩)
         (fun j=>(.ret,⟨[(1,.ref 0 0),(2,ab true),(4,ai k),(5,.ref 1 0),(7,ai j)],[bx (ah m),bx (aU s)]⟩))
         (.exit 6,⟨[(1,.ref 0 0),(2,ab false),(4,ai k),(5,.ref 1 0),(7,ai s.effs.length)],[bx (ah m),bx (aU s)]⟩) (by omega) (by simp[aa]) (by
           intro j o h hx _ hm K
           have w1:=aA h (by omega)
           have g1:=zh n (by omega) o.addr
           have g2:=zh n (by omega) o.val
           have g3:=zh n (by omega) o.cond
           by_cases hp:nK o=true
           ·have hq:=hp;unfold nK at hq
            simp[aa,h,hx,hp,hq,w1,g1,g2,g3]
           ·have hp:nK o=false:=by simpa using hp
            have hq:=hp;unfold nK at hq
            simp[aa,h,hx,hp,hq,w1,g1,g2,g3]) (by simp[aa])]
        rcases ao nK s.effs with⟨f1,f2,_⟩|⟨i,f1,f2,_⟩
        ·have P1:mS s=false:=by unfold mS;rw[hp,e2,f2];rfl
         simp[aa,f1,w1,P1]
        ·have P1:mS s=true:=by unfold mS;rw[hp,e2,f2];rfl
         simp[aa,f1,P1]
       ·have P1:mS s=true:=by unfold mS;rw[hp,e2];rfl
        simp[aa,e1,P1]) (by simp[aa])]
   rcases ao mS m.instrs with⟨e1,e2,_⟩|⟨i,e1,e2,_⟩
   ·have hn:=Rq n m (by omega) (fun s hs=>by
     have h:=List.any_eq_false.1 e2 s hs
     simp[mS,pd,aK] at h
     refine⟨by omega,fun e he=>JP ?_⟩
     have:=h.2.2 e he
     simpa using this) (by omega)
    simp[aa,e1,e2,hn]
   ·simp[aa,e1,e2]
  ·simp[aa,e1,e2]
@[simp] theorem aha(x:zU):(((ew x).map AV.p).tail).take 2=(bm x.copy).map AV.p:=by rw[←List.drop_one];exact KV x
def nL(v:zU):Bool:=px [v.copy,v.load,v.store]
def lO(c:Conv):Bool:=cE (cE (cE (decide (100<(c.args.length:Int))) (decide (100<(c.kept.length:Int)))) (decide (100<(c.moves.length:Int)))) (px [c.adjust,c.call,c.leave,c.nop])
def l7(c:Conv):Bool:=lO c||c.moves.any nL
theorem L3(N:Nat)(c:Conv)(hN:1000≤N):R N 6 [ag (ax c)] []=some (ab (l7 c),[]):=by
 have aa:rows 6=_:=w6.eq_1
 obtain⟨n,rfl⟩:=up N
 rw[aE 6 Tryz.func6 rfl rfl]
 have hl:=Jt n [c.adjust,c.call,c.leave,c.nop] (by simp;omega) (by simp)
 simp[zJ] at hl
 by_cases oL:lO c=true
 ·have ht:=oL
  unfold lO at ht
  simp[aa,hl,ht,l7,oL]
 ·have hf:lO c=false:=by simpa using oL
  have ht:=hf
  unfold lO at ht
  have hb:=hf
  simp[lO,aK] at hb
  simp[aa,hl,ht,l7,hf]
  rw[abD c.moves nL (fun k=>⟨[(1,.ref 0 0),(2,ab false),(3,ai k)],[bx (ax c)]⟩)
   (fun k=>(.ret,⟨[(1,.ref 0 0),(2,ab true),(3,ai k)],[bx (ax c)]⟩)) (by omega) (by simp[aa]) (by
     intro k x h hx _ hm K
     have w1:=aA h (by omega)
     have hl:=Jt n [x.copy,x.load,x.store] (by simp;omega) (by simp)
     simp[zJ] at hl
     by_cases hp:nL x=true
     ·have hq:=hp;unfold nL at hq
      simp[aa,h,hx,hp,hq,w1,hl]
     ·have hp:nL x=false:=by simpa using hp
      have hq:=hp;unfold nL at hq
      simp[aa,h,hx,hp,hq,w1,hl]) (by simp[aa])]
  rcases ao nL c.moves with⟨e1,e2,_⟩|⟨i,e1,e2,_⟩<;>simp[aa,e1,e2]
@[reducible] def JV(l:List Bool):PV:=.sl (l.map PV.bool)
@[simp] theorem ahc(x:U7):((bg x).map AV.p).drop 8=[]:=List.drop_eq_nil_of_le (by simp)
@[simp] theorem atO(m:aw)(b:Bool):(ah m).map AV.p++[AV.p (.bool b)]=(bg ⟨m,b⟩).map AV.p:=by simp[bg]
theorem pJ(N:Nat)(m:aw)(ok:Bool)(l:List Bool)(hN:l.length+1<N)(hl:l.length≤1000000):
  R N 43 [.ref 0 0,.p (JV l)] [bx (bg ⟨m,ok⟩)]=some (.tup [],[bx (bg ⟨m,l.foldl aj ok⟩)]):=by
 have aa:rows 43=_:=YR.eq_1
 obtain⟨n,rfl⟩:=up N
 rw[aE 43 Tryz.func43 rfl rfl]
 simp[aa]
 rw[abC l.length (fun k=>⟨[(0,.ref 0 0),(6,.p (JV l)),(7,ai l.length),(8,ai k)],[bx (bg ⟨m,(l.take k).foldl aj ok⟩)]⟩) (by omega) (by simp) (by
    intro k h K
    have w1:=aA h hl
    obtain⟨x,hx,_,hm⟩:=ay h
    have e:l.take (k+1)=l.take k++[x]:=by rw[List.take_succ_eq_append_getElem h,hx h]
    simp[aa,h,hx,w1,e]) (by simp[aa])]
 simp
theorem afq(N:Nat)(hN:4≤N)(a b:Int):R N 111 [.p (ints [a,b])] []=some (ai (if a<b then b else a),[]):=by
 have aa:rows 111=_:=aab.eq_1
 obtain⟨n,rfl⟩:=up N
 rw[aE 111 Tryz.func111 rfl rfl]
 simp[aa]
 rw[abC 1 (fun k=>⟨[(0,.p (ints [a,b])),(3,ai (if k=0 then a else if a<b then b else a)),(4,ai (k+1))],[]⟩) (by omega) (by simp[aa]) (by
    intro k h K
    obtain rfl:k=0:=by omega
    have w1:IntKind.i64.wrap 2=2:=wrap64 (by omega) (by omega)
    simp[aa,w1,sB]) (by simp[aa])]
 simp
theorem jD(N:Nat)(hN:6≤N)(m a:Int)(hm:0≤m):R N 74 [ai m,.arr 0 0 0 1] [.arr 0 1 false [i64 a]]=some (ab (decide (a≤m)),[.arr 1 1 false [i64 a,i64 0]]):=by
 have aa:rows 74=_:=Yw.eq_1
 obtain⟨n,rfl⟩:=up N
 rw[aE 74 Tryz.func74 rfl rfl]
 have h:=afq n (by omega) a 0
 have h:R n 111 [.p (.sl [i64 a,.int .i64 0])] []=some (ai (if a<0 then 0 else a),[]):=h
 have e:decide ((if a<0 then 0 else a)≤m)=decide (a≤m):=by
  congr 1;rw[eq_iff_iff];split<;>omega
 simp[aa,h,e]
theorem Io(d:Option Nat)(s:St)(v:AV)(h:Hp):yM false (some true) d s (some (v,h))=some ⟨bJ s.tm d (.gd true v),h⟩:=rfl
theorem FD(d:Option Nat)(s:St)(r:Option (AV×Hp)):yM false (some false) d s r=some ⟨bJ s.tm d (.gd false .undef),s.hp⟩:=rfl
attribute [simp] Io FD
def lP(m:aw):Bool:=decide ((m.regs.length:Int)≤64)&&(decide ((m.banks.length:Int)≤16)&&(decide ((m.units.length:Int)≤8)&&decide ((m.instrs.length:Int)≤64)))
def jm(b:qw):Bool:=decide ((b.regs.length:Int)≤64)
def nk(o:n8):Bool:=decide ((o.pieces.length:Int)≤4)
def nn(s:dh):Bool:=decide ((s.opds.length:Int)≤4)&&(decide ((s.effs.length:Int)≤4)&&s.opds.all nk)
def lQ(m:aw):Bool:=lP m&&(m.banks.all jm&&m.instrs.all nn)
theorem lg{α:Type}(p:α→Bool){l:List α}{k:Nat}{x:α}(h:k<l.length)(hx:∀h:k<l.length,l[k]=x):(l.take (k+1)).all p=((l.take k).all p&&p x):=by
 rw[List.take_succ_eq_append_getElem h,hx h,List.all_append];simp
theorem Ol(N:Nat)(hN:200≤N)(m:aw)(hb:m.banks.length≤100)(hi:m.instrs.length≤100)(hg:∀s∈m.instrs,s.opds.length≤100):R N 42 [ag (ah m)] []=some (ab (lQ m),[]):=by
 have aa:rows 42=_:=YS.eq_1
 obtain⟨n,rfl⟩:=up N
 rw[aE 42 Tryz.func42 rfl rfl]
 have f1:=jD n (by omega) 64 m.regs.length (by omega)
 have f2:=jD n (by omega) 16 m.banks.length (by omega)
 have f3:=jD n (by omega) 8 m.units.length (by omega)
 have f4:=jD n (by omega) 64 m.instrs.length (by omega)
 have h5:((m.regs.length:Int)≤64∧(m.banks.length:Int)≤16∧(m.units.length:Int)≤8∧(m.instrs.length:Int)≤64)∨((m.regs.length:Int)≤64∧(m.banks.length:Int)≤16∧(m.units.length:Int)≤8∧¬(m.instrs.length:Int)≤64)∨
   ((m.regs.length:Int)≤64∧(m.banks.length:Int)≤16∧¬(m.units.length:Int)≤8)∨((m.regs.length:Int)≤64∧¬(m.banks.length:Int)≤16)∨¬(m.regs.length:Int)≤64:=by omega
 have hT:∃b,lP m=b:=⟨_,rfl⟩
 obtain⟨bt,hT⟩:=hT
 rcases h5 with c|c|c|c|c<;>simp[aa,f1,f2,f3,f4,c]<;>simp[lP,c] at hT<;>subst hT<;>
 (generalize hH:[Obj.box _,Obj.arr _ _ _ _,Obj.arr _ _ _ _,Obj.arr _ _ _ _,Obj.arr _ _ _ _]=H
  rw[av m.banks.length (fun k=>⟨[(1,.ref 0 0),(3,ab (lP m&&(m.banks.take k).all jm)),(37,.p (.sl (m.banks.map n4))),(38,ai m.banks.length),(39,ai k)],H⟩)
   (.exit 0,⟨[(1,.ref 0 0),(3,ab (lP m&&m.banks.all jm)),(37,.p (.sl (m.banks.map n4))),(38,ai m.banks.length),(39,ai m.banks.length)],H⟩) (by omega) (by simp[aa,←hH,lP,c]) (by
     intro k h K
     have w1:=aA h (by omega)
     obtain⟨x,hx,_,hm⟩:=ay h
     have f:=jD n (by omega) 64 x.regs.length (by omega)
     rw[lg jm h hx]
     have e:jm x=decide ((x.regs.length:Int)≤64):=rfl
     rw[e]
     subst hH
     rw[←Bool.and_assoc]
     generalize (lP m&&(m.banks.take k).all jm)=bk
     cases bk<;>simp[aa,h,hx,w1,f]) (by subst hH;simp[aa])]
  generalize jC:(lP m&&m.banks.all jm)=b0
  subst hH
  simp[aa]
  generalize hH:[Obj.box _,Obj.arr _ _ _ _,Obj.arr _ _ _ _,Obj.arr _ _ _ _,Obj.arr _ _ _ _]=H
  rw[av m.instrs.length (fun k=>⟨[(3,ab (b0&&(m.instrs.take k).all nn)),(53,.p (.sl (m.instrs.map s7))),(54,ai m.instrs.length),(55,ai k)],H⟩)
   (.exit 2,⟨[(3,ab (b0&&m.instrs.all nn)),(53,.p (.sl (m.instrs.map s7))),(54,ai m.instrs.length),(55,ai m.instrs.length)],H⟩) (by omega) (by simp[aa,←hH]) (by
     intro k h K
     have w1:=aA h (by omega)
     obtain⟨s,hx,_,hm⟩:=ay h
     have hs:=hg s hm
     have f1:=jD n (by omega) 4 s.opds.length (by omega)
     have f2:=jD n (by omega) 4 s.effs.length (by omega)
     rw[lg nn h hx,←Bool.and_assoc]
     generalize hB:(b0&&(m.instrs.take k).all nn)=bk
     subst hH
     have h4:(bk=false)∨(bk=true∧(s.opds.length:Int)≤4∧(s.effs.length:Int)≤4)∨(bk=true∧(s.opds.length:Int)≤4∧¬(s.effs.length:Int)≤4)∨(bk=true∧¬(s.opds.length:Int)≤4):=by
      cases bk
      ·exact Or.inl rfl
      ·right;simp only[true_and];omega
     have hI:∃b,(bk&&(decide ((s.opds.length:Int)≤4)&&decide ((s.effs.length:Int)≤4)))=b:=⟨_,rfl⟩
     obtain⟨bi,hI⟩:=hI
     have e3:(bk&&nn s)=(bi&&s.opds.all nk):=by rw[←hI];unfold nn;simp only[Bool.and_assoc]
     rw[e3]
     rcases h4 with d|d|d|d<;>simp[d] at hI<;>simp[aa,h,hx,f1,f2,w1,d]<;>
     (generalize hH:[Obj.box _,Obj.arr _ _ _ _,Obj.arr _ _ _ _,Obj.arr _ _ _ _,Obj.arr _ _ _ _,Obj.box _,Obj.arr _ _ _ _,Obj.arr _ _ _ _]=H
      rw[av s.opds.length (fun j=>⟨[(3,ab (bi&&(s.opds.take j).all nk)),(53,.p (.sl (m.instrs.map s7))),(54,ai m.instrs.length),(55,ai k),(75,.p (.sl (s.opds.map l_))),(76,ai s.opds.length),(77,ai j)],H⟩)
       (.exit 4,⟨[(3,ab (bi&&s.opds.all nk)),(53,.p (.sl (m.instrs.map s7))),(54,ai m.instrs.length),(55,ai k),(75,.p (.sl (s.opds.map l_))),(76,ai s.opds.length),(77,ai s.opds.length)],H⟩) (by omega) (by simp[aa,←hH,hI]) (by
         intro j h K
         have w1:=aA h (by omega)
         obtain⟨x,hx,_,hm⟩:=ay h
         have f:=jD n (by omega) 4 x.pieces.length (by omega)
         rw[lg nk h hx]
         have e:nk x=decide ((x.pieces.length:Int)≤4):=rfl
         rw[e]
         subst hH
         rw[←Bool.and_assoc]
         generalize (bi&&(s.opds.take j).all nk)=bj
         cases bj<;>simp[aa,h,hx,w1,f]) (by subst hH;simp[aa])]
      subst hH
      simp[aa,w1])) (by subst hH;simp[aa])]
  subst hH
  simp[aa]
  subst jC;simp[lQ,Bool.and_assoc])
end Go.En.V
namespace Go.En.V
open Go.Proofs
def cW(l:List ByteArray)(s:ByteArray):Bool:=ck s&& !(l.any fun x=>cc s x)
@[reducible] def qR(g:Nat)(sh:Bool)(l:List ByteArray):Hp:=[.box [.arr 1 g 0 l.length],.arr g 1 sh (l.map PV.str)]
theorem oS(N:Nat)(l:List ByteArray)(hN:l.length+100≤N)(hl:l.length≤10000)(s:ByteArray)(sh:Bool)(g:Nat):
  R N 48 [.ref 0 0,.p (.str s)] (qR g sh l)=some (ab (cW l s),qR (g+1) sh (l++[s])):=by
 have aa:rows 48=_:=YM.eq_1
 obtain⟨n,rfl⟩:=up N
 rw[aE 48 Tryz.func48 rfl rfl]
 have h1:=CZ n s (by omega)
 have h2:=zT n l s (by omega) (by omega)
 have e1:(l.length+1)*16≤1099511627776:=by omega
 have e2:l.length≤1099511627775:=by omega
 cases hb:ck s
 ·rw[hb] at h1
  simp[aa,h1,h2,e1,e2,cW,hb]
 ·rw[hb] at h1
  simp[aa,h1,h2,e1,e2,cW,hb]
section
variable {N:Nat} (hN:6≤N) (m:aw)
include hN
theorem sA(ok a:Bool):R N 43 [.ref 0 0,.p (.sl [.bool a])] [bx (bg ⟨m,ok⟩)]=some (.tup [],[bx (bg ⟨m,aj ok a⟩)]):=
 pJ N m ok [a] (by simp;omega) (by simp)
theorem Aq(ok a b:Bool):R N 43 [.ref 0 0,.p (.sl [.bool a,.bool b])] [bx (bg ⟨m,ok⟩)]=some (.tup [],[bx (bg ⟨m,aj (aj ok a) b⟩)]):=
 pJ N m ok [a,b] (by simp;omega) (by simp)
theorem O4(ok a b c:Bool):R N 43 [.ref 0 0,.p (.sl [.bool a,.bool b,.bool c])] [bx (bg ⟨m,ok⟩)]=some (.tup [],[.box ((bg ⟨m,aj (aj (aj ok a) b) c⟩).map .p)]):=
 pJ N m ok [a,b,c] (by simp;omega) (by simp)
theorem anX(ok a b c d:Bool):R N 43 [.ref 0 0,.p (.sl [.bool a,.bool b,.bool c,.bool d])] [bx (bg ⟨m,ok⟩)]=some (.tup [],[.box ((bg ⟨m,aj (aj (aj (aj ok a) b) c) d⟩).map .p)]):=
 pJ N m ok [a,b,c,d] (by simp;omega) (by simp)
end
def cq(n lo hi:Int):Bool:=aj (decide (lo≤n)) (decide (n≤hi))
def Ad(r root:pT):Bool:=aj (aj (aj (decide (root.of=-1)) (decide (r.width<root.width))) (cq root.width 1 64)) (cq r.low 0 (IntKind.i64.wrap (root.width-r.width)))
def tV(m:aw)(seen:List ByteArray)(r:pT):Bool:=
 (cW seen r.name&&cq r.width 1 64)&&
   (if r.of=-1 then decide (r.low=0) else if cq r.of 0 (IntKind.i64.wrap (m.regs.length-1))=true then Ad r (nth m.regs r.of) else false)
def iT(m:aw):List ByteArray→List pT→Bool
 |_,[]=>true
 |seen,r::l=>tV m seen r&&iT m (seen++[r.name]) l
theorem Hm(m:aw){k:Nat}{x:pT}:∀{seen:List ByteArray} {l:List pT},k<l.length→(∀h:k<l.length,l[k]=x)→
  iT m seen (l.take (k+1))=(iT m seen (l.take k)&&tV m (seen++(l.take k).map pT.name) x):=by
 induction k with
 |zero=>
  intro seen l h hx
  match l,h with
  |y::r,h=>have:=hx h;simp at this;subst this;simp[iT]
 |succ k ih=>
  intro seen l h hx
  match l,h with
  |y::r,h=>
   simp only[List.take_succ_cons,iT,List.map_cons]
   rw[ih (by simpa using h) (fun h=>by have:=hx (by simpa using h);simpa using this),←Bool.and_assoc]
   simp
theorem gD{α β:Type}(f:α→β){l:List α}{k:Nat}{x:α}(h:k<l.length)(hx:∀h:k<l.length,l[k]=x):(l.take (k+1)).map f=(l.take k).map f++[f x]:=by
 rw[List.take_succ_eq_append_getElem h,hx h];simp
theorem Qs(N:Nat)(hN:1000≤N)(m:aw)(ok:Bool)(hr:m.regs.length≤100):R N 45 [.ref 0 0] [bx (bg ⟨m,ok⟩)]=some (.tup [],[.box ((bg ⟨m,ok&&(decide (0<m.regs.length)&&iT m [] m.regs)⟩).map .p)]):=by
 have aa:rows 45=_:=YP.eq_1
 obtain⟨n,rfl⟩:=up N
 rw[aE 45 Tryz.func45 rfl rfl]
 have m1:=sA (N:=n) (by omega) m
 have m2:=Aq (N:=n) (by omega) m
 have m4:=anX (N:=n) (by omega) m
 have w:=iZ n (by omega)
 simp[aa,m1]
 generalize aV:aj ok (decide (0<m.regs.length))=BS
 rw[abC m.regs.length (fun k=>⟨[(0,.ref 0 0),(2,.ref 1 0),(20,.p (.sl (m.regs.map yN))),(21,ai m.regs.length),(22,ai k)],
    [bx (bg ⟨m,BS&&iT m [] (m.regs.take k)⟩),.box [.arr 2 k 0 k],.arr k 1 false (((m.regs.take k).map pT.name).map PV.str)]⟩) (by omega) (by simp[aa,iT]) (by
    intro k h K
    have w1:=aA h (by omega)
    obtain⟨x,hx,_,hm⟩:=ay h
    have hf:=oS n ((m.regs.take k).map pT.name) (by simp;omega) (by simp;omega) x.name false k
    have hlen:min k m.regs.length=k:=by omega
    simp only[qR,List.length_map,List.length_take,hlen] at hf
    rw[Hm m h hx,gD pT.name h hx,←Bool.and_assoc]
    generalize hB:(BS&&iT m [] (m.regs.take k))=mB
    have jT:((m.regs.take k).map pT.name).length=k:=by simp;omega
    generalize (m.regs.take k).map pT.name=seen at hf jT ⊢
    rw[List.nil_append]
    have w3:IntKind.i64.wrap ((m.regs.length:Int)-1)=(m.regs.length:Int)-1:=wrap64 (by omega) (by omega)
    by_cases h1:x.of=-1
    ·have e:(mB&&tV m seen x)=aj (aj (aj mB (cW seen x.name)) (aj (decide (1≤x.width)) (decide (x.width≤64)))) (decide (x.low=0)):=by
      simp[tV,h1,cq,ak,Bool.and_assoc]
     rw[e]
     simp[aa,h,hx,hf,w,m1,m2,h1,w1,jT]
    ·by_cases h2:0≤x.of∧x.of≤(m.regs.length:Int)-1
     ·obtain⟨y,g2,hy,dV,_⟩:=aR (l:=m.regs) (n:=x.of) (by omega) (by omega)
      have e:(mB&&tV m seen x)=aj (aj (aj (aj (aj (aj mB (cW seen x.name)) (aj (decide (1≤x.width)) (decide (x.width≤64)))) (decide (y.of=-1))) (decide (x.width<y.width))) (aj (decide (1≤y.width)) (decide (y.width≤64))))
        (aj (decide (0≤x.low)) (decide (x.low≤IntKind.i64.wrap (y.width-x.width)))):=by
       simp[tV,h1,h2,dV,cq,w3,Ad,ak,Bool.and_assoc]
      rw[e]
      have h3:x.of<(m.regs.length:Int):=by omega
      simp[aa,h,hx,hf,w,m1,m2,m4,h1,h2,h3,w1,w3,jT,g2,hy]
     ·have e:(mB&&tV m seen x)=false:=by
       simp[tV,h1,h2,cq,w3,ak]
      rw[e]
      have h3:aj (decide (0≤x.of)) (decide (x.of≤(m.regs.length:Int)-1))=false:=by simp[ak];omega
      simp[aa,h,hx,hf,w,m1,m2,h1,h3,w1,w3,jT]) (by simp[aa])]
 simp[←aV,ak,Bool.and_assoc]
end Go.En.V
