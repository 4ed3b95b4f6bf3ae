/- Part of the proof of CallingFills: engine, contracts or law, joined by a program from the texts Y1 Y2 Y3. -/
import Derived.Test.YtlcechkalldhfaaGreatDoorKaw
import Derived.Test.YtlcechkalldhfaaGreatDoorKba
set_option linter.all false
set_option maxRecDepth 100000
set_option maxHeartbeats 4000000
namespace Go.En.V
open Go.Proofs
theorem gS{a b:ByteArray}(h:cc a b=true):a=b:=by
 unfold cc at h
 rw[ByteArray.toList_eq,ByteArray.toList_eq,beq_iff_eq] at h
 obtain⟨⟨a⟩⟩:=a
 obtain⟨⟨b⟩⟩:=b
 simpa using h
theorem aZ(k w b:Int)(n:ByteArray)(l:Int)(z:Bool)(s:List Tr):Tr.kind (.mk k w b n l z s)=k:=rfl
theorem bS(k w b:Int)(n:ByteArray)(l:Int)(z:Bool)(s:List Tr):Tr.width (.mk k w b n l z s)=w:=rfl
theorem fG(k w b:Int)(n:ByteArray)(l:Int)(z:Bool)(s:List Tr):Tr.bits (.mk k w b n l z s)=b:=rfl
theorem g_(k w b:Int)(n:ByteArray)(l:Int)(z:Bool)(s:List Tr):Tr.name (.mk k w b n l z s)=n:=rfl
theorem cr(k w b:Int)(n:ByteArray)(l:Int)(z:Bool)(s:List Tr):Tr.low (.mk k w b n l z s)=l:=rfl
theorem Zg(k w b:Int)(n:ByteArray)(l:Int)(z:Bool)(s:List Tr):Tr.z (.mk k w b n l z s)=z:=rfl
theorem aq(k w b:Int)(n:ByteArray)(l:Int)(z:Bool)(s:List Tr):Tr.sub (.mk k w b n l z s)=s:=rfl
inductive NC:Tr→Prop
 |con (w b z):1≤w→w≤64→b≤br w→NC (.mk 1 w b ⟨#[]⟩ 0 z [])
 |var (w n z):1≤w→w≤64→wG n=true→NC (.mk 2 w 0 n 0 z [])
 |un (k w z x):1≤w→w≤64→k=3∨k=4→Tr.width x=w→NC (.mk k w 0 ⟨#[]⟩ 0 z [x])
 |bin (k w z x y):1≤w→w≤64→5≤k→k≤15→Tr.width x=w→Tr.width y=w→NC (.mk k w 0 ⟨#[]⟩ 0 z [x,y])
 |cmp (k z x y):16≤k→k≤18→Tr.width y=Tr.width x→NC (.mk k 1 0 ⟨#[]⟩ 0 z [x,y])
 |ite (w z x y v):1≤w→w≤64→Tr.width x=1→Tr.width y=w→Tr.width v=w→NC (.mk 19 w 0 ⟨#[]⟩ 0 z [x,y,v])
 |cat (w z x y):1≤w→w≤64→1≤Tr.width x→1≤Tr.width y→Tr.width x+Tr.width y=w→NC (.mk 20 w 0 ⟨#[]⟩ 0 z [x,y])
 |ext (w l z x):1≤w→w≤64→0≤l→1≤Tr.width x→Tr.width x≤64→l+w≤Tr.width x→NC (.mk 21 w 0 ⟨#[]⟩ l z [x])
 |wid (k w z x):1≤w→w≤64→k=22∨k=23→Tr.width x≤w→NC (.mk k w 0 ⟨#[]⟩ 0 z [x])
 |ld (w z x):1≤w→w≤64→gE w=true→NC (.mk 24 w 0 ⟨#[]⟩ 0 z [x])
theorem zA{α:Type}{l:List α}(h:(l.length:Int)=1):∃x,l=[x]:=List.length_eq_one_iff.1 (by omega)
theorem Lj{α:Type}{l:List α}(h:(l.length:Int)=2):∃x y,l=[x,y]:=by
 match l,h with
 |[x,y],_=>exact⟨x,y,rfl⟩
 |[],h=>simp at h
 |[_],h=>simp at h
 |_::_::_::_,h=>simp at h;omega
theorem aoh{α:Type}{l:List α}(h:(l.length:Int)=3):∃x y z,l=[x,y,z]:=by
 match l,h with
 |[x,y,z],_=>exact⟨x,y,z,rfl⟩
 |[],h=>simp at h
 |[_],h=>simp at h
 |[_,_],h=>simp at h
 |_::_::_::_::_,h=>simp at h;omega
theorem cL(x:Tr)(l:List Tr):nth (x::l) 0=x:=rfl
theorem dC(x y:Tr)(l:List Tr):nth (x::y::l) 1=y:=rfl
theorem fE(x y z:Tr)(l:List Tr):nth (x::y::z::l) 2=z:=rfl
theorem I8:∀k:Nat,5≤k→k≤15→ij.getD k 0=2∧jt.getD k 0=1:=by
 have h:∀k:Nat,k<16→5≤k→ij.getD k 0=2∧jt.getD k 0=1:=by decide
 exact fun k h1 h2=>h k (by omega) h1
theorem IS{t:Tr}(h:fH t 1=true):∀x∈t.sub,x.width=t.width:=by
 unfold fH at h
 simpa using h
theorem aln{t:Tr}(h:fH t 2=true):t.width=1∧(nth t.sub 1).width=(nth t.sub 0).width:=by
 unfold fH at h
 simpa [ak] using h
theorem alm{t:Tr}(h:fH t 3=true):((nth t.sub 0).width=1∧(nth t.sub 1).width=t.width)∧(nth t.sub 2).width=t.width:=by
 unfold fH at h
 simpa [ak] using h
theorem alk{t:Tr}(h:fH t 4=true):((1≤(nth t.sub 0).width∧(nth t.sub 0).width≤64)∧(1≤(nth t.sub 1).width∧(nth t.sub 1).width≤64))∧IntKind.i64.wrap ((nth t.sub 0).width+(nth t.sub 1).width)=t.width:=by
 unfold fH at h
 simpa [ak,cI] using h
theorem alj{t:Tr}(h:fH t 5=true):((0≤t.low∧1≤(nth t.sub 0).width∧(nth t.sub 0).width≤64)∧t.width≤(nth t.sub 0).width)∧t.low≤IntKind.i64.wrap ((nth t.sub 0).width-t.width):=by
 unfold fH at h
 simpa [ak,cI] using h
theorem VM{t:Tr}(h:fH t 6=true):(nth t.sub 0).width≤t.width:=by
 unfold fH at h
 simpa [ak,cI] using h
theorem ali{t:Tr}(h:fH t 7=true):gE t.width=true:=by
 unfold fH at h
 simpa using h
theorem S0:∀k:Nat,k<25→(3≤k↔0<ij.getD k 0):=by decide
theorem alJ:∀k:Nat,k<25→jt.getD k 0=5→k=21:=by decide
theorem HI{t:Tr}(h:eP t=true)(hk:0≤t.kind):(1≤t.width∧t.width≤64)∧
  ((t.sub=[]∧t.low=0∧((t.kind=1∧t.name=⟨#[]⟩∧t.bits≤br t.width)∨(t.kind=2∧t.bits=0∧wG t.name=true)))∨
   (3≤t.kind∧t.kind≤24∧t.bits=0∧t.name=⟨#[]⟩∧(t.low=0∨t.kind=21)∧(t.sub.length:Int)=ij.getD t.kind.toNat 0∧fH t (jt.getD t.kind.toNat 0)=true)):=by
 unfold eP at h
 by_cases hw:cI t.width=true
 ·rw[if_pos hw] at h
  simp only[cI,ak,Bool.and_eq_true,decide_eq_true_eq] at hw
  refine⟨hw, ?_⟩
  by_cases hb:t.kind≤24∧0<ij.getD t.kind.toNat 0
  ·rw[if_pos hb] at h
   by_cases hp:kN t=true
   ·rw[if_pos hp] at h
    simp only[kN,ak,aK,Bool.and_eq_true,Bool.or_eq_true,decide_eq_true_eq] at hp
    obtain⟨⟨⟨p1,p2⟩,p3⟩,p4⟩:=hp
    have h3:=(S0 t.kind.toNat (by omega)).2 hb.2
    refine Or.inr ⟨by omega,hb.1,p1,gS p2, ?_,p4,h⟩
    rcases p3 with p3|p3
    ·exact Or.inl p3
    ·have:=alJ t.kind.toNat (by omega) p3
     exact Or.inr (by omega)
   ·rw[if_neg hp] at h;exact absurd h (by simp)
  ·rw[if_neg hb] at h
   simp only[yT,ak,aK,Bool.and_eq_true,Bool.or_eq_true,decide_eq_true_eq] at h
   obtain⟨⟨h1,h2⟩,h3⟩:=h
   refine Or.inl ⟨List.eq_nil_of_length_eq_zero (by omega),h2, ?_⟩
   rcases h3 with⟨⟨h3,h4⟩,⟨h5,h6⟩,h7⟩|⟨⟨h3,h4⟩,h5⟩
   ·exact Or.inl ⟨h3,gS h4,h7⟩
   ·exact Or.inr ⟨h3,h4,h5⟩
 ·rw[if_neg hw] at h;exact absurd h (by simp)
theorem Wm{t:Tr}(h:eP t=true)(hk:0≤t.kind):NC t:=by
 obtain⟨⟨w1,w2⟩,⟨hs,hl,⟨e1,e2,e3⟩|⟨e1,e2,e3⟩⟩|⟨k1,k2,hb,hn,hl,gK,hw⟩⟩:=HI h hk
 ·obtain⟨k,w,b,n,l,z,s⟩:=t
  simp only[aZ,bS,fG,g_,cr,aq] at*
  subst hs;subst hl;subst e1;subst e2
  exact .con w b z w1 w2 e3
 ·obtain⟨k,w,b,n,l,z,s⟩:=t
  simp only[aZ,bS,fG,g_,cr,aq] at*
  subst hs;subst hl;subst e1;subst e2
  exact .var w n z w1 w2 e3
 have bT:t.kind=3∨t.kind=4∨(5≤t.kind∧t.kind≤15)∨t.kind=16∨t.kind=17∨t.kind=18∨t.kind=19∨t.kind=20∨t.kind=21∨t.kind=22∨t.kind=23∨t.kind=24:=by omega
 obtain⟨k,w,b,n,l,z,s⟩:=t
 simp only[aZ,bS,fG,g_,cr,aq] at k1 k2 hb hn hl gK w1 w2 hk bT
 subst hb;subst hn
 have lr:fH (.mk k w 0 ⟨#[]⟩ l z s) (jt.getD k.toNat 0)=true:=hw
 clear hw h
 rcases bT with rfl|rfl|bT|rfl|rfl|rfl|rfl|rfl|rfl|rfl|rfl|rfl
 ·obtain⟨x,rfl⟩:=zA gK
  obtain rfl:l=0:=by omega
  exact .un 3 w z x w1 w2 (Or.inl rfl) (IS lr x (by simp[aq]))
 ·obtain⟨x,rfl⟩:=zA gK
  obtain rfl:l=0:=by omega
  exact .un 4 w z x w1 w2 (Or.inr rfl) (IS lr x (by simp[aq]))
 ·obtain⟨b1,b2⟩:=I8 k.toNat (by omega) (by omega)
  rw[b1] at gK;rw[b2] at lr
  obtain⟨x,y,rfl⟩:=Lj gK
  obtain rfl:l=0:=by omega
  exact .bin k w z x y w1 w2 bT.1 bT.2 (IS lr x (by simp[aq])) (IS lr y (by simp[aq]))
 iterate 3
  ·obtain⟨x,y,rfl⟩:=Lj gK
   obtain rfl:l=0:=by omega
   obtain⟨h1,h2⟩:=aln lr
   simp only[bS] at h1
   subst h1
   exact .cmp _ z x y (by decide) (by decide) h2
 ·obtain⟨x,y,v,rfl⟩:=aoh gK
  obtain rfl:l=0:=by omega
  obtain⟨⟨h1,h2⟩,h3⟩:=alm lr
  exact .ite w z x y v w1 w2 h1 h2 h3
 ·obtain⟨x,y,rfl⟩:=Lj gK
  obtain rfl:l=0:=by omega
  obtain⟨⟨⟨h1,h2⟩,h3,h4⟩,h5⟩:=alk lr
  have h1:1≤x.width:=h1
  have h2:x.width≤64:=h2
  have h3:1≤y.width:=h3
  have h4:y.width≤64:=h4
  have h5:IntKind.i64.wrap (x.width+y.width)=w:=h5
  rw[wrap64 (by omega) (by omega)] at h5
  exact .cat w z x y w1 w2 h1 h3 h5
 ·obtain⟨x,rfl⟩:=zA gK
  obtain⟨⟨⟨h1,h2,h3⟩,h4⟩,h5⟩:=alj lr
  have h1:0≤l:=h1
  have h2:1≤x.width:=h2
  have h3:x.width≤64:=h3
  have h4:w≤x.width:=h4
  have h5:l≤IntKind.i64.wrap (x.width-w):=h5
  rw[wrap64 (by omega) (by omega)] at h5
  exact .ext w l z x w1 w2 h1 h2 h3 (by omega)
 ·obtain⟨x,rfl⟩:=zA gK
  obtain rfl:l=0:=by omega
  exact .wid 22 w z x w1 w2 (Or.inl rfl) (VM lr)
 ·obtain⟨x,rfl⟩:=zA gK
  obtain rfl:l=0:=by omega
  exact .wid 23 w z x w1 w2 (Or.inr rfl) (VM lr)
 ·obtain⟨x,rfl⟩:=zA gK
  obtain rfl:l=0:=by omega
  exact .ld w z x w1 w2 (ali lr)
theorem BV{t:Tr}(h:NC t)(hw:∀x∈t.sub,1≤x.width∧x.width≤64):eP t=true:=by
 have bp:=I8
 cases h with
 |con w b z h1 h2 h3=>simp[eP,cI,yT,ij,aZ,bS,aq,fG,g_,cr,h1,h2,h3]
 |var w n z h1 h2 h3=>simp[eP,cI,yT,ij,aZ,bS,aq,fG,g_,cr,h1,h2,h3]
 |un k w z x h1 h2 hk hx=>rcases hk with rfl|rfl<;>simp[eP,cI,kN,fH,ij,jt,aZ,bS,aq,fG,g_,cr,h1,h2,hx]
 |bin k w z x y h1 h2 k1 k2 hx hy=>
  obtain⟨b1,b2⟩:=bp k.toNat (by omega) (by omega)
  have k3:k≤24:=by omega
  simp[-List.getD_eq_getElem?_getD,eP,cI,kN,fH,b1,b2,aZ,bS,aq,fG,g_,cr,h1,h2,hx,hy,k3]
 |cmp k z x y k1 k2 hy=>
  have:k=16∨k=17∨k=18:=by omega
  rcases this with rfl|rfl|rfl<;>simp[eP,cI,kN,fH,ij,jt,aZ,bS,aq,fG,g_,cr,hy,cL,dC]
 |ite w z x y v h1 h2 hx hy hv=>simp[eP,cI,kN,fH,ij,jt,aZ,bS,aq,fG,g_,cr,hx,hy,hv,cL,dC,fE,h1,h2]
 |cat w z x y h1 h2 hx hy hs=>
  have e:IntKind.i64.wrap (x.width+y.width)=x.width+y.width:=wrap64 (by omega) (by omega)
  have x2:x.width≤64:=by omega
  have y2:y.width≤64:=by omega
  simp[eP,cI,kN,fH,ij,jt,aZ,bS,aq,fG,g_,cr,hx,hy,cL,dC,h1,h2,x2,y2,hs,e]
  show IntKind.i64.wrap w=w
  exact wrap64 (by omega) (by omega)
 |ext w l z x h1 h2 hl hx tt hs=>
  have e:IntKind.i64.wrap (x.width-w)=x.width-w:=wrap64 (by omega) (by omega)
  have a1:w≤x.width:=by omega
  have a2:l≤x.width-w:=by omega
  simp[eP,cI,kN,fH,ij,jt,aZ,bS,aq,fG,g_,cr,hx,tt,cL,h1,h2,hl,e,a1,a2]
 |wid k w z x h1 h2 hk hx=>rcases hk with rfl|rfl<;>simp[eP,cI,kN,fH,ij,jt,aZ,bS,aq,fG,g_,cr,h1,h2,hx,cL]<;>exact hx
 |ld w z x h1 h2 hx=>simp[eP,cI,kN,fH,ij,jt,aZ,bS,aq,fG,g_,cr,h1,h2,hx,cL]
mutual
def jl:Tr→Prop
 | .mk k w b n l z s=>NC (.mk k w b n l z s)∧0≤b∧Sm s
def Sm:List Tr→Prop
 |[]=>True
 |x::r=>jl x∧Sm r
end
theorem CU{l:List Tr}:Sm l↔∀x∈l,jl x:=by
 induction l with
 |nil=>simp[Sm]
 |cons x l ih=>simp[Sm,ih]
theorem iK(t:Tr):jl t↔NC t∧0≤t.bits∧∀x∈t.sub,jl x:=by
 cases t;simp only[jl,CU,fG,aq]
theorem NC.wide{t:Tr}(h:NC t):1≤t.width∧t.width≤64:=by
 cases h<;>simp only[bS]<;>omega
theorem NC.few{t:Tr}(h:NC t):t.sub.length≤3:=by
 cases h<;>simp[aq]
theorem NC.kind{t:Tr}(h:NC t):1≤t.kind∧t.kind≤24:=by
 cases h<;>simp only[aZ]<;>omega
theorem jl.nc{t:Tr}(h:jl t):NC t:=((iK t).1 h).1
theorem jl.sub{t:Tr}(h:jl t):∀x∈t.sub,jl x:=((iK t).1 h).2.2
theorem jl.wide{t:Tr}(h:jl t):1≤t.width∧t.width≤64:=h.nc.wide
mutual
theorem wF:∀t:Tr,jl t→Dp (eg t) t
 | .mk k w b n l z s,h=>by
  have h':=(iK _).1 h
  have:=h'.1.few
  rw[eT]
  refine⟨by simp only[aq] at this ⊢;omega,fun x hx=> ?_⟩
  simp only[aq] at hx ⊢
  exact(NG s (CU.2 h'.2.2) x hx).mono (Nat.le_refl _)
theorem NG:∀l:List Tr,Sm l→∀x∈l,Dp (dt l) x
 |[],_,x,hx=>by simp at hx
 |y::r,h,x,hx=>by
  simp only[Sm] at h
  simp only[dt]
  have i1:=wF y h.1
  have i2:=NG r h.2 x
  rcases List.mem_cons.1 hx with rfl|hx
  ·exact i1.mono (by omega)
  ·exact(i2 hx).mono (by omega)
end
theorem VN:∀(n:Nat) (t:Tr),Dp n t→jl t→K0 n t
 |0,t,h,_=>h.elim
 |n+1,t,h,hw=>⟨⟨by have:=hw.nc.kind;omega,h.1⟩,fun x hx=>VN n x (h.2 x hx) (hw.sub x hx)⟩
theorem alo{t:Tr}(h:jl t):KQ t:=⟨_,VN _ t (wF t h) h⟩
def bY(t:Tr):Nat:=
 let w0:=(nth t.sub 0).width.toNat
 let b0:=(nth t.sub 0).bits.toNat
 let b1:=(nth t.sub 1).bits.toNat
 if t.kind=3∨t.kind=4 then zu t.kind.toNat w0 b0
 else if t.kind≤18 then bF t.kind.toNat w0 b0 b1
 else if t.kind=19 then(if b0=1 then b1 else(nth t.sub 2).bits.toNat)
 else if t.kind=20 then b0*2^(nth t.sub 1).width.toNat+b1
 else if t.kind=21 then b0/2^t.low.toNat % 2^t.width.toNat
 else vx w0 b0 t.width.toNat (decide (t.kind=23))
def kP(w x:Int):Tr:=.mk 1 w x ⟨#[]⟩ 0 false []
def pick(t:Tr):List (Bool×Tr)→Tr
 |[]=>t
 |(c,o)::r=>if c=true then o else pick t r
def fp(t:Tr):List (Bool×Tr):=
 let x:=nth t.sub 0
 let y:=nth t.sub 1
 let v:=nth t.sub 2
 let w:=t.width
 let k:=t.kind
 if k=3∨k=4 then [(decide (x.kind=k),nth x.sub 0)]
 else if k=5 then [(bR x 0,y),(bR y 0,x)]
 else if k=6 then [(bR y 0,x),(aI x y,kP w 0)]
 else if k=7 then [(bR x 0,kP w 0),(bR y 0,kP w 0),(bR x 1,y),(bR y 1,x)]
 else if k=8 then [(bR x 0,kP w 0),(bR y 0,kP w 0),(bR x (br w),y),(bR y (br w),x),(aI x y,x)]
 else if k=9 then [(bR x (br w),kP w (br w)),(bR y (br w),kP w (br w)),(bR x 0,y),(bR y 0,x),(aI x y,x)]
 else if k=10 then [(bR x 0,y),(bR y 0,x),(aI x y,kP w 0)]
 else if k=11∨k=12 then [(bR y 0,x),(decide (y.kind=1)&&decide (w≤y.bits),kP w 0),(bR x 0,kP w 0)]
 else if k=13 then [(bR y 0,x),(bR x 0,kP w 0)]
 else if k=14 then [(bR y 1,x)]
 else if k=15 then [(bR y 1,kP w 0)]
 else if k=16 then [(aI x y,kP w 1)]
 else if k=17 then [(aI x y,kP w 0),(bR y 0,kP w 0)]
 else if k=18 then [(aI x y,kP w 0)]
 else if k=19 then [(bR x 1||(bR x 0||aI y v),if bR x 1=true then y else v)]
 else if k=20 then [(bR x 0,.mk 22 w 0 ⟨#[]⟩ 0 false [gF y])]
 else if k=21∨k=22∨k=23 then [(decide (x.width=w),x),(decide (x.kind=k),.mk k w 0 ⟨#[]⟩ (t.low+x.low) false x.sub)]
 else []
def ez(t:Tr):Bool:=decide (t.kind≠24)&&decide (t.sub≠[])&&t.sub.all fun x=>decide (x.kind=1)
def stepT(t:Tr):Tr:=if ez t=true then kP t.width (bY t) else pick t (fp t)
mutual
def lx:Tr→Tr
 | .mk k w b n l _ s=>stepT (.mk k w b n l false (Tt s))
def Tt:List Tr→List Tr
 |[]=>[]
 |x::r=>lx x::Tt r
end
theorem ON(l:List Tr):Tt l=l.map lx:=by
 induction l with
 |nil=>rfl
 |cons x r ih=>simp[Tt,ih]
theorem Ts(t:Tr):lx t=stepT (.mk t.kind t.width t.bits t.name t.low false (t.sub.map lx)):=by
 cases t;simp only[lx,ON,aZ,bS,fG,g_,cr,aq]
mutual
def zj:Tr→Prop
 | .mk _ _ _ _ _ z s=>z=false∧Zb s
def Zb:List Tr→Prop
 |[]=>True
 |x::r=>zj x∧Zb r
end
theorem VL{l:List Tr}:Zb l↔∀x∈l,zj x:=by
 induction l with
 |nil=>simp[Zb]
 |cons x l ih=>simp[Zb,ih]
theorem ll(t:Tr):zj t↔t.z=false∧∀x∈t.sub,zj x:=by
 cases t;simp only[zj,VL,Zg,aq]
theorem Oz:∀a b:Tr,zj a→zj b→aI a b=true→a=b:=by
 have main:∀n:Nat,(∀a b:Tr,aF a≤n→zj a→zj b→aI a b=true→a=b)∧(∀l q:List Tr,bM l≤n→Zb l→Zb q→iS l q=true→l=q):=by
  intro n
  induction n with
  |zero=>
   refine⟨fun a b h=> ?_,fun l q h hl hq hs=> ?_⟩
   ·rw[bz] at h;omega
   ·cases l with
    |nil=>cases q with
     |nil=>rfl
     |cons y q=>simp[iS] at hs
    |cons x l=>simp only[bM] at h;have:=bz x;omega
  |succ n ih=>
   have h1:∀a b:Tr,aF a≤n+1→zj a→zj b→aI a b=true→a=b:=by
    intro a b h ha hb hs
    obtain⟨k,w,b1,nm,lo,z,s⟩:=a
    obtain⟨k',w',b1',nm',lo',z',s'⟩:=b
    simp only[aI,ak,aK,Bool.and_eq_true,decide_eq_true_eq] at hs
    simp only[zj] at ha hb
    simp only[aF] at h
    obtain⟨⟨⟨⟨⟨e1,e2⟩,e3⟩,e4⟩,e5⟩,e6⟩:=hs
    have e7:=ih.2 s s' (by omega) ha.2 hb.2 e6
    subst e1;subst e2;subst e3;subst e5;subst e7
    rw[gS e4,ha.1,hb.1]
   refine⟨h1, ?_⟩
   intro l q h hl hq hs
   cases l with
   |nil=>cases q with
    |nil=>rfl
    |cons y q=>simp[iS] at hs
   |cons x l=>cases q with
    |nil=>simp[iS] at hs
    |cons y q=>
     simp only[iS,ak,aK,Bool.and_eq_true] at hs
     simp only[Zb] at hl hq
     simp only[bM] at h
     have:=bz x
     rw[h1 x y (by omega) hl.1 hq.1 hs.1,ih.2 l q (by omega) hl.2 hq.2 hs.2]
 exact fun a b=>(main (aF a)).1 a b (Nat.le_refl _)
theorem ba{x:Tr}(h:jl x)(hk:x.kind=1):∃w b:Nat,x.width=(w:Nat)∧x.bits=(b:Nat)∧1≤w∧w≤64∧b<2^w∧x.sub=[]∧x.low=0∧x.name=⟨#[]⟩:=by
 have hb:=((iK x).1 h).2.1
 have hn:=h.nc
 cases hn with
 |con w b z h1 h2 h3=>
  simp only[bS,fG] at hb ⊢
  obtain⟨w,rfl⟩:∃n:Nat,w=n:=⟨w.toNat,by omega⟩
  obtain⟨b,rfl⟩:∃n:Nat,b=n:=⟨b.toNat,by omega⟩
  rw[qi (by omega) (by omega)] at h3
  have:0<2^w:=Nat.pow_pos (by decide)
  exact⟨w,b,rfl,rfl,by omega,by omega,by omega,rfl,rfl,rfl⟩
 |var=>simp[aZ] at hk
 |un k w z x _ _ h=>simp only[aZ] at hk;omega
 |bin k=>simp only[aZ] at hk;omega
 |cmp k=>simp only[aZ] at hk;omega
 |ite=>simp[aZ] at hk
 |cat=>simp[aZ] at hk
 |ext=>simp[aZ] at hk
 |wid k w z x _ _ h=>simp only[aZ] at hk;omega
 |ld=>simp[aZ] at hk
theorem UW(k w a b:Nat)(h1:1≤w)(ha:a<2^w)(hb:b<2^w)(hk:5≤k)(XI:k≤15):bF k w a b<2^w:=by
 have p:0<2^w:=Nat.pow_pos (by decide)
 unfold bF
 have:k=5∨k=6∨k=7∨k=8∨k=9∨k=10∨k=11∨k=12∨k=13∨k=14∨k=15:=by omega
 rcases this with rfl|rfl|rfl|rfl|rfl|rfl|rfl|rfl|rfl|rfl|rfl<;>simp only[reduceIte,Nat.reduceEqDiff]
 ·exact Nat.mod_lt _ p
 ·exact Nat.mod_lt _ p
 ·exact Nat.mod_lt _ p
 ·exact Nat.lt_of_le_of_lt Nat.and_le_left ha
 ·exact Nat.or_lt_two_pow ha hb
 ·exact Nat.xor_lt_two_pow ha hb
 ·exact Nat.mod_lt _ p
 ·exact Nat.lt_of_le_of_lt (Nat.div_le_self _ _) ha
 ·have q:(0:Int)<2^w:=by exact_mod_cast p
  have h2:=Int.emod_lt_of_pos (oe w a/2^dy b) q
  have h3:=Int.emod_nonneg (oe w a/2^dy b) (Int.ne_of_gt q)
  generalize oe w a/2^dy b % 2^w=m at h2 h3
  have h4:((2^w:Nat):Int)=(2:Int)^w:=by norm_cast
  omega
 ·split
  ·omega
  ·exact Nat.lt_of_le_of_lt (Nat.div_le_self _ _) ha
 ·split
  ·exact ha
  ·exact Nat.lt_of_le_of_lt (Nat.mod_le _ _) ha
theorem QI(k w a b:Nat)(XI:16≤k):bF k w a b<2:=by
 have e:k≠5∧k≠6∧k≠7∧k≠8∧k≠9∧k≠10∧k≠11∧k≠12∧k≠13∧k≠14∧k≠15:=by omega
 unfold bF
 simp only[e,if_false]
 split
 ·split<;>omega
 ·split<;>(split<;>omega)
theorem aak(k w a:Nat)(ha:a<2^w):zu k w a<2^w:=by
 unfold zu
 have p:0<2^w:=Nat.pow_pos (by decide)
 split
 ·omega
 ·exact Nat.mod_lt _ p
theorem SG{t:Tr}(h:NC t)(hs:∀x∈t.sub,jl x)(hc:∀x∈t.sub,x.kind=1)(fB:t.sub≠[])(yf:t.kind≠24):bY t<2^t.width.toNat:=by
 cases h with
 |con=>simp[aq] at fB
 |var=>simp[aq] at fB
 |un k w z x h1 h2 hk hx=>
  obtain⟨w0,b0,e1,e2,e3,e4,e5,_⟩:=ba (hs x (by simp[aq])) (hc x (by simp[aq]))
  simp only[bY,aZ,aq,bS,cL,e1,e2,if_pos hk,Int.toNat_natCast]
  rw[←hx,e1,Int.toNat_natCast]
  exact aak _ _ _ e5
 |bin k w z x y h1 h2 k1 k2 hx hy=>
  obtain⟨w0,b0,e1,e2,e3,e4,e5,_⟩:=ba (hs x (by simp[aq])) (hc x (by simp[aq]))
  obtain⟨w1,b1,d1,d2,d3,d4,d5,_⟩:=ba (hs y (by simp[aq])) (hc y (by simp[aq]))
  have c1:¬(k=3∨k=4):=by omega
  have c2:k≤18:=by omega
  have:w1=w0:=by omega
  subst this
  simp only[bY,aZ,aq,bS,cL,dC,e1,e2,d1,d2,if_neg c1,if_pos c2,Int.toNat_natCast]
  rw[←hx,e1,Int.toNat_natCast]
  exact UW _ _ _ _ e3 e5 d5 (by omega) (by omega)
 |cmp k z x y k1 k2 hy=>
  have c1:¬(k=3∨k=4):=by omega
  have c2:k≤18:=by omega
  have e:bY (.mk k 1 0 ⟨#[]⟩ 0 z [x,y])=bF k.toNat x.width.toNat x.bits.toNat y.bits.toNat:=by
   have fY:¬((Tr.mk k 1 0 ⟨#[]⟩ 0 z [x,y]).kind=3∨(Tr.mk k 1 0 ⟨#[]⟩ 0 z [x,y]).kind=4):=c1
   have ma:(Tr.mk k 1 0 ⟨#[]⟩ 0 z [x,y]).kind≤18:=c2
   simp only[bY]
   rw[if_neg fY,if_pos ma]
   rfl
  rw[e]
  exact QI k.toNat _ _ _ (by omega)
 |ite w z x y v h1 h2 hx hy hv=>
  obtain⟨w0,b0,e1,e2,e3,e4,e5,_⟩:=ba (hs y (by simp[aq])) (hc y (by simp[aq]))
  obtain⟨w1,b1,d1,d2,d3,d4,d5,_⟩:=ba (hs v (by simp[aq])) (hc v (by simp[aq]))
  have c0:w.toNat=w0:=by omega
  have c1:w1=w0:=by omega
  subst c1
  simp only[bY,aZ,aq,bS,cL,dC,fE,e1,e2,d1,d2,Int.toNat_natCast,c0]
  simp only[show¬((19:Int)=3∨(19:Int)=4) by omega,show¬((19:Int)≤18) by omega,if_false,if_true]
  split<;>assumption
 |cat w z x y h1 h2 hx hy hw=>
  obtain⟨w0,b0,e1,e2,e3,e4,e5,_⟩:=ba (hs x (by simp[aq])) (hc x (by simp[aq]))
  obtain⟨w1,b1,d1,d2,d3,d4,d5,_⟩:=ba (hs y (by simp[aq])) (hc y (by simp[aq]))
  have c0:w.toNat=w0+w1:=by omega
  simp only[bY,aZ,aq,bS,cL,dC,fE,e1,e2,d1,d2,Int.toNat_natCast,c0]
  simp only[show¬((20:Int)=3∨(20:Int)=4) by omega,show¬((20:Int)≤18) by omega,show¬((20:Int)=19) by omega,if_false,if_true]
  rw[Nat.pow_add]
  calc b0*2^w1+b1<b0*2^w1+2^w1:=by omega
   _=(b0+1)*2^w1:=by rw[Nat.add_mul,Nat.one_mul]
   _≤2^w0*2^w1:=Nat.mul_le_mul_right _ e5
 |ext w l z x h1 h2 hl hx tt hw=>
  simp only[bY,aZ,aq,bS]
  simp only[show¬((21:Int)=3∨(21:Int)=4) by omega,show¬((21:Int)≤18) by omega,show¬((21:Int)=19) by omega,show¬((21:Int)=20) by omega,if_false,if_true]
  exact Nat.mod_lt _ (Nat.pow_pos (by decide))
 |wid k w z x h1 h2 hk hx=>
  obtain⟨w0,b0,e1,e2,e3,e4,e5,_⟩:=ba (hs x (by simp[aq])) (hc x (by simp[aq]))
  simp only[bY,aZ,aq,bS,cL,e1,e2,Int.toNat_natCast]
  simp only[show¬(k=3∨k=4) by omega,show¬(k≤18) by omega,show¬(k=19) by omega,show¬(k=20) by omega,show¬(k=21) by omega,if_false]
  exact Ih _ _ _ _ e5 (by omega)
 |ld=>exact absurd rfl yf
theorem NC.un_inv{x:Tr}(h:NC x)(hk:x.kind=3∨x.kind=4):∃y,x.sub=[y]∧y.width=x.width∧x.low=0:=by
 cases h with
 |un k w z y _ _ _ hy=>exact⟨y,rfl,hy,rfl⟩
 |_=>simp only[aZ] at hk;omega
theorem NC.wid_inv{x:Tr}(h:NC x)(hk:x.kind=22∨x.kind=23):∃y,x.sub=[y]∧y.width≤x.width∧x.low=0:=by
 cases h with
 |wid k w z y _ _ _ hy=>exact⟨y,rfl,hy,rfl⟩
 |_=>simp only[aZ] at hk;omega
theorem NC.ext_inv{x:Tr}(h:NC x)(hk:x.kind=21):∃y,x.sub=[y]∧0≤x.low∧1≤y.width∧y.width≤64∧x.low+x.width≤y.width:=by
 cases h with
 |ext w l z y _ _ h3 h4 h5 h6=>exact⟨y,rfl,h3,h4,h5,h6⟩
 |_=>simp only[aZ] at hk;omega
theorem one_sub{x y:Tr}(h:x.sub=[y]):aF x=aF y+1∧eg x=eg y+1:=by
 rw[bz,eT,h]
 simp only[bM,dt]
 omega
structure Good(t r:Tr):Prop where
 wf:jl r
 cz:zj r
 width:r.width=t.width
 size:aF r≤aF t
 dep:eg r≤eg t
theorem size_pos(t:Tr):1≤aF t:=by rw[bz];omega
theorem UJ(t:Tr):1≤eg t:=by rw[eT];omega
theorem sS{t:Tr}(h1:1≤t.width)(h2:t.width≤64){v:Int}(h0:0≤v)(hv:v≤br t.width):Good t (kP t.width v):=by
 refine⟨(iK _).2 ⟨.con _ _ _ h1 h2 hv,h0,by simp[kP,aq]⟩,(ll _).2 ⟨rfl,by simp[kP,aq]⟩,rfl,size_pos t,UJ t⟩
theorem ku{t x:Tr}(hx:x∈t.sub)(hw:jl x)(hz:zj x)(he:x.width=t.width):Good t x:=by
 have:=kG hx
 have:=UK hx
 have:=bz t
 have:=eT t
 exact⟨hw,hz,he,by omega,by omega⟩
theorem LH{t:Tr}(hn:NC t)(hb:0≤t.bits)(hz:t.z=false)(hs:∀x∈t.sub,jl x∧zj x):Good t t:=
 ⟨(iK _).2 ⟨hn,hb,fun x hx=>(hs x hx).1⟩,(ll _).2 ⟨hz,fun x hx=>(hs x hx).2⟩,rfl,Nat.le_refl _,Nat.le_refl _⟩
theorem gZ{t:Tr}(h0:Good t t):∀l:List (Bool×Tr),(∀p∈l,p.1=true→Good t p.2)→Good t (pick t l)
 |[],_=>h0
 |(c,o)::r,h=>by
  unfold pick
  by_cases hc:c=true
  ·rw[if_pos hc];exact h (c,o) (by simp) hc
  ·rw[if_neg hc];exact gZ h0 r fun p hp=>h p (by simp[hp])
theorem bV(t:Tr):ez t=true↔t.kind≠24∧t.sub≠[]∧∀x∈t.sub,x.kind=1:=by
 unfold ez
 simp[and_assoc]
theorem B0{w:Int}(h1:1≤w)(h2:w≤64):1≤br w:=by
 obtain⟨w,rfl⟩:∃n:Nat,w=n:=⟨w.toNat,by omega⟩
 rw[qi (by omega) (by omega)]
 have:2^1≤2^w:=Nat.pow_le_pow_right (by decide) (by omega)
 omega
theorem Kn{t:Tr}(hn:NC t)(hb:0≤t.bits)(hz:t.z=false)(hs:∀x∈t.sub,jl x∧zj x):Good t (stepT t):=by
 have hw:=hn.wide
 have gs:=LH hn hb hz hs
 have m1:=B0 hw.1 hw.2
 unfold stepT
 by_cases hc:ez t=true
 ·rw[if_pos hc]
  obtain⟨c1,c2,c3⟩:=(bV t).1 hc
  have:=SG hn (fun x hx=>(hs x hx).1) c3 c2 c1
  refine sS hw.1 hw.2 (by omega) ?_
  obtain⟨w,lr⟩:∃n:Nat,t.width=n:=⟨t.width.toNat,by omega⟩
  rw[lr] at this ⊢
  rw[qi (by omega) (by omega)]
  simp only[Int.toNat_natCast] at this
  omega
 rw[if_neg hc]
 have n0:=sS hw.1 hw.2 (t:=t) (v:=0) (by omega) (by omega)
 have n1:=sS hw.1 hw.2 (t:=t) (v:=1) (by omega) (by omega)
 have nm:=sS hw.1 hw.2 (t:=t) (v:=br t.width) (by omega) (by omega)
 cases hn with
 |con=>exact gs
 |var=>exact gs
 |un k w z x h1 h2 hk hx=>
  obtain⟨x1,x2⟩:=hs x (by simp[aq])
  refine gZ gs _ ?_
  have Vq:fp (.mk k w 0 ⟨#[]⟩ 0 z [x])=[(decide (x.kind=k),nth x.sub 0)]:=by rcases hk with rfl|rfl<;>rfl
  rw[Vq]
  simp only[List.mem_singleton]
  rintro p rfl hp
  have hp:x.kind=k:=of_decide_eq_true hp
  obtain⟨y,hy,hyw,_⟩:=x1.nc.un_inv (by omega)
  have y1:=x1.sub y (by rw[hy];simp)
  have y2:=((ll x).1 x2).2 y (by rw[hy];simp)
  obtain⟨e1,e2⟩:=one_sub hy
  rw[hy]
  refine⟨y1,y2,by show y.width=w;omega, ?_, ?_⟩
  ·show aF y≤_
   simp only[aF,bM];omega
  ·show eg y≤_
   simp only[eg,dt];omega
 |bin k w z x y h1 h2 k1 k2 hx hy=>
  have gx:=ku (t:=.mk k w 0 ⟨#[]⟩ 0 z [x,y]) (x:=x) (by simp[aq]) (hs x (by simp[aq])).1 (hs x (by simp[aq])).2 hx
  have gy:=ku (t:=.mk k w 0 ⟨#[]⟩ 0 z [x,y]) (x:=y) (by simp[aq]) (hs y (by simp[aq])).1 (hs y (by simp[aq])).2 hy
  refine gZ gs _ ?_
  have:k=5∨k=6∨k=7∨k=8∨k=9∨k=10∨k=11∨k=12∨k=13∨k=14∨k=15:=by omega
  simp only[bS] at n0 n1 nm
  rcases this with rfl|rfl|rfl|rfl|rfl|rfl|rfl|rfl|rfl|rfl|rfl<;>intro p hp _<;>
   simp only[fp,aZ,aq,bS,cr,cL,dC,reduceIte,Int.reduceEq,or_self,or_false,false_or,or_true,true_or,List.mem_cons,List.not_mem_nil] at hp<;>
   first
   |(rcases hp with rfl|rfl|rfl|rfl|rfl<;>assumption)
   |(rcases hp with rfl|rfl|rfl|rfl<;>assumption)
   |(rcases hp with rfl|rfl|rfl<;>assumption)
   |(rcases hp with rfl|rfl<;>assumption)
   |(subst hp;assumption)
 |cmp k z x y k1 k2 hy=>
  refine gZ gs _ ?_
  have:k=16∨k=17∨k=18:=by omega
  simp only[bS] at n0 n1 nm
  rcases this with rfl|rfl|rfl<;>intro p hp _<;>
   simp only[fp,aZ,aq,bS,cr,cL,dC,reduceIte,Int.reduceEq,or_self,or_false,false_or,or_true,true_or,List.mem_cons,List.not_mem_nil] at hp<;>
   first
   |(rcases hp with rfl|rfl<;>assumption)
   |(subst hp;assumption)
 |ite w z x y v h1 h2 hx hy hv=>
  have gy:=ku (t:=.mk 19 w 0 ⟨#[]⟩ 0 z [x,y,v]) (x:=y) (by simp[aq]) (hs y (by simp[aq])).1 (hs y (by simp[aq])).2 hy
  have gv:=ku (t:=.mk 19 w 0 ⟨#[]⟩ 0 z [x,y,v]) (x:=v) (by simp[aq]) (hs v (by simp[aq])).1 (hs v (by simp[aq])).2 hv
  refine gZ gs _ ?_
  simp only[fp,aZ,aq,bS,cr,cL,dC,fE,reduceIte,Int.reduceEq,or_self,or_false,false_or,or_true,true_or,List.mem_cons,List.not_mem_nil]
  rintro p rfl _
  show Good _ (if bR x 1=true then y else v)
  split<;>assumption
 |cat w z x y h1 h2 hx hy lr=>
  refine gZ gs _ ?_
  obtain⟨y1,y2⟩:=hs y (by simp[aq])
  simp only[fp,aZ,aq,bS,cr,cL,dC,fE,reduceIte,Int.reduceEq,or_self,or_false,false_or,or_true,true_or,List.mem_cons,List.not_mem_nil]
  rintro p rfl _
  have key:jl (gF y)∧zj (gF y)∧(gF y).width≤y.width∧aF (gF y)≤aF y∧eg (gF y)≤eg y:=by
   unfold gF
   split
   ·rename_i h22
    obtain⟨q,hq,hqw,_⟩:=y1.nc.wid_inv (Or.inl h22)
    obtain⟨e1,e2⟩:=one_sub hq
    rw[hq]
    refine⟨y1.sub q (by rw[hq];simp),((ll y).1 y2).2 q (by rw[hq];simp),hqw, ?_, ?_⟩<;>simp only[List.headD_cons]<;>omega
   ·exact⟨y1,y2,Int.le_refl _,Nat.le_refl _,Nat.le_refl _⟩
  obtain⟨j1,j2,j3,j4,j5⟩:=key
  refine⟨(iK _).2 ⟨.wid 22 w false _ h1 h2 (Or.inl rfl) (by omega),by simp[fG],by simpa [aq] using j1⟩,(ll _).2 ⟨rfl,by simpa [aq] using j2⟩,rfl, ?_, ?_⟩
  ·simp only[aF,bM];omega
  ·simp only[eg,dt];omega
 |ext w l z x h1 h2 hl hx tt lr=>
  refine gZ gs _ ?_
  obtain⟨x1,x2⟩:=hs x (by simp[aq])
  simp only[fp,aZ,aq,bS,cr,cL,dC,fE,reduceIte,Int.reduceEq,or_self,or_false,false_or,or_true,true_or,List.mem_cons,List.not_mem_nil]
  rintro p (rfl|rfl) hp
  ·exact ku (by simp[aq]) x1 x2 (of_decide_eq_true hp)
  ·have hp:x.kind=21:=of_decide_eq_true hp
   obtain⟨q,hq,h3,h4,h5,h6⟩:=x1.nc.ext_inv hp
   obtain⟨e1,e2⟩:=one_sub hq
   have q1:=x1.sub q (by rw[hq];simp)
   have q2:=((ll x).1 x2).2 q (by rw[hq];simp)
   rw[hq]
   refine⟨(iK _).2 ⟨.ext w (l+x.low) false q h1 h2 (by omega) h4 h5 (by omega),by simp[fG],by simpa [aq] using q1⟩,(ll _).2 ⟨rfl,by simpa [aq] using q2⟩,rfl, ?_, ?_⟩
   ·simp only[aF,bM];omega
   ·simp only[eg,dt];omega
 |wid k w z x h1 h2 hk hx=>
  refine gZ gs _ ?_
  obtain⟨x1,x2⟩:=hs x (by simp[aq])
  have Vq:fp (.mk k w 0 ⟨#[]⟩ 0 z [x])=[(decide (x.width=w),x),(decide (x.kind=k),.mk k w 0 ⟨#[]⟩ (0+x.low) false x.sub)]:=by
   rcases hk with rfl|rfl<;>rfl
  rw[Vq]
  simp only[List.mem_cons,List.not_mem_nil,or_false]
  rintro p (rfl|rfl) hp
  ·exact ku (by simp[aq]) x1 x2 (of_decide_eq_true hp)
  ·have hp:x.kind=k:=of_decide_eq_true hp
   obtain⟨q,hq,h3,h4⟩:=x1.nc.wid_inv (by omega)
   obtain⟨e1,e2⟩:=one_sub hq
   have q1:=x1.sub q (by rw[hq];simp)
   have q2:=((ll x).1 x2).2 q (by rw[hq];simp)
   have e0:(0:Int)+x.low=0:=by omega
   rw[hq,e0]
   refine⟨(iK _).2 ⟨.wid k w false q h1 h2 hk (by omega),by simp[fG],by simpa [aq] using q1⟩,(ll _).2 ⟨rfl,by simpa [aq] using q2⟩,rfl, ?_, ?_⟩
   ·simp only[aF,bM];omega
   ·simp only[eg,dt];omega
 |ld=>exact gs
theorem NC.map{t:Tr}(h:NC t)(z:Bool)(f:Tr→Tr)(hf:∀x∈t.sub,(f x).width=x.width):NC (.mk t.kind t.width t.bits t.name t.low z (t.sub.map f)):=by
 cases h with
 |con w b z' h1 h2 h3=>exact .con w b z h1 h2 h3
 |var w n z' h1 h2 h3=>exact .var w n z h1 h2 h3
 |un k w z' x h1 h2 h3 h4=>
  simp only[aq,List.mem_cons,List.not_mem_nil,or_false,forall_eq] at hf
  exact .un k w z (f x) h1 h2 h3 (by omega)
 |bin k w z' x y h1 h2 h3 h4 h5 h6=>
  simp only[aq,List.mem_cons,List.not_mem_nil,or_false,forall_eq_or_imp,forall_eq] at hf
  exact .bin k w z (f x) (f y) h1 h2 h3 h4 (by omega) (by omega)
 |cmp k z' x y h1 h2 h3=>
  simp only[aq,List.mem_cons,List.not_mem_nil,or_false,forall_eq_or_imp,forall_eq] at hf
  exact .cmp k z (f x) (f y) h1 h2 (by omega)
 |ite w z' x y v h1 h2 h3 h4 h5=>
  simp only[aq,List.mem_cons,List.not_mem_nil,or_false,forall_eq_or_imp,forall_eq] at hf
  exact .ite w z (f x) (f y) (f v) h1 h2 (by omega) (by omega) (by omega)
 |cat w z' x y h1 h2 h3 h4 h5=>
  simp only[aq,List.mem_cons,List.not_mem_nil,or_false,forall_eq_or_imp,forall_eq] at hf
  exact .cat w z (f x) (f y) h1 h2 (by omega) (by omega) (by omega)
 |ext w l z' x h1 h2 h3 h4 h5 h6=>
  simp only[aq,List.mem_cons,List.not_mem_nil,or_false,forall_eq] at hf
  exact .ext w l z (f x) h1 h2 h3 (by omega) (by omega) (by omega)
 |wid k w z' x h1 h2 h3 h4=>
  simp only[aq,List.mem_cons,List.not_mem_nil,or_false,forall_eq] at hf
  exact .wid k w z (f x) h1 h2 h3 (by omega)
 |ld w z' x h1 h2 h3=>exact .ld w z (f x) h1 h2 h3
theorem tO(f:Tr→Tr):∀l:List Tr,(∀x∈l,aF (f x)≤aF x)→bM (l.map f)≤bM l
 |[],_=>Nat.le_refl _
 |x::l,h=>by
  have h1:=h x (by simp)
  have h2:=tO f l fun y hy=>h y (by simp[hy])
  simp only[List.map_cons,bM];omega
theorem Fp(f:Tr→Tr):∀l:List Tr,(∀x∈l,eg (f x)≤eg x)→dt (l.map f)≤dt l
 |[],_=>Nat.le_refl _
 |x::l,h=>by
  have h1:=h x (by simp)
  have h2:=Fp f l fun y hy=>h y (by simp[hy])
  simp only[List.map_cons,dt];omega
def lV(t:Tr):Tr:=.mk t.kind t.width t.bits t.name t.low false (t.sub.map lx)
theorem xe(t:Tr):lx t=stepT (lV t):=Ts t
theorem O'{t:Tr}(h:jl t)(hg:∀x∈t.sub,Good x (lx x)):NC (lV t)∧0≤(lV t).bits∧(lV t).z=false∧(∀x∈(lV t).sub,jl x∧zj x)∧aF (lV t)≤aF t∧eg (lV t)≤eg t:=by
 have h':=(iK t).1 h
 refine⟨h'.1.map _ _ fun x hx=>(hg x hx).width,h'.2.1,by simp[lV,Zg,aq], ?_, ?_, ?_⟩
 ·intro x hx
  simp only[lV,aq,List.mem_map] at hx
  obtain⟨y,hy,rfl⟩:=hx
  exact⟨(hg y hy).wf,(hg y hy).cz⟩
 ·rw[bz,bz]
  have:=tO lx t.sub fun x hx=>(hg x hx).size
  simp only[lV,aq] at this ⊢;omega
 ·rw[eT,eT]
  have:=Fp lx t.sub fun x hx=>(hg x hx).dep
  simp only[lV,aq] at this ⊢;omega
theorem DP:∀(n:Nat) (t:Tr),aF t≤n→jl t→Good t (lx t)
 |0,t,h,_=>by have:=size_pos t;omega
 |n+1,t,h,hw=>by
  have hg:∀x∈t.sub,Good x (lx x):=fun x hx=>DP n x (by have:=kG hx;have:=bz t;omega) (hw.sub x hx)
  obtain⟨m1,m2,m3,m4,m5,m6⟩:=O' hw hg
  have:=Kn m1 m2 m3 m4
  rw[xe]
  exact⟨this.wf,this.cz,this.width,Nat.le_trans this.size m5,Nat.le_trans this.dep m6⟩
theorem Ag{t:Tr}(h:jl t):Good t (lx t):=DP _ t (Nat.le_refl _) h
theorem Wn{t:Tr}(h:jl t):NC (lV t)∧0≤(lV t).bits∧(lV t).z=false∧(∀x∈(lV t).sub,jl x∧zj x)∧aF (lV t)≤aF t∧eg (lV t)≤eg t:=O' h fun x hx=>Ag (h.sub x hx)
end Go.En.V
