/- Part of the proof of CallingPlaces: engine, contracts or law, joined by a program from the texts Y22 Y23 Y24 Y25. -/
import Derived.Test.YtlcechkalldhfaaGreatDoorKbe
import Derived.Test.YtlcechkalldhfaaGreatDoorKbf
import Derived.Test.YtlcechkalldhfaaGreatDoorKbg
set_option linter.all false
set_option maxRecDepth 100000
set_option maxHeartbeats 4000000
namespace Go.En.V
open Go.Proofs
def VS:Sh:=.st [.int .u8,.int .i64,.int .u64,.str,.int .i64,.sl (.bot 6)]
def MQ(n:Nat):Sh:=ng VS 6 n
def aaZ:Sh:=.st [.str,.int .i64,.int .i64,.int .i64]
def ad2:Sh:=.st [.str,.sl (.int .i64)]
def aaj:Sh:=.st [.str,.int .i64]
def abh:Sh:=.st [.int .i64,.int .i64]
def abH:Sh:=.st [.str,.int .u8,.int .i64,.int .i64,.sl abh,.int .i64]
def ads(t:Sh):Sh:=.st [.int .u8,.int .i64,.int .i64,t,t,t]
def acw(t:Sh):Sh:=.st [.str,.int .u64,.int .u64,.sl abH,.sl (ads t),.int .i64,.int .i64,.int .i64,.int .i64]
def Wo(t:Sh):Sh:=.st [.str,.int .i64,.int .i64,.sl aaZ,.sl ad2,.sl aaj,.sl (acw t)]
def Bo:Sh:=.st [.int .i64,.sl (.int .i64)]
def adB:Sh:=.st [.int .i64,Bo,Bo,Bo]
def W7:Sh:=.st [.int .i64,.int .i64,.int .i64,.sl (.int .i64),.int .i64,.sl (.int .i64),.int .i64,.sl adB,Bo,Bo,Bo,Bo,.int .i64]
def Ri(x:Int):Prop:=-9223372036854775808≤x∧x≤9223372036854775807
def Ru(x:Int):Prop:=0≤x∧x<18446744073709551616
theorem dk{x:PV}(h:Is (.int .i64) x):∃n,x=.int .i64 n∧Ri n:=by
 obtain⟨n,rfl,hw⟩:=h
 refine⟨n,rfl, ?_⟩
 simp[Lit.wf,IntKind.min,IntKind.max,IntKind.signed,IntKind.bits] at hw
 unfold Ri;omega
theorem HQ{x:PV}(h:Is (.int .u64) x):∃n,x=.int .u64 n∧Ru n:=by
 obtain⟨n,rfl,hw⟩:=h
 refine⟨n,rfl, ?_⟩
 simp[Lit.wf,IntKind.min,IntKind.max,IntKind.signed,IntKind.bits] at hw
 unfold Ru;omega
theorem Ps{x:PV}(h:Is (.int .u8) x):∃n,x=.int .u8 n∧0≤n∧n≤255:=by
 obtain⟨n,rfl,hw⟩:=h
 refine⟨n,rfl, ?_⟩
 simp[Lit.wf,IntKind.min,IntKind.max,IntKind.signed,IntKind.bits] at hw
 omega
theorem uh{x:PV}(h:Is .str x):∃s,x=.str s:=by
 obtain⟨s,rfl,_⟩:=h
 exact⟨s,rfl⟩
theorem jn{α:Type}{s:Sh}(c:α→PV)(Q:α→Prop)(hd:∀y,Is s y→∃a,y=c a∧Q a){x:PV}(h:Is (.sl s) x):∃l:List α,x=.sl (l.map c)∧∀a∈l,Q a:=by
 obtain⟨es,rfl,_,he⟩:=h
 have:∀es:List PV,(∀y∈es,Is s y)→∃l:List α,es=l.map c∧∀a∈l,Q a:=by
  intro es
  induction es with
  |nil=>intro _;exact⟨[],rfl,by simp⟩
  |cons y es ih=>
   intro h
   obtain⟨a,ha,hq⟩:=hd y (h y (by simp))
   obtain⟨l,hl,hql⟩:=ih fun z hz=>h z (by simp[hz])
   exact⟨a::l,by rw[ha,hl];rfl,by simpa [hq] using hql⟩
 obtain⟨l,rfl,hl⟩:=this es he
 exact⟨l,rfl,hl⟩
theorem wi{x:PV}(h:Is (.sl (.int .i64)) x):∃l:List Int,x=ints l∧∀a∈l,Ri a:=jn i64 Ri (fun y hy=>dk hy) h
theorem wh:∀(n:Nat) (x:PV),Is (MQ n) x→∃t:Tr,x=aT t∧mZ t∧zj t
 |0,x,h=>h.elim
 |n+1,x,h=>by
  simp only[MQ,ng,VS,Sh.sub,Sh.subs,Is,jX] at h
  obtain⟨cs,rfl,y1,r1,h1,rfl,y2,r2,h2,rfl,y3,r3,h3,rfl,y4,r4,h4,rfl,y5,r5,h5,rfl,y6,r6,h6,rfl,rfl⟩:=h
  obtain⟨k,rfl,k1⟩:=Ps h1
  obtain⟨w,rfl,w1⟩:=dk h2
  obtain⟨b,rfl,b1⟩:=HQ h3
  obtain⟨nm,rfl⟩:=uh h4
  obtain⟨l,rfl,l1⟩:=dk h5
  obtain⟨s,rfl,s1⟩:=jn aT (fun t=>mZ t∧zj t) (fun y hy=>by
   obtain⟨t,h1,h2⟩:=wh n y hy
   exact⟨t,h1,h2⟩) h6
  refine⟨.mk k w b nm l false s, ?_,(pr _).2 ⟨k1,b1,w1,l1,fun x hx=>(s1 x hx).1⟩,(ll _).2 ⟨rfl,fun x hx=>(s1 x hx).2⟩⟩
  simp[aT,bA,PV.cells]
theorem ab9{x:PV}(h:Is aaZ x):∃r:pT,x=yN r∧True:=by
 simp only[aaZ,Is,jX] at h
 obtain⟨cs,rfl,y1,r1,h1,rfl,y2,r2,h2,rfl,y3,r3,h3,rfl,y4,r4,h4,rfl,rfl⟩:=h
 obtain⟨a1,rfl,_⟩:=h1
 obtain⟨a2,rfl,_⟩:=h2
 obtain⟨a3,rfl,_⟩:=h3
 obtain⟨a4,rfl,_⟩:=h4
 exact⟨⟨a1,a2,a3,a4⟩,by simp[yN,gN,PV.cells,i64],trivial⟩
theorem acg{x:PV}(h:Is ad2 x):∃r:qw,x=n4 r∧True:=by
 simp only[ad2,jX] at h
 rw[Is] at h
 obtain⟨cs,rfl,h⟩:=h
 simp only[jX] at h
 obtain⟨y1,r1,h1,rfl,y2,r2,h2,rfl,rfl⟩:=h
 obtain⟨a1,rfl⟩:=uh h1
 obtain⟨a2,rfl,_⟩:=wi h2
 exact⟨⟨a1,a2⟩,by simp[n4,fJ,PV.cells],trivial⟩
theorem ab8{x:PV}(h:Is aaj x):∃r:FY,x=CJ r∧True:=by
 rw[aaj,Is] at h
 obtain⟨cs,rfl,h⟩:=h
 simp only[jX] at h
 obtain⟨y1,r1,h1,rfl,y2,r2,h2,rfl,rfl⟩:=h
 obtain⟨a1,rfl⟩:=uh h1
 obtain⟨a2,rfl,_⟩:=dk h2
 exact⟨⟨a1,a2⟩,by simp[CJ,pV,PV.cells,i64],trivial⟩
theorem aca{x:PV}(h:Is abh x):∃r:rR,x=vS r∧True:=by
 rw[abh,Is] at h
 obtain⟨cs,rfl,h⟩:=h
 simp only[jX] at h
 obtain⟨y1,r1,h1,rfl,y2,r2,h2,rfl,rfl⟩:=h
 obtain⟨a1,rfl,_⟩:=dk h1
 obtain⟨a2,rfl,_⟩:=dk h2
 exact⟨⟨a1,a2⟩,by simp[vS,pW,PV.cells,i64],trivial⟩
theorem acb{x:PV}(h:Is abH x):∃r:n8,x=l_ r∧True:=by
 rw[abH,Is] at h
 obtain⟨cs,rfl,h⟩:=h
 simp only[jX] at h
 obtain⟨y1,r1,h1,rfl,y2,r2,h2,rfl,y3,r3,h3,rfl,y4,r4,h4,rfl,y5,r5,h5,rfl,y6,r6,h6,rfl,rfl⟩:=h
 obtain⟨a1,rfl⟩:=uh h1
 obtain⟨a2,rfl,_⟩:=Ps h2
 obtain⟨a3,rfl,_⟩:=dk h3
 obtain⟨a4,rfl,_⟩:=dk h4
 obtain⟨a5,rfl,_⟩:=jn vS (fun _=>True) (fun y hy=>aca hy) h5
 obtain⟨a6,rfl,_⟩:=dk h6
 exact⟨⟨a1,a2,a3,a4,a5,a6⟩,by simp[l_,dI,PV.cells,i64],trivial⟩
def XU(e:jY):Prop:=mZ e.addr∧mZ e.val∧mZ e.cond
theorem ace(n:Nat){x:PV}(h:Is (ads (MQ n)) x):∃r:jY,x=s8 r∧XU r:=by
 rw[ads,Is] at h
 obtain⟨cs,rfl,h⟩:=h
 simp only[jX] at h
 obtain⟨y1,r1,h1,rfl,y2,r2,h2,rfl,y3,r3,h3,rfl,y4,r4,h4,rfl,y5,r5,h5,rfl,y6,r6,h6,rfl,rfl⟩:=h
 obtain⟨a1,rfl,_⟩:=Ps h1
 obtain⟨a2,rfl,_⟩:=dk h2
 obtain⟨a3,rfl,_⟩:=dk h3
 obtain⟨a4,rfl,g4,_⟩:=wh n _ h4
 obtain⟨a5,rfl,g5,_⟩:=wh n _ h5
 obtain⟨a6,rfl,g6,_⟩:=wh n _ h6
 refine⟨⟨a1,a2,a3,a4,a5,a6⟩, ?_,g4,g5,g6⟩
 have e:∀t:Tr,(aT t).cells=aC t:=fun t=>rfl
 simp[s8,b_,PV.cells,i64]
 rfl
structure XT(s:dh):Prop where
 mask:Ru s.mask
 mat:Ru s.mat
 effs:∀e∈s.effs,XU e
theorem acd(n:Nat){x:PV}(h:Is (acw (MQ n)) x):∃r:dh,x=s7 r∧XT r:=by
 rw[acw,Is] at h
 obtain⟨cs,rfl,h⟩:=h
 simp only[jX] at h
 obtain⟨y1,r1,h1,rfl,y2,r2,h2,rfl,y3,r3,h3,rfl,y4,r4,h4,rfl,y5,r5,h5,rfl,y6,r6,h6,rfl,y7,r7,h7,rfl,y8,r8,h8,rfl,y9,r9,h9,rfl,rfl⟩:=h
 obtain⟨a1,rfl⟩:=uh h1
 obtain⟨a2,rfl,g2⟩:=HQ h2
 obtain⟨a3,rfl,g3⟩:=HQ h3
 obtain⟨a4,rfl,_⟩:=jn l_ (fun _=>True) (fun y hy=>acb hy) h4
 obtain⟨a5,rfl,g5⟩:=jn s8 XU (fun y hy=>ace n hy) h5
 obtain⟨a6,rfl,_⟩:=dk h6
 obtain⟨a7,rfl,_⟩:=dk h7
 obtain⟨a8,rfl,_⟩:=dk h8
 obtain⟨a9,rfl,_⟩:=dk h9
 exact⟨⟨a1,a2,a3,a4,a5,a6,a7,a8,a9⟩,by simp[s7,aU,PV.cells,i64],g2,g3,g5⟩
def Vu(m:aw):Prop:=∀s∈m.instrs,XT s
theorem aud(n:Nat){x:PV}(h:Is (Wo (MQ n)) x):∃m:aw,x=JT m∧Vu m:=by
 rw[Wo,Is] at h
 obtain⟨cs,rfl,h⟩:=h
 simp only[jX] at h
 obtain⟨y1,r1,h1,rfl,y2,r2,h2,rfl,y3,r3,h3,rfl,y4,r4,h4,rfl,y5,r5,h5,rfl,y6,r6,h6,rfl,y7,r7,h7,rfl,rfl⟩:=h
 obtain⟨a1,rfl⟩:=uh h1
 obtain⟨a2,rfl,_⟩:=dk h2
 obtain⟨a3,rfl,_⟩:=dk h3
 obtain⟨a4,rfl,_⟩:=jn yN (fun _=>True) (fun y hy=>ab9 hy) h4
 obtain⟨a5,rfl,_⟩:=jn n4 (fun _=>True) (fun y hy=>acg hy) h5
 obtain⟨a6,rfl,_⟩:=jn CJ (fun _=>True) (fun y hy=>ab8 hy) h6
 obtain⟨a7,rfl,g7⟩:=jn s7 XT (fun y hy=>acd n hy) h7
 exact⟨⟨a1,a2,a3,a4,a5,a6,a7⟩,by simp[JT,ah,PV.cells,i64],g7⟩
def YU(t:gf):Prop:=∀x∈t.args,Ri x
theorem re{x:PV}(h:Is Bo x):∃t:gf,x=zJ t∧YU t:=by
 rw[Bo,Is] at h
 obtain⟨cs,rfl,h⟩:=h
 simp only[jX] at h
 obtain⟨y1,r1,h1,rfl,y2,r2,h2,rfl,rfl⟩:=h
 obtain⟨a1,rfl,_⟩:=dk h1
 obtain⟨a2,rfl,g2⟩:=wi h2
 exact⟨⟨a1,a2⟩,by simp[zJ,bm,PV.cells,i64],g2⟩
def XS(v:zU):Prop:=YU v.copy∧YU v.load∧YU v.store
theorem acf{x:PV}(h:Is adB x):∃v:zU,x=iG v∧XS v:=by
 rw[adB,Is] at h
 obtain⟨cs,rfl,h⟩:=h
 simp only[jX] at h
 obtain⟨y1,r1,h1,rfl,y2,r2,h2,rfl,y3,r3,h3,rfl,y4,r4,h4,rfl,rfl⟩:=h
 obtain⟨a1,rfl,_⟩:=dk h1
 obtain⟨a2,rfl,g2⟩:=re h2
 obtain⟨a3,rfl,g3⟩:=re h3
 obtain⟨a4,rfl,g4⟩:=re h4
 refine⟨⟨a1,a2,a3,a4⟩, ?_,g2,g3,g4⟩
 simp[iG,ew,PV.cells,i64]
 rfl
structure XV(c:Conv):Prop where
 moves:∀v∈c.moves,XS v
 adjust:YU c.adjust
 call:YU c.call
 leave:YU c.leave
 nop:YU c.nop
 args:∀x∈c.args,Ri x
theorem aue{x:PV}(h:Is W7 x):∃c:Conv,x=JU c∧XV c:=by
 rw[W7,Is] at h
 obtain⟨cs,rfl,h⟩:=h
 simp only[jX] at h
 obtain⟨y1,r1,h1,rfl,y2,r2,h2,rfl,y3,r3,h3,rfl,y4,r4,h4,rfl,y5,r5,h5,rfl,y6,r6,h6,rfl,y7,r7,h7,rfl,y8,r8,h8,rfl,y9,r9,h9,rfl,y10,r10,jU,rfl,y11,r11,nz,rfl,y12,r12,wt,rfl,y13,r13,Uy,rfl,rfl⟩:=h
 obtain⟨a1,rfl,_⟩:=dk h1
 obtain⟨a2,rfl,_⟩:=dk h2
 obtain⟨a3,rfl,_⟩:=dk h3
 obtain⟨a4,rfl,g4⟩:=wi h4
 obtain⟨a5,rfl,_⟩:=dk h5
 obtain⟨a6,rfl,_⟩:=wi h6
 obtain⟨a7,rfl,_⟩:=dk h7
 obtain⟨a8,rfl,g8⟩:=jn iG XS (fun y hy=>acf hy) h8
 obtain⟨a9,rfl,g9⟩:=re h9
 obtain⟨a10,rfl,MD⟩:=re jU
 obtain⟨a11,rfl,gz⟩:=re nz
 obtain⟨a12,rfl,AL⟩:=re wt
 obtain⟨a13,rfl,_⟩:=dk Uy
 refine⟨⟨a1,a2,a3,a4,a5,a6,a7,a8,a9,a10,a11,a12,a13⟩, ?_,g8,g9,MD,gz,AL,g4⟩
 simp[JU,ax,PV.cells,i64]
 rfl
theorem GG:∀(n:Nat) (t:Tr),Dp n t→jl t→F1 n t
 |0,t,h,_=>h.elim
 |n+1,t,h,hw=>by
  refine⟨fun hk=> ?_,fun x hx=>GG n x (h.2 x hx) (hw.sub x hx)⟩
  have hn:=hw.nc
  cases hn with
  |ld=>simp[aq]
  |con=>simp[aZ] at hk
  |var=>simp[aZ] at hk
  |un k=>simp only[aZ] at hk;omega
  |bin k=>simp only[aZ] at hk;omega
  |cmp k=>simp only[aZ] at hk;omega
  |ite=>simp[aZ] at hk
  |cat=>simp[aZ] at hk
  |ext=>simp[aZ] at hk
  |wid k=>simp only[aZ] at hk;omega
theorem P4{t:Tr}(hr:mZ t)(hd:Dp 80 t)(hs:aF t≤500):Gt t∧Gr t:=
 ⟨⟨hd,⟨80,OJ 80 t hr hd⟩,hs,fun h=>GG 80 t hd (jE hr h)⟩,⟨hd,hs,fun h=>GG 80 t hd (jE hr (by rw[←yK hr];exact h))⟩⟩
theorem yg{m:aw}(h:jd m=false):(m.regs.length≤74∧m.banks.length≤26∧m.units.length≤18∧m.instrs.length≤74)∧(∀b∈m.banks,b.regs.length≤74)∧
  ∀s∈m.instrs,(s.opds.length≤14∧s.effs.length≤14)∧(∀o∈s.opds,o.pieces.length≤14)∧∀e∈s.effs,VK e:=by
 unfold jd at h
 simp only[Bool.or_eq_false_iff,List.any_eq_false] at h
 obtain⟨h1,h2,h3,_⟩:=h
 refine⟨?_,fun b hb=> ?_,fun s hs=> ?_⟩
 ·simp[rJ,aK] at h1
  omega
 ·have:=h2 b hb
  simp[pe,aK] at this
  omega
 ·have:=h3 s hs
  unfold mS at this
  simp only[Bool.not_eq_true,Bool.or_eq_false_iff,List.any_eq_false] at this
  obtain⟨g1,g2,g3⟩:=this
  refine⟨?_,fun o ho=> ?_,fun e he=>JP (by simpa using g3 e he)⟩
  ·simp[pd,aK] at g1
   omega
  ·have:=g2 o ho
   simp[pb,aK] at this
   omega
theorem EY{m:aw}(h:jd m=false)(hr:Vu m):Gm m:=by
 obtain⟨⟨h1,h2,h3,h4⟩,h5,h6⟩:=yg h
 refine⟨by omega,by omega,by omega,by omega,fun b hb=>by have:=h5 b hb;omega,fun s hs=> ?_⟩
 obtain⟨g1,g2,g3⟩:=h6 s hs
 exact⟨by omega,by omega,fun o ho=>by have:=g2 o ho;omega,(hr s hs).mask,(hr s hs).mat⟩
theorem wL{m:aw}(h:jd m=false)(hr:Vu m):∀s∈m.instrs,∀x∈s.effs,(Gt x.addr∧Gt x.val∧Gt x.cond)∧(Gr x.addr∧Gr x.val∧Gr x.cond):=by
 intro s hs x hx
 obtain⟨_,_,g3⟩:=(yg h).2.2 s hs
 obtain⟨r1,r2,r3⟩:=(hr s hs).effs x hx
 obtain⟨⟨a1,a2⟩,⟨b1,b2⟩,c1,c2⟩:=g3 x hx
 have t1:=P4 r1 a1 a2
 have t2:=P4 r2 b1 b2
 have t3:=P4 r3 c1 c2
 exact⟨⟨t1.1,t2.1,t3.1⟩,t1.2,t2.2,t3.2⟩
theorem Fv{c:Conv}(h:l7 c=false):CV c:=by
 simp[l7,lO,px,nL,aK] at h
 obtain⟨h1,h2⟩:=h
 exact⟨by omega,by omega,by omega,fun x hx=>by have:=h2 x hx;omega,by omega,by omega,by omega,by omega⟩
theorem Jc{m:aw}:∀(l:List pT) (seen:List ByteArray),iT m seen l=true→∀r∈l,∃s,tV m s r=true
 |[],_,_,r,hr=>by simp at hr
 |x::l,seen,h,r,hr=>by
  simp only[iT,Bool.and_eq_true] at h
  rcases List.mem_cons.1 hr with rfl|hr
  ·exact⟨seen,h.1⟩
  ·exact Jc l _ h.2 r hr
theorem FB{m:aw}(h:fu m=0):lQ m=true∧jN m=true∧∀s∈m.instrs,zB m s=true:=by
 unfold fu at h
 by_cases h1:lQ m=true
 ·rw[if_pos h1] at h
  by_cases h2:lB m m.instrs.length=true
  ·unfold lB at h2
   rw[Bool.and_eq_true,List.all_eq_true] at h2
   refine⟨h1,h2.1,fun s hs=> ?_⟩
   obtain⟨i,hi,rfl⟩:=List.mem_iff_getElem.1 hs
   have:=h2.2 i (List.mem_range.2 hi)
   unfold Lq at this
   rw[bq _ i hi,Bool.and_eq_true] at this
   exact this.2
  ·rw[if_neg h2] at h;omega
 ·rw[if_neg h1] at h;omega
theorem Jn{m:aw}(hg:jd m=false)(hr:Vu m)(h:fu m=0):MV m:=by
 obtain⟨hs,hf,hi⟩:=FB h
 obtain⟨g1,g2,g3⟩:=yg hg
 unfold jN at hf
 simp only[Bool.and_eq_true] at hf
 obtain⟨f1,⟨_,f2⟩,f3,_⟩:=hf
 unfold vm at f1
 simp only[ak,aK,Bool.and_eq_true,Bool.or_eq_true,decide_eq_true_eq,fU] at f1
 have zq:=yQ f3
 unfold lQ lP at hs
 simp only[Bool.and_eq_true,decide_eq_true_eq,List.all_eq_true] at hs
 have hnl:m.regs.length≤64:=by omega
 refine⟨⟨by omega,by omega,fun b hb=> ?_⟩, ?_, ?_, ?_, ?_,f1.2,qQ m.regs [] f2⟩
 ·obtain⟨b1,b2⟩:=zq b hb
  have:=hs.2.1 b hb
  simp only[jm,decide_eq_true_eq] at this
  exact⟨b1,by omega,fun r hr=>b2 r hr⟩
 ·intro r sM
  obtain⟨sn,hb⟩:=Jc m.regs [] f2 r sM
  unfold tV at hb
  simp only[Bool.and_eq_true] at hb
  obtain⟨⟨_,b1⟩,b2⟩:=hb
  have b1:=(fU _ _ _).1 b1
  refine⟨b1, ?_⟩
  by_cases ho:r.of=-1
  ·rw[if_pos ho,decide_eq_true_eq] at b2
   rw[if_pos ho]
   exact⟨by omega,b2⟩
  ·rw[if_neg ho] at b2
   rw[if_neg ho]
   by_cases hz:cq r.of 0 (IntKind.i64.wrap (m.regs.length-1))=true
   ·rw[if_pos hz] at b2
    rw[Ez _ _ (by omega),fU] at hz
    unfold Ad at b2
    simp only[ak,Bool.and_eq_true,decide_eq_true_eq,fU] at b2
    obtain⟨⟨⟨c1,c2⟩,c3⟩,c4⟩:=b2
    rw[wrap64 (by omega) (by omega)] at c4
    exact⟨by omega,by omega,c1⟩
   ·rw[if_neg hz] at b2;exact absurd b2 (by simp)
 ·intro s Ce
  have hb:=hi s Ce
  obtain⟨⟨e1,e2⟩,_,e3⟩:=g3 s Ce
  unfold zB at hb
  simp only[Bool.and_eq_true] at hb
  obtain⟨⟨_,o1⟩,o2,_⟩:=hb
  rw[qM,Bool.and_eq_true,List.all_eq_true] at o1
  refine⟨by omega,by omega,fun o ho=> ?_,fun e he hk zn=> ?_⟩
  ·obtain⟨i,zp,rfl⟩:=List.mem_iff_getElem.1 ho
   have:=o1.1 i (List.mem_range.2 zp)
   rw[bq _ i zp,Bool.and_eq_true] at this
   have:=this.2
   unfold cY at this
   split at this
   ·simp only[Bool.and_eq_true] at this
    have:=this.2
    split at this
    ·omega
    ·simp only[Bool.and_eq_true,fU] at this
     omega
   ·split at this
    ·simp only[Bool.and_eq_true,decide_eq_true_eq] at this
     omega
    ·exact absurd this (by simp)
  ·rw[List.all_eq_true] at o2
   have:=o2 e he
   unfold rz gW at this
   simp only[Bool.and_eq_true] at this
   have:=this.2.2
   rw[if_pos hk] at this
   simp only[Bool.and_eq_true] at this
   have:=this.2
   by_cases q:e.op=-1∧cq e.reg 0 (m.regs.length-1)=true
   ·have q2:=(fU _ _ _).1 q.2
    omega
   ·rw[if_neg q] at this
    by_cases q2:e.reg=0∧cq e.op 0 (s.opds.length-1)=true
    ·have:=(fU _ _ _).1 q2.2
     omega
    ·rw[if_neg q2] at this;exact absurd this (by simp)
 ·intro s Ce o ho hk
  have hb:=hi s Ce
  unfold zB at hb
  simp only[Bool.and_eq_true] at hb
  have o1:=hb.1.2
  rw[qM,Bool.and_eq_true,List.all_eq_true] at o1
  obtain⟨i,zp,rfl⟩:=List.mem_iff_getElem.1 ho
  have:=o1.1 i (List.mem_range.2 zp)
  rw[bq _ i zp,Bool.and_eq_true] at this
  have:=this.2
  unfold cY at this
  rw[if_pos hk] at this
  simp only[Bool.and_eq_true,fU] at this
  omega
 ·intro s Ce e he
  obtain⟨_,_,e3⟩:=g3 s Ce
  have:=e3 e he
  exact⟨this.1.1,this.2.1.1⟩
def Nt(m:aw)(c:Conv)(t:gf)(b:Int):Bool:=FZ (bc ⟨m,c⟩ t) b
theorem Hk:mZ (default:Tr):=(pr _).2 ⟨by decide,by decide,by decide,by decide,by intro x hx;simp[default,aq] at hx⟩
theorem IV{m:aw}{c:Conv}(hg:jd m=false)(hr:Vu m){t:gf}(h:aG m t false=true):mZ (bc ⟨m,c⟩ t).main.val∧aF (bc ⟨m,c⟩ t).main.val≤500:=by
 unfold aG at h
 simp only[Bool.and_eq_true,decide_eq_true_eq] at h
 obtain⟨s,_,_,hs,hm⟩:=aR h.1 h.2.1
 unfold bc
 simp only[hs]
 rcases ua m s.effs s.effs.length (Nat.le_refl _) with e|e
 ·rw[e]
  exact⟨Hk,by decide⟩
 ·exact⟨((hr s hm).effs _ e).2.1,(wL hg hr s hm _ e).1.2.1.sz⟩
theorem UL{m:aw}{c:Conv}(hg:jd m=false)(hr:Vu m)(hc:l7 c=false)(h:fu m=0):∀n,9000≤n→∀x∈c.moves,0≤x.bank→x.bank<m.banks.length→
  R n 54 [.agg ((aD ⟨m,c⟩).map .p),.p (.str ⟨#[99,111,112,121]⟩),.agg ((bm x.copy).map .p),ai x.bank] []=some (ab (aG m x.copy false&&Nt m c x.copy x.bank),[]):=by
 intro n hn x hx b0 b1
 have hM:=Jn hg hr h
 have hC:=Fv hc
 have ha:=(hC.mv x hx).1
 exact BJ n hn ⟨m,c⟩ x.copy x.bank hM.wb ha hM.ins (fun hs=>(hM.mt ha).vok (p:=⟨m,c⟩) hs) (fun hs=>IV hg hr hs) hM.addr
theorem adx{m:aw}{c:Conv}(hg:jd m=false)(hr:Vu m)(hc:l7 c=false)(Vs:XV c)(h:dG m=0):∀n,14000≤n→∀x∈c.moves,0≤x.bank→x.bank<m.banks.length→
  R n 92 [.agg ((ah m).map .p),.agg ((ax c).map .p),.agg ((bm x.copy).map .p),ai x.bank] []=some (ab (aG m x.copy false&&Nt m c x.copy x.bank),[]):=by
 intro n hn x hx b0 b1
 have h:fu m=0:=by rw[←uK (EY hg hr) (fun s hs e he=>(hr s hs).effs e he)];exact h
 have hM:=Jn hg hr h
 have hC:=Fv hc
 have ha:=(hC.mv x hx).1
 exact Hn n hn m c x.copy (hM.mt ha) x.bank b0 hM.addr (Vs.moves x hx).1 (fun hs=>IV hg hr hs)
theorem abd{m:aw}{c:Conv}(hg:jd m=false)(hr:Vu m)(CP:gf→Int→Bool)(ws:List Int):tT m c CP ws=om m c CP ws∧xb m c CP ws=lS m c CP ws:=by
 have he:=uK (EY hg hr) (fun s hs e he=>(hr s hs).effs e he)
 have h1:tT m c CP ws=om m c CP ws:=by
  unfold tT om Wd so CN
  rw[he]
 refine⟨h1, ?_⟩
 unfold xb lS
 rw[h1]
theorem xW(l:List AV):lY (.box l)=false:=rfl
theorem abY(N:Nat)(hN:18000≤N)(m:aw)(c:Conv)(ws:List Int)(hr:Vu m)(Vs:XV c):R N 3 [.agg ((ah m).map .p),.agg ((ax c).map .p),.p (ints ws)] []=some (ab true,[]):=by
 have aa:rows 3=_:=w3.eq_1
 obtain⟨n,rfl⟩:=up N
 rw[aE 3 Tryz.func3 rfl rfl]
 have g1:=Lf n m (by omega)
 have g2:=L3 n c (by omega)
 cases hg:jd m
 rotate_left
 ·rw[hg] at g1
  simp -implicitDefEqProofs[aa,g1]
 rw[hg] at g1
 cases hc:l7 c
 rotate_left
 ·rw[hc] at g2
  simp -implicitDefEqProofs[aa,g1,g2]
 rw[hc] at g2
 by_cases hw:(100:Int)<ws.length
 ·simp -implicitDefEqProofs[aa,g1,g2,hw]
 have g3:=U3 n c (by omega) hc
 obtain⟨P,g4⟩:=MG 9000 (Nt m c) n m c ws (by omega) (EY hg hr) (fun s hs x hx=>(wL hg hr s hs x hx).1) (Jn hg hr) (Fv hc) (by omega) (by omega) (UL hg hr hc)
 have g5:=Hr 14000 (Nt m c) n m c ws (by omega) (EY hg hr) (fun s hs x hx=>(wL hg hr s hs x hx).2) (fun h=>Jn hg hr (by rw[←uK (EY hg hr) (fun s hs e he=>(hr s hs).effs e he)];exact h)) (Fv hc) (by omega) (by omega) (adx hg hr hc Vs)
 obtain⟨q1,q2⟩:=abd hg hr (Nt m c) (c:=c) ws
 rw[q1,q2] at g5
 have hLl:(lS m c (Nt m c) ws).length≤100:=by
  unfold lS
  split
  ·simp only[List.length_take];omega
  ·simp
 have hL0:om m c (Nt m c) ws≠0→lS m c (Nt m c) ws=[]:=fun h=>by unfold lS;rw[if_neg h]
 have jc:=(Fv hc).al
 have g6:=DK n (lS m c (Nt m c) ws) (lS m c (Nt m c) ws) (by omega) (by omega)
 have g7:=DK n c.args c.args (by omega) (by omega)
 generalize om m c (Nt m c) ws=E at*
 generalize lS m c (Nt m c) ws=L at*
 by_cases hE:E=0
 ·subst hE
  simp only[if_pos] at g4
  simp -implicitDefEqProofs[aa,g1,g2,hw,g3,g4,g5,g6,xW]
  rw[av L.length (fun k=>⟨[(4,.ref 1 0),(7,.ref 2 0),(8,.arr 8 L.length 0 L.length),(12,ab true),(13,ai k)],[.box ((ah m).map .p),.box ((ax c).map .p),.box ((ax c).map .p),.box ((ah m).map .p),.box ((ax c).map .p),.arr 0 1 false [],.box (P.map .p),.arr 0 1 false [],.arr L.length 1 false ((List.replicate k (-7:Int)++L.drop k).map i64)]⟩) (.exit 0,⟨[(4,.ref 1 0),(7,.ref 2 0),(8,.arr 8 L.length 0 L.length),(12,ab true),(13,ai L.length)],[.box ((ah m).map .p),.box ((ax c).map .p),.box ((ax c).map .p),.box ((ah m).map .p),.box ((ax c).map .p),.arr 0 1 false [],.box (P.map .p),.arr 0 1 false [],.arr L.length 1 false ((List.replicate L.length (-7:Int)++L.drop L.length).map i64)]⟩) (by omega) (by simp -implicitDefEqProofs[aa]) (by
   intro k h K
   have w1:=aA h (by omega)
   have hlen:(List.replicate k (-7:Int)).length=k:=by simp
   have hd:L.drop k=L[k]::L.drop (k+1):=List.drop_eq_getElem_cons h
   have e:(List.replicate (k+1) (-7:Int)++L.drop (k+1))=(List.replicate k (-7:Int)++L.drop k).set k (-7):=by
    rw[hd,List.set_append_right _ _ (by omega),hlen,Nat.sub_self,List.set_cons_zero,List.replicate_succ',List.append_assoc]
    rfl
   have oO:(List.replicate k (-7:Int)++L.drop k).length=L.length:=by simp;omega
   rw[e]
   generalize List.replicate k (-7:Int)++L.drop k=A at*
   simp -implicitDefEqProofs[aa,h,w1,oO,List.map_set]) (by simp -implicitDefEqProofs[aa])]
  simp -implicitDefEqProofs[aa,g7]
 ·have hL:=hL0 hE
  subst hL
  rw[if_neg hE,if_neg hE] at g4
  have g8:R n 10 [.p (.sl []),.p (ints [])] []=some (ab true,[]):=g6
  simp -implicitDefEqProofs[aa,g1,g2,hw,g3,g4,g5,g8,xW]
  rw[av 0 (fun k=>⟨[(4,.ref 1 0),(7,.ref 2 0),(8,.arr 7 0 0 0),(12,ab true),(13,ai 0)],[.box ((ah m).map .p),.box ((ax c).map .p),.box ((ax c).map .p),.box ((ah m).map .p),.box ((ax c).map .p),.arr 0 1 false [],.box (P.map .p),.arr 0 1 false []]⟩) (.exit 0,⟨[(4,.ref 1 0),(7,.ref 2 0),(8,.arr 7 0 0 0),(12,ab true),(13,ai 0)],[.box ((ah m).map .p),.box ((ax c).map .p),.box ((ax c).map .p),.box ((ah m).map .p),.box ((ax c).map .p),.arr 0 1 false [],.box (P.map .p),.arr 0 1 false []]⟩) (by omega) (by simp -implicitDefEqProofs[aa]) (by intro k h;omega) (by intro K;simp -implicitDefEqProofs[aa])]
  simp -implicitDefEqProofs[aa,g7]
end Go.En.V
